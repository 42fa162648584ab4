/- The engine, part 9: maps of the call's own. No condition. -/
import Derived.Test.YthdhnkgnbdociaaFnv
set_option linter.all false
namespace Go.Proofs.Ythdhnkgnbdociaa
open Go Go.RowKit
/-! ### The plain map: entries in the order of their first coming -/
section
variable {α β : Type} [DecidableEq α]
def lookM (M : List (α × β)) (k : α) (z : β) : β := ((M.find? fun p => decide (p.1 = k)).map (·.2)).getD z
def inM (M : List (α × β)) (k : α) : Bool := M.any fun p => decide (p.1 = k)
def setM : List (α × β) → α → β → List (α × β)
  | [], _, _ => []
  | p :: M, k, v => if p.1 = k then (k, v) :: M else p :: setM M k v
def putM (M : List (α × β)) (k : α) (v : β) : List (α × β) := if inM M k then setM M k v else M ++ [(k, v)]
theorem inM_cons {p : α × β} {M : List (α × β)} {k : α} : inM (p :: M) k = (decide (p.1 = k) || inM M k) := rfl
theorem lookM_setM (M : List (α × β)) (k j : α) (v z : β) (h : inM M k = true) : lookM (setM M k v) j z = if j = k then v else lookM M j z := by
  induction M with
  | nil => simp [inM] at h
  | cons p M ih =>
    unfold setM
    by_cases e : p.1 = k
    · rw [if_pos e]
      by_cases ej : j = k
      · subst ej; simp [lookM]
      · simp [lookM, ej, Ne.symm ej, e]
    · rw [if_neg e]
      have h' : inM M k = true := by simpa [inM_cons, e] using h
      by_cases ej : p.1 = j
      · have : ¬ j = k := fun h => e (ej.trans h)
        simp [lookM, ej, this]
      · have := ih h'
        simpa [lookM, ej] using this
theorem lookM_putM (M : List (α × β)) (k j : α) (v z : β) : lookM (putM M k v) j z = if j = k then v else lookM M j z := by
  unfold putM
  cases h : inM M k with
  | true => rw [if_pos rfl, lookM_setM M k j v z h]
  | false =>
    rw [if_neg (by simp)]
    unfold lookM
    rw [List.find?_append]
    by_cases ej : j = k
    · subst ej
      have : M.find? (fun p => decide (p.1 = j)) = none := by
        rw [List.find?_eq_none]
        intro p hp
        unfold inM at h
        rw [List.any_eq_false] at h
        exact h p hp
      rw [this]; simp
    · have hk : ¬ k = j := fun h => ej h.symm
      simp [hk, ej]
theorem inM_setM (M : List (α × β)) (k j : α) (v : β) : inM (setM M k v) j = inM M j := by
  induction M with
  | nil => rfl
  | cons p M ih =>
    unfold setM
    split
    · rename_i e; simp [inM_cons, e]
    · simp [inM_cons, ih]
theorem inM_putM (M : List (α × β)) (k j : α) (v : β) : inM (putM M k v) j = (decide (k = j) || inM M j) := by
  unfold putM
  cases h : inM M k with
  | true =>
    rw [if_pos rfl, inM_setM]
    by_cases e : k = j
    · subst e; simp [h]
    · simp [e]
  | false => rw [if_neg (by simp)]; simp [inM, Bool.or_comm]
end

/-! ### Keys -/
/-- how the keys of a map are compared -/
class KeyE (P : Program) (kt : TypeId) {α : Type} (E : Elem α) [DecidableEq α] : Prop where
  desc : ∃ d, P.underlying kt = some d ∧ ∀ a b, Instr.sameNow d (E.val a) (E.val b) = none
  eq : ∀ (a b : α) w, (Op.equal kt (E.val a) (E.val b)).run P w = .ok (decide (a = b)) w
  ck : ∀ (e : Bool) (a : α) w, (Instr.checkKey e 10000 kt (E.val a)).run P w = .ok () w
  bits : ∀ a : α, Instr.sameBits 10000 (E.val a) (E.val a) = true

section
variable {P : Program} {kt et : TypeId} {α β : Type} [DecidableEq α] {EK : Elem α} {EV : Elem β}
def entE (EK : Elem α) (EV : Elem β) (p : (α × β) × Nat) : MapEntry := ⟨EK.val p.1.1, EV.val p.1.2, p.2⟩
def fnd : List (α × β) → α → Nat → Option (Nat × β)
  | [], _, _ => none
  | p :: M, k, i => if p.1 = k then some (i, p.2) else fnd M k (i + 1)
theorem fnd_none : ∀ {M : List (α × β)} {k : α} {i : Nat}, fnd M k i = none → inM M k = false
  | [], _, _, _ => rfl
  | p :: M, k, i, h => by
    unfold fnd at h
    split at h
    · cases h
    · rename_i e; rw [inM_cons, fnd_none h]; simp [e]
theorem fnd_some : ∀ {M : List (α × β)} {k : α} {i j : Nat} {v : β}, fnd M k i = some (j, v) → ∃ (h : j - i < M.length), i ≤ j ∧ M[j - i] = (k, v) ∧ inM M k = true ∧ ∀ z, lookM M k z = v
  | [], _, _, _, _, h => by cases h
  | p :: M, k, i, j, v, h => by
    unfold fnd at h
    split at h
    · rename_i e
      injection h with h; injection h with h1 h2
      subst h1; subst h2
      refine ⟨by simp, Nat.le_refl _, ?_, by simp [inM_cons, e], fun z => by simp [lookM, e]⟩
      simp [← e]
    · rename_i e
      obtain ⟨h1, h2, h3, h4, h5⟩ := fnd_some h
      refine ⟨by simp; omega, by omega, ?_, by simp [inM_cons, h4], fun z => by have := h5 z; simpa [lookM, e] using this⟩
      have : j - i = (j - (i + 1)) + 1 := by omega
      simp only [this, List.getElem_cons_succ, h3]
theorem lookM_none {M : List (α × β)} {k : α} {z : β} (h : inM M k = false) : lookM M k z = z := by
  unfold lookM
  have : M.find? (fun p => decide (p.1 = k)) = none := by
    rw [List.find?_eq_none]
    intro p hp
    unfold inM at h
    rw [List.any_eq_false] at h
    exact h p hp
  rw [this]; rfl
theorem run_findAsking (ke : KeyE P kt EK) (k : α) (w : World) : ∀ (M : List (α × β)) (B : List Nat) (i : Nat), B.length = M.length →
    (Instr.findAsking kt (EK.val k) ((M.zip B).map (entE EK EV)) i).run P w = .ok ((fnd M k i).map fun p => (p.1, EV.val p.2)) w
  | [], _, i, _ => by simp [Instr.findAsking, fnd]
  | p :: M, [], i, h => by simp at h
  | p :: M, b :: B, i, h => by
    have ih := run_findAsking ke k w M B (i + 1) (by simpa using h)
    simp only [List.zip_cons_cons, List.map_cons, Instr.findAsking, Sem.run_bind, entE, ke.eq, Result.andThen_ok]
    by_cases e : k = p.1
    · subst e
      simp [fnd]
    · have e' : ¬ p.1 = k := fun h => e h.symm
      simp only [e, decide_false, Bool.false_eq_true, if_false, fnd, e']
      exact ih
theorem run_findKey (ke : KeyE P kt EK) (k : α) (w : World) (M : List (α × β)) (B : List Nat) (hl : B.length = M.length) :
    (Instr.findKey kt (EK.val k) ((M.zip B).map (entE EK EV))).run P w = .ok ((fnd M k 0).map fun p => (p.1, EV.val p.2)) w := by
  obtain ⟨d, hd, hs⟩ := ke.desc
  cases M with
  | nil => simp [Instr.findKey, Instr.findNow, run_underlying hd, fnd]
  | cons p M =>
    cases B with
    | nil => simp at hl
    | cons b B =>
      have hn : Instr.findNow d (EK.val k) (((p :: M).zip (b :: B)).map (entE EK EV)) 0 = none := by
        simp [Instr.findNow, entE, hs]
      unfold Instr.findKey
      simp only [Sem.run_bind, run_underlying hd, Result.andThen_ok, hn]
      exact run_findAsking ke k w (p :: M) (b :: B) 0 hl
end

/-- a map of the call's own -/
class MapAt (σ : St) (r : Nat) (kt et : outParam TypeId) {α β : outParam Type} (EK : outParam (Elem α)) (EV : outParam (Elem β)) (M : outParam (List (α × β))) : Prop where
  m : σ.M r
  h : ∃ (B : List Nat) (ck : Nat), σ.w.heap[r]? = some (.map ((M.zip B).map (entE EK EV)).toArray ck) ∧ B.length = M.length ∧ B.Nodup ∧ ∀ b ∈ B, b < ck
  ok : ∀ p ∈ M, EK.ok σ p.1 ∧ EV.ok σ p.2
class MisM (σ : St) (X : Xs) (r : Nat) : Prop where
  h : (∃ es ck, σ.w.heap[r]? = some (.map es ck)) → X.typed σ.w → ¬ X.hits r
section
variable {σ σ' : St} {r r' b : Nat} {t : TypeId} {A : Option Addr}
instance MisM.no : MisM σ .no r := ⟨fun _ _ h => h⟩
instance MisM.one : MisM σ (.one b t) r := ⟨fun ⟨es, ck, h⟩ ⟨cs, fz, h'⟩ e => by
  rw [show r = b from e] at h; rw [h] at h'; injection h' with h'; cases h'⟩
instance MisM.row : MisM σ (.row A t) r := ⟨fun ⟨es, ck, h⟩ ht ⟨a, ha, e⟩ => by
  obtain ⟨cs, fz, h'⟩ := ht a ha
  rw [e, h] at h'; injection h' with h'; cases h'⟩
instance (priority := low) MisM.map [k : NeB r r'] : MisM σ (.map r') r := ⟨fun _ _ e => k.ne e⟩
instance MisM.un {X Y : Xs} [k : MisM σ X r] [l : MisM σ Y r] : MisM σ (.un X Y) r := ⟨fun h ht e => e.elim (k.h h ht.1) (l.h h ht.2)⟩
end
section
variable {P : Program} {f : Fr} {σ σ' : St} {ty : TypeId} {r : Nat} {t kt et : TypeId} {α β : Type} [DecidableEq α] {EK : Elem α} {EV : Elem β} {M : List (α × β)} {bk bv : Nat}
omit [DecidableEq α] in
theorem MapAt.lt (h : MapAt σ r kt et EK EV M) : r < σ.w.heap.size := σ.wf r h.m
instance InH.map [h : MapAt σ r kt et EK EV M] : InH σ r := ⟨h.lt⟩
instance (priority := low) MapAt.lift {X : Xs} [n : Nx σ σ' X] [h : MapAt σ r kt et EK EV M] [k : MisM σ X r] : MapAt σ' r kt et EK EV M := by
  obtain ⟨B, ck, hh, hl, hn, hb⟩ := h.h
  have hx := k.h ⟨_, _, hh⟩ n.p.ty
  exact ⟨(n.p.own r h.lt hx).2 h.m, ⟨B, ck, (n.p.own r h.lt hx).1.trans hh, hl, hn, hb⟩, fun p hp => ⟨EK.nx _ _ _ _ n.p (h.ok p hp).1, EV.nx _ _ _ _ n.p (h.ok p hp).2⟩⟩
instance Tyd.map [h : MapAt σ r kt et EK EV M] : Tyd σ (.map r) := ⟨by obtain ⟨B, ck, hh, _⟩ := h.h; exact ⟨_, _, hh⟩⟩
instance Step.makeMap [u : U P t (.map kt et)] [ek : ElemOf P kt EK bk] [ev : ElemOf P et EV bv] :
    Step P (.makeMap t none) ty f σ (fun K _ => ∀ (σ' : St) (r : Nat), Nx σ σ' .no → NewAt σ r → MapAt σ' r kt et EK EV [] → K (.map (some r)) σ') := ⟨fun K E' hK => by
  obtain ⟨σ', hw, hn, hm, _, ho, hs⟩ := st_new σ (.map #[] 0) True
  have hr : (execOp (evo f) ⟨none, .makeMap t none, ty, "", #[], none⟩).run P σ.w = .ok (.value (.map (some σ.w.heap.size))) (σ.w.alloc (.map #[] 0)) := by
    simp [execOp, Instr.makeMap, newObj, Sem.run]
  unfold OpW; rw [hr]
  exact ⟨σ', hw, hK σ' _ ⟨hn⟩ ⟨Nat.le_refl _⟩ ⟨hm.2 trivial, ⟨[], 0, ho, rfl, List.nodup_nil, by simp⟩, by simp⟩⟩⟩
/-- the zero of a type, as a value -/
class ZeroVal (P : Program) (t : TypeId) {α : Type} (E : Elem α) (z : outParam α) : Prop where
  h : ∀ w, (zeroValue t).run P w = .ok (E.val z) w
theorem run_lookup {z : β} (u : U P t (.map kt et)) (h : MapAt σ r kt et EK EV M) (ke : KeyE P kt EK) (ze : ZeroVal P et EV z) (k : α) (c : Bool) :
    (Instr.lookup t (.map (some r)) (EK.val k) c).run P σ.w = .ok (if c then .tuple #[EV.val (lookM M k z), .bool (inM M k)] else EV.val (lookM M k z)) σ.w := by
  obtain ⟨B, ck, hh, hl, hn, hb⟩ := h.h
  have hg : (getObj r).run P σ.w = .ok (.map ((M.zip B).map (entE EK EV)).toArray ck) σ.w := by simp [getObj, Sem.run, hh]
  have hf := run_findKey (EV := EV) ke k σ.w M B hl
  unfold Instr.lookup
  simp only [Sem.run_bind, run_underlying u.h, Result.andThen_ok, hg, Sem.run_pure, ke.ck, hf]
  cases ho : fnd M k 0 with
  | none =>
    have h1 := fnd_none ho
    rw [lookM_none h1, h1]
    simp only [Option.map_none, Sem.run_bind, ze.h, Result.andThen_ok, Sem.run_pure]
    all_goals (cases c <;> rfl)
  | some q =>
    obtain ⟨j, v⟩ := q
    obtain ⟨_, _, _, h4, h5⟩ := fnd_some ho
    rw [h5 z, h4]
    simp only [Option.map_some, Sem.run_pure, Result.andThen_ok]
    all_goals (cases c <;> rfl)
instance StepV.lookup {x y : Operand} {kv : Value} {k : α} {z v : β} {val : β → Value} [h1 : Ev f x (.map (some r))] [h2 : Ev f y kv] [u : U P t (.map kt et)] [h : MapAt σ r kt et EK EV M] [ke : KeyE P kt EK] [en : EncV σ EK kv k] [ze : ZeroVal P et EV z] [fv : FlatV EV val] [q : Is (lookM M k z) v] :
    StepV P (.lookup t x y false) ty f σ (val v) := ⟨by
  have hq := q.eq; subst hq
  have hv := en.eq; subst hv
  have := run_lookup u h ke ze k false
  simp only [execOp, h1.eq, h2.eq, Sem.run_bind, this, ← fv.eq]
  rfl⟩
instance StepV.len_map {x : Operand} [u : U P t (.map kt et)] [h : Ev f x (.map (some r))] [m : MapAt σ r kt et EK EV M] : StepV P (.call { callee := .builtin .len, args := #[x], argTypes := #[t] }) ty f σ (.int .i64 (M.length : Int)) := ⟨by
  obtain ⟨B, ck, hh, hl, hn, hb⟩ := m.h
  have hg : (getObj r).run P σ.w = .ok (.map ((M.zip B).map (entE EK EV)).toArray ck) σ.w := by simp [getObj, Sem.run, hh]
  simp [execOp, resolve, h.eq, invoke, builtin, Builtin.len_, run_underlying u.h, hg, goInt, hl]⟩
/-- a block that is no row turns -/
theorem st_setObj {o o' : Obj} (hm : σ.M r) (hh : σ.w.heap[r]? = some o) (ho : ∃ es ck, o = .map es ck) (ho' : ∃ es ck, o' = .map es ck) :
    ∃ σ' : St, (setObj r o').run P σ.w = .ok () σ'.w ∧ NxP σ σ' (.map r) ∧ σ'.M r ∧ σ'.w.heap[r]? = some o' := by
  obtain ⟨es, ck, rfl⟩ := ho
  obtain ⟨es', ck', rfl⟩ := ho'
  have hlt := σ.wf r hm
  refine ⟨⟨{ σ.w with heap := σ.w.heap.setIfInBounds r (.map es' ck') }, σ.M, fun b hb => by simpa using σ.wf b hb⟩, by simp [setObj, Sem.run, hh], ⟨rfl, rfl, rfl, by simp, ?_, fun _ _ h => h, ?_, ⟨_, _, hh⟩⟩, hm, by simp [hlt]⟩
  · intro b hb hb'
    have : b ≠ r := fun e => hb' (e ▸ hm)
    simp [Array.getElem?_setIfInBounds_ne (Ne.symm this)]
  · intro b hb hx
    have : b ≠ r := hx
    exact ⟨by simp [Array.getElem?_setIfInBounds_ne (Ne.symm this)], id⟩
theorem set_idx (k : α) (v : β) : ∀ (M : List (α × β)) (i j : Nat) (u : β), fnd M k i = some (j, u) → setM M k v = M.set (j - i) (k, v)
  | [], i, j, u, h => by cases h
  | p :: M, i, j, u, h => by
    unfold fnd at h
    unfold setM
    split at h
    · rename_i e
      injection h with h; injection h with h1 h2
      subst h1
      simp [e]
    · rename_i e
      obtain ⟨_, h2, _⟩ := fnd_some h
      have : j - i = (j - (i + 1)) + 1 := by omega
      rw [if_neg e, this, List.set_cons_succ, set_idx k v M (i + 1) j u h]
instance Step.mapUpdate {x y y2 : Operand} {kv vv : Value} {k : α} {v : β} [h1 : Ev f x (.map (some r))] [h2 : Ev f y kv] [h3 : Ev f y2 vv] [u : U P t (.map kt et)] [h : MapAt σ r kt et EK EV M] [ke : KeyE P kt EK] [en : EncV σ EK kv k] [ev : EncV σ EV vv v] :
    Step P (.mapUpdate t x y y2) ty f σ (fun K _ => ∀ σ' : St, Nx σ σ' (.map r) → MapAt σ' r kt et EK EV (putM M k v) → K undef σ') := ⟨fun K E' hK => by
  have hv := en.eq; subst hv
  have hv := ev.eq; subst hv
  obtain ⟨B, ck, hh, hl, hn, hb⟩ := h.h
  have hg : (getObj r).run P σ.w = .ok (.map ((M.zip B).map (entE EK EV)).toArray ck) σ.w := by simp [getObj, Sem.run, hh]
  have hf := run_findKey (EV := EV) ke k σ.w M B hl
  cases hi : fnd M k 0 with
  | none =>
    have hin : inM M k = false := fnd_none hi
    rw [hi, Option.map_none] at hf
    obtain ⟨σ', hrun, hnx, hm', hh'⟩ := st_setObj (P := P) (o' := .map (((M.zip B).map (entE EK EV)).toArray.push ⟨EK.val k, EV.val v, ck⟩) (ck + 1)) h.m hh ⟨_, _, rfl⟩ ⟨_, _, rfl⟩
    have hr : (execOp (evo f) ⟨none, .mapUpdate t x y y2, ty, "", #[], none⟩).run P σ.w = .ok .skip σ'.w := by
      simp only [execOp, h1.eq, h2.eq, h3.eq, Instr.mapUpdate, Sem.run_bind, run_underlying u.h, Result.andThen_ok, hg, ke.ck, hf, hrun]
      rfl
    unfold OpW; rw [hr]
    refine ⟨σ', rfl, hK σ' ⟨hnx⟩ ⟨hm', ⟨B ++ [ck], ck + 1, ?_, ?_, ?_, ?_⟩, fun p hp => ?_⟩⟩
    · rw [hh']
      unfold putM
      rw [hin, if_neg (by simp), List.zip_append hl.symm]
      simp [entE]
    · unfold putM; rw [hin, if_neg (by simp)]; simp [hl]
    · rw [List.nodup_append]
      exact ⟨hn, by simp, fun a ha b hb' e => by simp at hb'; have := hb a ha; omega⟩
    · intro b hb'
      rcases List.mem_append.1 hb' with h | h
      · have := hb b h; omega
      · simp at h; omega
    · unfold putM at hp
      rw [hin, if_neg (by simp)] at hp
      rcases List.mem_append.1 hp with h' | h'
      · exact ⟨EK.nx _ _ _ _ hnx (h.ok p h').1, EV.nx _ _ _ _ hnx (h.ok p h').2⟩
      · simp at h'; subst h'; exact ⟨EK.nx _ _ _ _ hnx en.ok, EV.nx _ _ _ _ hnx ev.ok⟩
  | some q =>
    obtain ⟨j, u0⟩ := q
    obtain ⟨hjl, _, hMj0, hin, _⟩ := fnd_some hi
    simp only [Nat.sub_zero] at hjl hMj0
    rw [hi, Option.map_some] at hf
    have hjB : j < B.length := by omega
    have hMj : M[j]? = some (k, u0) := by rw [List.getElem?_eq_getElem hjl, hMj0]
    have hsi := set_idx k v M 0 j u0 hi
    simp only [Nat.sub_zero] at hsi
    have hzj : (M.zip B)[j]? = some ((k, u0), B[j]) := by rw [List.getElem?_zip_eq_some]; exact ⟨hMj, List.getElem?_eq_getElem hjB⟩
    have hes : (((M.zip B).map (entE EK EV)).toArray)[j]? = some ⟨EK.val k, EV.val u0, B[j]⟩ := by
      simp [hzj, entE]
    have hset : (((M.zip B).map (entE EK EV)).toArray).modify j (fun e => { e with key := EK.val k, val := EV.val v }) = (((setM M k v).zip B).map (entE EK EV)).toArray := by
      rw [hsi]
      apply Array.ext_getElem?
      intro i
      rw [Array.getElem?_modify]
      by_cases e : j = i
      · subst e
        rw [if_pos rfl, hes]
        have h1 : ((M.set j (k, v)).zip B)[j]? = some ((k, v), B[j]) := by
          rw [List.getElem?_zip_eq_some]; exact ⟨by simp [hjl], List.getElem?_eq_getElem hjB⟩
        simp [h1, entE]
      · rw [if_neg e]
        have h1 : ((M.set j (k, v)).zip B)[i]? = (M.zip B)[i]? := by
          simp only [List.zip, List.getElem?_zipWith, List.getElem?_set_ne e]
        simp [h1]
    obtain ⟨σ', hrun, hnx, hm', hh'⟩ := st_setObj (P := P) (o' := .map (((setM M k v).zip B).map (entE EK EV)).toArray ck) h.m hh ⟨_, _, rfl⟩ ⟨_, _, rfl⟩
    have hk : (Instr.keyThatStays (EK.val k) (EK.val k)).run P σ.w = .ok (EK.val k) σ.w := by
      unfold Instr.keyThatStays; rw [if_pos (ke.bits k)]; rfl
    have hr : (execOp (evo f) ⟨none, .mapUpdate t x y y2, ty, "", #[], none⟩).run P σ.w = .ok .skip σ'.w := by
      simp only [execOp, h1.eq, h2.eq, h3.eq, Instr.mapUpdate, Sem.run_bind, run_underlying u.h, Result.andThen_ok, hg, ke.ck, hf]
      rw [hes]
      simp only [Option.map_some, Option.getD_some, hk, Result.andThen_ok, hset, hrun]
      rfl
    unfold OpW; rw [hr]
    have hput : putM M k v = setM M k v := by unfold putM; rw [if_pos hin]
    rw [hput] at hK
    have hlen : (setM M k v).length = M.length := by rw [hsi]; simp
    refine ⟨σ', rfl, hK σ' ⟨hnx⟩ ⟨hm', ⟨B, ck, hh', by omega, hn, hb⟩, fun p hp => ?_⟩⟩
    rw [hsi] at hp
    rcases List.mem_or_eq_of_mem_set hp with h' | h'
    · exact ⟨EK.nx _ _ _ _ hnx (h.ok p h').1, EV.nx _ _ _ _ hnx (h.ok p h').2⟩
    · subst h'; exact ⟨EK.nx _ _ _ _ hnx en.ok, EV.nx _ _ _ _ hnx ev.ok⟩⟩
end
end Go.Proofs.Ythdhnkgnbdociaa

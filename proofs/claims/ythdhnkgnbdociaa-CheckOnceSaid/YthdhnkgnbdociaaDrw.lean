/- The engine, part 3: a region that draws its order, walked once in an order of our choice. Light operations (they yield one value in every later world) are taken as they come; a heavy one (a call, a new block, a store) where it alone can come. No condition. -/
import Derived.Test.YthdhnkgnbdociaaOps
import Derived.KernelRfl
set_option linter.all false
namespace Go.Proofs.Ythdhnkgnbdociaa
open Go Go.RowKit

/-- 'w'' comes of w, nothing that was there has turned -/
def Later (w w' : World) : Prop := Below w.heap.size w w'
theorem Later.refl (w : World) : Later w w := Below.refl _ _
theorem Later.trans {a b c : World} (h : Later a b) (k : Later b c) : Later a c := Below.trans h (Below.mono k h.size)

section
variable {P : Program} {ops : Array Oper} {Q : Exit → Act → World → Prop} {mu : List Nat}

def YieldsX (P : Program) (ops : Array Oper) (k : Bool) (o : Oper) (v : Value) (a : Act) (w : World) : Prop :=
  (Region.wanted o (yielded ops a.tmps) = true ∧ ∀ w', k = true ∨ Later w w' → (execOp a.eval o).run P w' = .ok (.value v) w') ∨
  (Region.wanted o (yielded ops a.tmps) = false ∧ v = undef)
theorem YieldsX.later {k : Bool} {o : Oper} {v : Value} {a : Act} {w w' : World} (h : YieldsX P ops k o v a w) (l : k = true ∨ Later w w') : YieldsX P ops k o v a w' :=
  h.imp (fun ⟨h1, h2⟩ => ⟨h1, fun w'' l' => h2 w'' (l.elim .inl fun l => l'.imp id fun l' => l.trans l')⟩) id
theorem YieldsX.same {k : Bool} {o : Oper} {v : Value} {a a' : Act} {w : World} (h : YieldsX P ops k o v a w) (he : execOp a'.eval o = execOp a.eval o)
    (hw : Region.wanted o (yielded ops a'.tmps) = Region.wanted o (yielded ops a.tmps)) : YieldsX P ops k o v a' w := by
  unfold YieldsX at *
  rw [he, hw]; exact h
theorem YieldsX.wpOp {k : Bool} {i : Nat} {o : Oper} {v : Value} {a : Act} {w : World} (hi : ops[i]? = some o) (hy : YieldsX P ops k o v a w) {K : Act → World → Prop} (h : K (a.put o.dst v) w) : wpOp P ops Q i K a w := by
  unfold Go.wpOp
  simp only [hi]
  rcases hy with ⟨hw, hv⟩ | ⟨hw, rfl⟩
  · simp only [hw, if_true, Oper.wp, hv w (.inr (Later.refl w)), Oper.upon]; exact .inl h
  · simp only [hw, Bool.false_eq_true, if_false]; exact h

/-- whatever order is picked; what is no member of 'mu' turns nothing that was there -/
def wpAnyX (P : Program) (ops : Array Oper) (Q : Exit → Act → World → Prop) (mu : List Nat) : Nat → Array Bool → Act → World → Prop
  | 0, listed, a, w => Region.ready .any ops listed = [] ∧ Q .normal a w
  | fuel + 1, listed, a, w => (Region.ready .any ops listed = [] → Q .normal a w) ∧
      ∀ i ∈ Region.ready .any ops listed, wpOp P ops Q i (fun a' w' => (i ∉ mu → Later w w') ∧ wpAnyX P ops Q mu fuel (listed.setIfInBounds i true) a' w') a w
theorem wpAny_of_X : ∀ (fuel : Nat) (listed : Array Bool) (a : Act) (w : World), wpAnyX P ops Q mu fuel listed a w → wpAny P .any ops Q fuel listed a w
  | 0, _, _, _, h => h
  | fuel + 1, _, _, _, h => ⟨h.1, fun i hi => wpOp_mono (fun a' w' h' => wpAny_of_X fuel _ a' w' h'.2) (h.2 i hi)⟩

theorem wpOp_putX {k : Bool} {j : Nat} {oi oj : Oper} {v : Value} (hj : ops[j]? = some oj) (hap : oi.apart ops oj = true)
    (hsi : ∀ cs b, oi.op ≠ .select cs b) (hsj : ∀ cs b, oj.op ≠ .select cs b)
    (hQ : ∀ c a w, Q (.panic c) (a.put oi.dst v) w → Q (.panic c) a w) {K : Act → World → Prop} {a : Act} {w : World}
    (hk : k = true ∨ j ∉ mu) (hy : YieldsX P ops k oi v a w) (h : wpOp P ops Q j (fun a' w' => (j ∉ mu → Later w w') ∧ K a' w') (a.put oi.dst v) w) :
    wpOp P ops Q j (fun a' w' => (j ∉ mu → Later w w') ∧ YieldsX P ops k oi v a' w' ∧ K (a'.put oi.dst v) w') a w := by
  obtain ⟨h1, h2, h3⟩ := Oper.apart_spec hap
  have keep : ∀ (a : Act) (w' : World), YieldsX P ops k oi v a w → (j ∉ mu → Later w w') → ∀ u, YieldsX P ops k oi v (a.put oj.dst u) w' := fun a w' hy l u =>
    (hy.later (hk.imp id l)).same (execOp_put oi hsi a oj.dst u h3) (wanted_put oi a oj.dst u h3)
  have keepD : ∀ d, YieldsX P ops k oi v { a with defers := d :: a.defers } w := fun d => hy.same rfl rfl
  unfold wpOp at *
  simp only [hj] at *
  rw [wanted_put oj a oi.dst v h1] at h
  split
  · rename_i hw
    simp only [hw, if_true] at h
    rcases h with h | ⟨hasks, hlets⟩
    case inr => exact .inr ⟨by unfold Oper.asks at *; rw [execOp_put oj hsj a oi.dst v h1] at hasks; exact hasks, hlets⟩
    refine .inl ?_
    unfold Oper.wp at *
    rw [execOp_put oj hsj a oi.dst v h1] at h
    generalize (execOp a.eval oj).run P w = r at *
    cases r with
    | ok n w' =>
      cases n <;> simp only [Oper.upon] at h ⊢
      case value u => exact ⟨h.1, keep a _ hy h.1 u, by rw [← Act.put_comm a v u h2]; exact h.2⟩
      case skip => exact ⟨h.1, keep a _ hy h.1 _, by rw [← Act.put_comm a v undef h2]; exact h.2⟩
      case defer d =>
        refine ⟨h.1, keep _ _ (keepD d) h.1 _, ?_⟩
        rw [← Act.put_comm _ v undef h2, ← Act.put_defers]
        exact h.2
      case enter f args =>
        refine Calls.mono h fun e w'' he => ?_
        cases e with
        | returned u => exact ⟨he.1, keep a _ hy he.1 u, by rw [← Act.put_comm a v u h2]; exact he.2⟩
        | panicked c => exact hQ _ _ _ he
        | outgrown => exact he
      case row row args => exact Rows.mono h fun u w'' he => ⟨he.1, keep a _ hy he.1 u, by rw [← Act.put_comm a v u h2]; exact he.2⟩
    | halt x w' =>
      cases x <;> simp only [Oper.upon] at h ⊢
      case panic u => exact hQ _ _ _ h
  · rename_i hw
    simp only [hw] at h
    exact ⟨h.1, keep a _ hy h.1 _, by rw [← Act.put_comm a v undef h2]; exact h.2⟩

/-- j waits for i, perhaps through others -/
def depX (ops : Array Oper) : Nat → Nat → Nat → Bool
  | 0, _, _ => false
  | n + 1, j, i => match ops[j]? with
    | some oj => oj.after.any (fun e => Region.binds .any e && e.on == i) || oj.after.any (fun e => Region.binds .any e && depX ops n e.on i)
    | none => false
/-- what has come up has all that it waits for behind it -/
def Closed (ops : Array Oper) (listed : Array Bool) : Prop := ∀ j oj, ops[j]? = some oj → listed.getD j false = true → ∀ e ∈ oj.after, Region.binds .any e = true → listed.getD e.on false = true
theorem depX_unready {i : Nat} {listed : Array Bool} (hc : Closed ops listed) (hi : listed.getD i false = false) : ∀ (n j : Nat) (oj : Oper), ops[j]? = some oj → depX ops n j i = true → (∀ e ∈ oj.after, Region.binds .any e = true → listed.getD e.on false = true) → False
  | 0, _, _, _, h, _ => by simp [depX] at h
  | n + 1, j, oj, hj, h, hr => by
    simp only [depX, hj, Bool.or_eq_true, Array.any_eq_true', Bool.and_eq_true, beq_iff_eq] at h
    rcases h with ⟨e, he, hb, hon⟩ | ⟨e, he, hb, hd⟩
    · have := hr e he hb; rw [hon, hi] at this; cases this
    · have hl := hr e he hb
      cases ho : ops[e.on]? with
      | none => cases n <;> simp [depX, ho] at hd
      | some o => exact depX_unready hc hi n e.on o ho hd (hc e.on o ho hl)
theorem Closed.list {i : Nat} {listed : Array Bool} (hc : Closed ops listed) (hr : i ∈ Region.ready .any ops listed) : Closed ops (listed.setIfInBounds i true) := by
  intro j oj hj hl e he hb
  by_cases hji : j = i
  · subst hji
    obtain ⟨_, o, ho, hall⟩ := mem_ready.1 hr
    rw [hj] at ho; injection ho with ho; subst ho
    exact getD_set_true (hall e he hb)
  · rw [getD_set_ne false (Ne.symm hji)] at hl
    exact getD_set_true (hc j oj hj hl e he hb)
theorem Closed.none_ : Closed ops (Array.replicate ops.size false) := by
  intro j oj hj hl
  have hlt : j < ops.size := (Array.getElem?_eq_some_iff.1 hj).1
  simp [hlt] at hl
theorem unlisted {i : Nat} {listed : Array Bool} (h : listed.getD i true = false) : listed.getD i false = false := by
  rcases Nat.lt_or_ge i listed.size with h' | h'
  · simp [h'] at h ⊢; exact h
  · simp [Array.getElem?_eq_none h'] at h

theorem wpAnyX_first {k : Bool} {i : Nat} {oi : Oper} {v : Value} (hi : ops[i]? = some oi) (hsel : ∀ (j : Nat) (o : Oper) cs b, ops[j]? = some o → o.op ≠ .select cs b)
    (hQ : ∀ c a w, Q (.panic c) (a.put oi.dst v) w → Q (.panic c) a w) :
    ∀ (fuel : Nat) (listed : Array Bool) (a : Act) (w : World), Closed ops listed →
      (∀ j oj, ops[j]? = some oj → j ≠ i → listed.getD j true = false → depX ops 6 j i = true ∨ (oi.apart ops oj = true ∧ (k = true ∨ j ∉ mu))) →
      i ∈ Region.ready .any ops listed → YieldsX P ops k oi v a w →
      wpAnyX P ops Q mu fuel (listed.setIfInBounds i true) (a.put oi.dst v) w → wpAnyX P ops Q mu (fuel + 1) listed a w := by
  intro fuel
  induction fuel with
  | zero =>
    intro listed a w _ _ hr hy H
    refine ⟨fun h => (by rw [h] at hr; cases hr), fun j hj => ?_⟩
    by_cases hji : j = i
    · subst hji; exact hy.wpOp hi ⟨fun _ => Later.refl _, H⟩
    · have := ready_mono hj hji
      rw [H.1] at this
      cases this
  | succ fuel ih =>
    intro listed a w hcl hfree hr hy H
    refine ⟨fun h => (by rw [h] at hr; cases hr), fun j hj => ?_⟩
    by_cases hji : j = i
    · subst hji; exact hy.wpOp hi ⟨fun _ => Later.refl _, H⟩
    · have h1 := H.2 j (ready_mono hj hji)
      obtain ⟨hjun, oj, hoj, hall⟩ := mem_ready.1 hj
      obtain ⟨hap, hmu⟩ := (hfree j oj hoj hji hjun).resolve_left (fun hd => depX_unready hcl (unlisted (mem_ready.1 hr).1) 6 j oj hoj hd hall)
      have h2 := wpOp_putX hoj hap (fun cs b => hsel i oi cs b hi) (fun cs b => hsel j oj cs b hoj) hQ hmu hy h1
      have hfree' : ∀ q ok, ops[q]? = some ok → q ≠ i → (listed.setIfInBounds j true).getD q true = false → depX ops 6 q i = true ∨ (oi.apart ops ok = true ∧ (k = true ∨ q ∉ mu)) := fun q ok hk hki hun => by
        refine hfree q ok hk hki ?_
        by_cases hjk : j = q
        · subst hjk; exact hjun
        · rw [getD_set_ne true hjk] at hun; exact hun
      refine wpOp_mono (fun a' w' h3 => ⟨h3.1, ih (listed.setIfInBounds j true) a' w' (hcl.list hj) hfree' (ready_mono hr (Ne.symm hji)) h3.2.1 ?_⟩) h2
      rw [Array.setIfInBounds_comm _ _ hji]
      exact h3.2.2

/-- the order that we take: a light operation; a heavy one; two heavy ones, of which either may come first -/
inductive PT where
  | nil
  | p (i : Nat) (r : PT)
  | l (i : Nat) (r : PT)
  | h (i : Nat) (r : PT)
  | f (i : Nat) (r : PT) (j : Nat) (s : PT)
def PT.len : PT → Nat
  | .nil => 0
  | .p _ r => r.len + 1
  | .l _ r => r.len + 1
  | .h _ r => r.len + 1
  | .f _ r _ s => max r.len s.len + 1
/-- nothing that is still to come stands in the way of i -/
def freeX (ops : Array Oper) (mu : List Nat) (pure : Bool) (listed : Array Bool) (i : Nat) : Bool :=
  match ops[i]? with
  | none => false
  | some oi => (List.range ops.size).all fun j => j == i || listed.getD j true || match ops[j]? with
      | some oj => (oi.apart ops oj && (pure || !mu.contains j)) || depX ops 6 j i
      | none => true
theorem freeX_spec {pure : Bool} {i : Nat} {oi : Oper} {listed : Array Bool} (hi : ops[i]? = some oi) (h : freeX ops mu pure listed i = true) (j : Nat) (oj : Oper) (hj : ops[j]? = some oj) (hne : j ≠ i) (hun : listed.getD j true = false) :
    depX ops 6 j i = true ∨ (oi.apart ops oj = true ∧ (pure = true ∨ j ∉ mu)) := by
  simp only [freeX, hi, List.all_eq_true, List.mem_range] at h
  have h1 := h j (Array.getElem?_eq_some_iff.1 hj).1
  simp only [hj, Bool.or_eq_true, beq_iff_eq, hne, false_or, hun, Bool.false_eq_true, Bool.and_eq_true] at h1
  rcases h1 with ⟨h1, h2⟩ | h1
  · exact .inr ⟨h1, h2.imp id (fun h => by simpa using h)⟩
  · exact .inl h1
/-- .. checked -/
def chkX (ops : Array Oper) (mu : List Nat) : PT → Array Bool → Bool
  | .nil, listed => (Region.ready .any ops listed).isEmpty
  | .p i r, listed => (Region.ready .any ops listed).contains i && freeX ops mu true listed i && chkX ops mu r (listed.setIfInBounds i true)
  | .l i r, listed => (Region.ready .any ops listed).contains i && freeX ops mu false listed i && chkX ops mu r (listed.setIfInBounds i true)
  | .h i r, listed => (Region.ready .any ops listed == [i]) && chkX ops mu r (listed.setIfInBounds i true)
  | .f i r j s, listed => (Region.ready .any ops listed == [i, j]) && (chkX ops mu r (listed.setIfInBounds i true) && chkX ops mu s (listed.setIfInBounds j true))

def wpPerm (P : Program) (ops : Array Oper) (Q : Exit → Act → World → Prop) (mu : List Nat) : PT → Act → World → Prop
  | .nil, a, w => Q .normal a w
  | .p i r, a, w => ∃ o v, ops[i]? = some o ∧ YieldsX P ops true o v a w ∧ (∀ c a w, Q (.panic c) (a.put o.dst v) w → Q (.panic c) a w) ∧ wpPerm P ops Q mu r (a.put o.dst v) w
  | .l i r, a, w => ∃ o v, ops[i]? = some o ∧ YieldsX P ops false o v a w ∧ (∀ c a w, Q (.panic c) (a.put o.dst v) w → Q (.panic c) a w) ∧ wpPerm P ops Q mu r (a.put o.dst v) w
  | .h i r, a, w => wpOp P ops Q i (fun a' w' => (i ∉ mu → Later w w') ∧ wpPerm P ops Q mu r a' w') a w
  | .f i r j s, a, w => wpOp P ops Q i (fun a' w' => (i ∉ mu → Later w w') ∧ wpPerm P ops Q mu r a' w') a w ∧ wpOp P ops Q j (fun a' w' => (j ∉ mu → Later w w') ∧ wpPerm P ops Q mu s a' w') a w

theorem any_of_perm (hsel : Region.noSelect ops = true) : ∀ (perm : PT) (fuel : Nat) (listed : Array Bool) (a : Act) (w : World), Closed ops listed → chkX ops mu perm listed = true → perm.len ≤ fuel →
    wpPerm P ops Q mu perm a w → wpAnyX P ops Q mu fuel listed a w
  | .nil, 0, listed, a, w, _, hc, _, h => ⟨by simpa [chkX] using hc, h⟩
  | .nil, fuel + 1, listed, a, w, _, hc, _, h => by
    have : Region.ready .any ops listed = [] := by simpa [chkX] using hc
    exact ⟨fun _ => h, by rw [this]; simp⟩
  | .p i r, fuel + 1, listed, a, w, hcl, hc, hl, ⟨o, v, ho, hy, hq, h⟩ => by
    simp only [chkX, Bool.and_eq_true] at hc
    obtain ⟨⟨h1, h2⟩, h4⟩ := hc
    have hr : i ∈ Region.ready .any ops listed := by simpa using h1
    exact wpAnyX_first ho (Region.noSelect_spec hsel) hq fuel listed a w hcl (freeX_spec ho h2) hr hy (any_of_perm hsel r fuel _ _ _ (hcl.list hr) h4 (by simpa [PT.len] using hl) h)
  | .l i r, fuel + 1, listed, a, w, hcl, hc, hl, ⟨o, v, ho, hy, hq, h⟩ => by
    simp only [chkX, Bool.and_eq_true] at hc
    obtain ⟨⟨h1, h2⟩, h4⟩ := hc
    have hr : i ∈ Region.ready .any ops listed := by simpa using h1
    exact wpAnyX_first ho (Region.noSelect_spec hsel) hq fuel listed a w hcl (freeX_spec ho h2) hr hy (any_of_perm hsel r fuel _ _ _ (hcl.list hr) h4 (by simpa [PT.len] using hl) h)
  | .h i r, fuel + 1, listed, a, w, hcl, hc, hl, h => by
    simp only [chkX, Bool.and_eq_true, beq_iff_eq] at hc
    refine ⟨fun e => (by rw [hc.1] at e; cases e), fun j hj => ?_⟩
    have hcl' := hcl.list hj
    rw [hc.1] at hj
    simp only [List.mem_singleton] at hj
    subst hj
    exact wpOp_mono (fun a' w' h' => ⟨h'.1, any_of_perm hsel r fuel _ _ _ hcl' hc.2 (by simpa [PT.len] using hl) h'.2⟩) h
  | .f i r j s, fuel + 1, listed, a, w, hcl, hc, hl, ⟨h, g⟩ => by
    simp only [chkX, Bool.and_eq_true, beq_iff_eq] at hc
    simp only [PT.len] at hl
    refine ⟨fun e => (by rw [hc.1] at e; cases e), fun k hk => ?_⟩
    have hcl' := hcl.list hk
    rw [hc.1] at hk
    simp only [List.mem_cons, List.not_mem_nil, or_false] at hk
    rcases hk with rfl | rfl
    · exact wpOp_mono (fun a' w' h' => ⟨h'.1, any_of_perm hsel r fuel _ _ _ hcl' hc.2.1 (by omega) h'.2⟩) h
    · exact wpOp_mono (fun a' w' h' => ⟨h'.1, any_of_perm hsel s fuel _ _ _ hcl' hc.2.2 (by omega) h'.2⟩) g
  | .p i r, 0, _, _, _, _, _, hl, _ => by simp [PT.len] at hl
  | .l i r, 0, _, _, _, _, _, hl, _ => by simp [PT.len] at hl
  | .h i r, 0, _, _, _, _, _, hl, _ => by simp [PT.len] at hl
  | .f i r j s, 0, _, _, _, _, _, hl, _ => by simp [PT.len] at hl
end

/-! ### The judgement -/
def WX (P : Program) (ops : Array Oper) (n : Nat) (Q : PostQ) (mu : List Nat) (l : PT) (D : List Deferred) (f : Fr) (σ : St) : Prop :=
  ∀ a : Act, a.tmps.size = n → a.defers = D → fr a = f → wpPerm P ops (LQ n Q) mu l a σ.w

class PFree (Q : PostQ) : Prop where
  h : ∀ c D f f' σ, Q (.panic c) D f σ → Q (.panic c) D f' σ
instance PFree.res {P : Program} {fn : Func} {K : KV} {E : KE} : PFree (resQ P fn K E) := ⟨fun _ _ _ _ _ h => resQ_panic h⟩
instance PFree.then_ {next : List Deferred → Fr → St → Prop} {Q : PostQ} [i : PFree Q] : PFree (thenQ next Q) := ⟨fun c D f f' σ h => i.h c D f f' σ h⟩
instance PFree.block {id : Nat} {Q : PostQ} [i : PFree Q] : PFree (blockQ id Q) := ⟨fun c D f f' σ h => i.h c D f f' σ h⟩
instance PFree.loop {ι : Type} {Inv : ι → Fr → St → Prop} {μ : ι → Nat} {k : ι} {D : List Deferred} {Q : PostQ} [i : PFree Q] : PFree (loopQ Inv μ k D Q) := ⟨fun c D f f' σ h => i.h c D f f' σ h⟩

instance PFree.loopA {ι : Type} {Inv : ι → Fr → St → Prop} {μ : ι → Nat} {W : Nat} {f0 : Fr} {σ0 : St} {X : Xs} {k : ι} {D : List Deferred} {Q : PostQ} [i : PFree Q] : PFree (loopQA Inv μ W f0 σ0 X k D Q) := ⟨fun c D f f' σ h => i.h c D f f' σ h⟩

/-- an operation that yields v, whatever is made meanwhile -/
class Light (P : Program) (op : Op) (ty : TypeId) (f : Fr) (σ : St) (v : outParam Value) : Prop where
  run : ∀ w', Later σ.w w' → (execOp (evo f) ⟨none, op, ty, "", #[], none⟩).run P w' = .ok (.value v) w'
theorem nx_later {σ : St} {w' : World} (h : Later σ.w w') : ∃ σ' : St, σ'.w = w' ∧ NxP σ σ' .no :=
  ⟨⟨w', σ.M, fun b hb => Nat.lt_of_lt_of_le (σ.wf b hb) h.size⟩, rfl, ⟨h.os, h.tape, h.output, h.size, fun b hb _ => h.block b hb, fun _ _ h => h, fun b hb _ => ⟨h.block b hb, id⟩, trivial⟩⟩
instance Light.of {P : Program} {op : Op} {ty : TypeId} {f : Fr} {σ : St} {v : Value} [h : ∀ (σ' : St) [Nx σ σ' .no], StepV P op ty f σ' v] : Light P op ty f σ v :=
  ⟨fun w' hl => by
    obtain ⟨σ', rfl, hn⟩ := nx_later hl
    exact (@h σ' ⟨hn⟩).run⟩
class Ext (σ σ' : St) : Prop where
  l : Later σ.w σ'.w
instance Ext.refl {σ : St} : Ext σ σ := ⟨Later.refl _⟩
instance Ext.no {σ σ' : St} [h : Nx σ σ' .no] : Ext σ σ' := ⟨⟨h.p.os, h.p.tape, h.p.output, h.p.size, fun b hb => (h.p.own b hb id).1⟩⟩

section
variable {P : Program} {ops : Array Oper} {n : Nat} {Q : PostQ} {mu : List Nat} {l : PT} {D : List Deferred} {f : Fr} {σ : St}
theorem WX.nil (h : Q .normal D f σ) : WX P ops n Q mu .nil D f σ := by
  rintro a hn rfl rfl
  exact ⟨hn, σ, rfl, h⟩
theorem WX.pure {i d : Nat} {op : Op} {ty : TypeId} {pos : String} {aft : Array Edge} (ho : ops[i]? = some ⟨some d, op, ty, pos, aft, none⟩) {v : Value} [pf : PFree Q] (hd : Nat.blt d n = true) (k : ∀ σ' : St, StepV P op ty f σ' v)
    (h : WX P ops n Q mu l D (upd f d v) σ) : WX P ops n Q mu (.p i l) D f σ := by
  rintro a hn rfl rfl
  refine ⟨_, v, ho, .inl ⟨rfl, fun w' hl => ?_⟩, ?_, h _ (by rw [size_put, hn]) defers_put (fr_put (by rw [hn]; exact lt_of_blt hd))⟩
  · rw [eval_fr, execOp_shape]; exact (k ⟨w', fun _ => False, nofun⟩).run
  · rintro c a' w' ⟨hs, σ', rfl, hq⟩
    exact ⟨by rwa [size_put] at hs, σ', rfl, pf.h _ _ _ _ _ (by rwa [defers_put] at hq)⟩
theorem WX.light {i d : Nat} {op : Op} {ty : TypeId} {pos : String} {aft : Array Edge} (ho : ops[i]? = some ⟨some d, op, ty, pos, aft, none⟩) {v : Value} [pf : PFree Q] (hd : Nat.blt d n = true) (k : ∀ σ' : St, Nx σ σ' .no → StepV P op ty f σ' v)
    (h : WX P ops n Q mu l D (upd f d v) σ) : WX P ops n Q mu (.l i l) D f σ := by
  rintro a hn rfl rfl
  refine ⟨_, v, ho, .inl ⟨rfl, fun w' hl => ?_⟩, ?_, h _ (by rw [size_put, hn]) defers_put (fr_put (by rw [hn]; exact lt_of_blt hd))⟩
  · rw [eval_fr, execOp_shape]; exact (Light.of (h := fun σ' h => k σ' h)).run w' (hl.resolve_left (by simp))
  · rintro c a' w' ⟨hs, σ', rfl, hq⟩
    exact ⟨by rwa [size_put] at hs, σ', rfl, pf.h _ _ _ _ _ (by rwa [defers_put] at hq)⟩
theorem WX.heavy {i d : Nat} {op : Op} {ty : TypeId} {pos : String} {aft : Array Edge} (ho : ops[i]? = some ⟨some d, op, ty, pos, aft, none⟩) {S : Tr} [k : Step P op ty f σ S] (hd : Nat.blt d n = true)
    (h : S (fun v σ' => (i ∉ mu → Ext σ σ') ∧ WX P ops n Q mu l D (upd f d v) σ') (fun c σ' => Q (.panic c) D f σ')) : WX P ops n Q mu (.h i l) D f σ := by
  rintro a hn rfl rfl
  unfold wpPerm wpOp
  simp only [ho, Region.wanted, if_true]
  refine .inl (Oper.wp_of_OpW (E := fun c w' => ∃ σ' : St, σ'.w = w' ∧ Q (.panic c) a.defers (fr a) σ') ?_ (fun c w' hc => ⟨hn, hc⟩))
  refine (k.sound _ _ h).mono ?_ (fun _ _ h => h)
  rintro v _ ⟨σ', rfl, he, h'⟩
  exact ⟨fun hm => (he hm).l, h' _ (by rw [size_put, hn]) defers_put (fr_put (by rw [hn]; exact lt_of_blt hd))⟩
theorem WX.heavy0 {i : Nat} {op : Op} {ty : TypeId} {pos : String} {aft : Array Edge} (ho : ops[i]? = some ⟨none, op, ty, pos, aft, none⟩) {S : Tr} [k : Step P op ty f σ S]
    (h : S (fun v σ' => (i ∉ mu → Ext σ σ') ∧ WX P ops n Q mu l D f σ') (fun c σ' => Q (.panic c) D f σ')) : WX P ops n Q mu (.h i l) D f σ := by
  rintro a hn rfl rfl
  unfold wpPerm wpOp
  simp only [ho, Region.wanted, if_true]
  refine .inl (Oper.wp_of_OpW (E := fun c w' => ∃ σ' : St, σ'.w = w' ∧ Q (.panic c) a.defers (fr a) σ') ?_ (fun c w' hc => ⟨hn, hc⟩))
  refine (k.sound _ _ h).mono ?_ (fun _ _ h => h)
  rintro v _ ⟨σ', rfl, he, h'⟩
  exact ⟨fun hm => (he hm).l, h' _ (by rw [size_put, hn]) defers_put fr_put_none⟩
/-- the same operations, guarded -/
theorem WX.pure_hit {i d g t : Nat} {b : Bool} {op : Op} {ty : TypeId} {pos : String} {aft : Array Edge} (ho : ops[i]? = some ⟨some d, op, ty, pos, aft, some (g, b)⟩) (ht : (ops[g]?).bind (·.dst) = some t) (hl : Nat.blt t n = true) [hg : At f t (.bool b)]
    {v : Value} [pf : PFree Q] (hd : Nat.blt d n = true) (k : ∀ σ' : St, StepV P op ty f σ' v) (h : WX P ops n Q mu l D (upd f d v) σ) : WX P ops n Q mu (.p i l) D f σ := by
  rintro a hn rfl rfl
  have hy := yielded_at ht (by rw [hn]; exact lt_of_blt hl) hg.eq
  refine ⟨_, v, ho, .inl ⟨by simp [Region.wanted, hy], fun w' hl => ?_⟩, ?_, h _ (by rw [size_put, hn]) defers_put (fr_put (by rw [hn]; exact lt_of_blt hd))⟩
  · rw [eval_fr, execOp_shape]; exact (k ⟨w', fun _ => False, nofun⟩).run
  · rintro c a' w' ⟨hs, σ', rfl, hq⟩
    exact ⟨by rwa [size_put] at hs, σ', rfl, pf.h _ _ _ _ _ (by rwa [defers_put] at hq)⟩
theorem WX.pure_miss {i d g t : Nat} {b b' : Bool} {op : Op} {ty : TypeId} {pos : String} {aft : Array Edge} (ho : ops[i]? = some ⟨some d, op, ty, pos, aft, some (g, b)⟩) (ht : (ops[g]?).bind (·.dst) = some t) (hl : Nat.blt t n = true) [hg : At f t (.bool b')]
    (hb : (b' == b) = false) [pf : PFree Q] (hd : Nat.blt d n = true) (h : WX P ops n Q mu l D (upd f d undef) σ) : WX P ops n Q mu (.p i l) D f σ := by
  rintro a hn rfl rfl
  have hy := yielded_at ht (by rw [hn]; exact lt_of_blt hl) hg.eq
  have hne : (some b' == some b) = false := by simpa using hb
  refine ⟨_, undef, ho, .inr ⟨by simp only [Region.wanted, hy, hne], rfl⟩, ?_, h _ (by rw [size_put, hn]) defers_put (fr_put (by rw [hn]; exact lt_of_blt hd))⟩
  rintro c a' w' ⟨hs, σ', rfl, hq⟩
  exact ⟨by rwa [size_put] at hs, σ', rfl, pf.h _ _ _ _ _ (by rwa [defers_put] at hq)⟩
theorem WX.light_hit {i d g t : Nat} {b : Bool} {op : Op} {ty : TypeId} {pos : String} {aft : Array Edge} (ho : ops[i]? = some ⟨some d, op, ty, pos, aft, some (g, b)⟩) (ht : (ops[g]?).bind (·.dst) = some t) (hl : Nat.blt t n = true) [hg : At f t (.bool b)]
    {v : Value} [pf : PFree Q] (hd : Nat.blt d n = true) (k : ∀ σ' : St, Nx σ σ' .no → StepV P op ty f σ' v) (h : WX P ops n Q mu l D (upd f d v) σ) : WX P ops n Q mu (.l i l) D f σ := by
  rintro a hn rfl rfl
  have hy := yielded_at ht (by rw [hn]; exact lt_of_blt hl) hg.eq
  refine ⟨_, v, ho, .inl ⟨by simp [Region.wanted, hy], fun w' hl => ?_⟩, ?_, h _ (by rw [size_put, hn]) defers_put (fr_put (by rw [hn]; exact lt_of_blt hd))⟩
  · rw [eval_fr, execOp_shape]; exact (Light.of (h := fun σ' h => k σ' h)).run w' (hl.resolve_left (by simp))
  · rintro c a' w' ⟨hs, σ', rfl, hq⟩
    exact ⟨by rwa [size_put] at hs, σ', rfl, pf.h _ _ _ _ _ (by rwa [defers_put] at hq)⟩
theorem WX.light_miss {i d g t : Nat} {b b' : Bool} {op : Op} {ty : TypeId} {pos : String} {aft : Array Edge} (ho : ops[i]? = some ⟨some d, op, ty, pos, aft, some (g, b)⟩) (ht : (ops[g]?).bind (·.dst) = some t) (hl : Nat.blt t n = true) [hg : At f t (.bool b')]
    (hb : (b' == b) = false) [pf : PFree Q] (hd : Nat.blt d n = true) (h : WX P ops n Q mu l D (upd f d undef) σ) : WX P ops n Q mu (.l i l) D f σ := by
  rintro a hn rfl rfl
  have hy := yielded_at ht (by rw [hn]; exact lt_of_blt hl) hg.eq
  have hne : (some b' == some b) = false := by simpa using hb
  refine ⟨_, undef, ho, .inr ⟨by simp only [Region.wanted, hy, hne], rfl⟩, ?_, h _ (by rw [size_put, hn]) defers_put (fr_put (by rw [hn]; exact lt_of_blt hd))⟩
  rintro c a' w' ⟨hs, σ', rfl, hq⟩
  exact ⟨by rwa [size_put] at hs, σ', rfl, pf.h _ _ _ _ _ (by rwa [defers_put] at hq)⟩
theorem WX.heavy_hit {i d g t : Nat} {b : Bool} {op : Op} {ty : TypeId} {pos : String} {aft : Array Edge} (ho : ops[i]? = some ⟨some d, op, ty, pos, aft, some (g, b)⟩) (ht : (ops[g]?).bind (·.dst) = some t) (hl : Nat.blt t n = true) [hg : At f t (.bool b)]
    {S : Tr} [k : Step P op ty f σ S] (hd : Nat.blt d n = true)
    (h : S (fun v σ' => (i ∉ mu → Ext σ σ') ∧ WX P ops n Q mu l D (upd f d v) σ') (fun c σ' => Q (.panic c) D f σ')) : WX P ops n Q mu (.h i l) D f σ := by
  rintro a hn rfl rfl
  have hy := yielded_at ht (by rw [hn]; exact lt_of_blt hl) hg.eq
  unfold wpPerm wpOp
  simp only [ho, Region.wanted, hy, BEq.rfl, if_true]
  refine .inl (Oper.wp_of_OpW (E := fun c w' => ∃ σ' : St, σ'.w = w' ∧ Q (.panic c) a.defers (fr a) σ') ?_ (fun c w' hc => ⟨hn, hc⟩))
  refine (k.sound _ _ h).mono ?_ (fun _ _ h => h)
  rintro v _ ⟨σ', rfl, he, h'⟩
  exact ⟨fun hm => (he hm).l, h' _ (by rw [size_put, hn]) defers_put (fr_put (by rw [hn]; exact lt_of_blt hd))⟩
theorem WX.heavy_miss {i d g t : Nat} {b b' : Bool} {op : Op} {ty : TypeId} {pos : String} {aft : Array Edge} (ho : ops[i]? = some ⟨some d, op, ty, pos, aft, some (g, b)⟩) (ht : (ops[g]?).bind (·.dst) = some t) (hl : Nat.blt t n = true) [hg : At f t (.bool b')]
    (hb : (b' == b) = false) (hd : Nat.blt d n = true) (h : WX P ops n Q mu l D (upd f d undef) σ) : WX P ops n Q mu (.h i l) D f σ := by
  rintro a hn rfl rfl
  have hy := yielded_at ht (by rw [hn]; exact lt_of_blt hl) hg.eq
  have hne : (some b' == some b) = false := by simpa using hb
  unfold wpPerm wpOp
  simp only [ho, Region.wanted, hy, hne, Bool.false_eq_true, if_false]
  exact ⟨fun _ => Later.refl _, h _ (by rw [size_put, hn]) defers_put (fr_put (by rw [hn]; exact lt_of_blt hd))⟩
theorem WX.partP {i g t : Nat} {b c : Bool} {d : Option Nat} {op : Op} {ty : TypeId} {pos : String} {aft : Array Edge} (_ho : ops[i]? = some ⟨d, op, ty, pos, aft, some (g, b)⟩) (_ht : (ops[g]?).bind (·.dst) = some t) [h : At f t (.bool c)]
    (h1 : c = true → WX P ops n Q mu (.p i l) D (upd f t (.bool true)) σ) (h2 : c = false → WX P ops n Q mu (.p i l) D (upd f t (.bool false)) σ) : WX P ops n Q mu (.p i l) D f σ := by
  cases c
  · have := h2 rfl; rwa [upd_self h.eq] at this
  · have := h1 rfl; rwa [upd_self h.eq] at this

theorem WX.partL {i g t : Nat} {b c : Bool} {d : Option Nat} {op : Op} {ty : TypeId} {pos : String} {aft : Array Edge} (_ho : ops[i]? = some ⟨d, op, ty, pos, aft, some (g, b)⟩) (_ht : (ops[g]?).bind (·.dst) = some t) [h : At f t (.bool c)]
    (h1 : c = true → WX P ops n Q mu (.l i l) D (upd f t (.bool true)) σ) (h2 : c = false → WX P ops n Q mu (.l i l) D (upd f t (.bool false)) σ) : WX P ops n Q mu (.l i l) D f σ := by
  cases c
  · have := h2 rfl; rwa [upd_self h.eq] at this
  · have := h1 rfl; rwa [upd_self h.eq] at this

theorem WX.partH {i g t : Nat} {b c : Bool} {d : Option Nat} {op : Op} {ty : TypeId} {pos : String} {aft : Array Edge} (_ho : ops[i]? = some ⟨d, op, ty, pos, aft, some (g, b)⟩) (_ht : (ops[g]?).bind (·.dst) = some t) [h : At f t (.bool c)]
    (h1 : c = true → WX P ops n Q mu (.h i l) D (upd f t (.bool true)) σ) (h2 : c = false → WX P ops n Q mu (.h i l) D (upd f t (.bool false)) σ) : WX P ops n Q mu (.h i l) D f σ := by
  cases c
  · have := h2 rfl; rwa [upd_self h.eq] at this
  · have := h1 rfl; rwa [upd_self h.eq] at this

theorem WX.fork {i j : Nat} {r s : PT} (h1 : WX P ops n Q mu (.h i r) D f σ) (h2 : WX P ops n Q mu (.h j s) D f σ) : WX P ops n Q mu (.f i r j s) D f σ :=
  fun a hn hD hf => ⟨h1 a hn hD hf, h2 a hn hD hf⟩

/-- **A region that draws, in an order of our choice.** -/
theorem WC.draw {id : Nat} (mu : List Nat) (perm : PT) (hm : P.follows .mixedOrders = true) (hc : (Region.noSelect ops && chkX ops mu perm (Array.replicate ops.size false) && Nat.ble perm.len ops.size) = true)
    (h : ∀ σ' : St, Nx σ σ' .no → WX P ops n Q mu perm D f σ') : WC P n Q (.region id ops true) D f σ := by
  simp only [Bool.and_eq_true] at hc
  obtain ⟨⟨hsel, hc⟩, hl⟩ := hc
  refine WC.of fun a hn hD hf => ?_
  obtain ⟨σ', hw, hn'⟩ := st_drew σ (σ.w.drawn + 1)
  refine wp_region_any hm ?_
  rw [← hw]
  exact wpAny_of_X _ _ _ _ (any_of_perm hsel _ _ _ _ _ Closed.none_ hc (Nat.le_of_ble_eq_true hl) (h σ' ⟨hn'⟩ a hn hD hf))
theorem WX.use (h : WX P ops n Q mu l D f σ) : ∀ a : Act, a.tmps.size = n → a.defers = D → fr a = f → wpPerm P ops (LQ n Q) mu l a σ.w := h
end
section
variable {P : Program} {ops : Array Oper} {n : Nat} {Q : PostQ} {mu : List Nat} {l : PT} {D : List Deferred} {f : Fr} {σ : St} {i : Nat}
def WXp (P : Program) (ops : Array Oper) (n : Nat) (Q : PostQ) (mu : List Nat) (l : PT) (D : List Deferred) (f : Fr) (σ : St) (i : Nat) : Prop := WX P ops n Q mu (.p i l) D f σ
def WXl (P : Program) (ops : Array Oper) (n : Nat) (Q : PostQ) (mu : List Nat) (l : PT) (D : List Deferred) (f : Fr) (σ : St) (i : Nat) : Prop := WX P ops n Q mu (.l i l) D f σ
def WXh (P : Program) (ops : Array Oper) (n : Nat) (Q : PostQ) (mu : List Nat) (l : PT) (D : List Deferred) (f : Fr) (σ : St) (i : Nat) : Prop := WX P ops n Q mu (.h i l) D f σ
theorem WX.isP (h : WXp P ops n Q mu l D f σ i) : WX P ops n Q mu (.p i l) D f σ := h
theorem WX.isL (h : WXl P ops n Q mu l D f σ i) : WX P ops n Q mu (.l i l) D f σ := h
theorem WX.isH (h : WXh P ops n Q mu l D f σ i) : WX P ops n Q mu (.h i l) D f σ := h
end
attribute [irreducible] WX
theorem mixed : Try.prog.follows .mixedOrders = true := by kernel_rfl
end Go.Proofs.Ythdhnkgnbdociaa

/- Maps whose keys are points; an entry that is turned in place. No condition. -/
import Derived.Test.YthdhnkgnbdociaaEc
import Derived.Test.YthdhnkgnbdociaaRn
set_option linter.all false
set_option maxRecDepth 100000
set_option maxHeartbeats 40000000
set_option synthInstance.maxHeartbeats 2000000
set_option synthInstance.maxSize 100000
namespace Go.Proofs.Ythdhnkgnbdociaa
open Go Go.RowKit
section
variable {P : Program} {t kt et : TypeId} {α β : Type} [DecidableEq α] {EK : Elem α} {EV : Elem β} {σ σ' : St} {r : Nat} {M : List (α × β)} {f : Fr} {ty : TypeId} {bk bv : Nat}
/-- the map, the key's entry made -/
def entM (M : List (α × β)) (k : α) (z : β) : List (α × β) := if inM M k then M else M ++ [(k, z)]
theorem lookM_entM (M : List (α × β)) (k : α) (z : β) : lookM (entM M k z) k z = lookM M k z := by
  unfold entM
  split
  · rfl
  · rename_i h
    have h1 : inM M k = false := by simpa using h
    rw [lookM_none h1]
    have h2 : ∀ N : List (α × β), inM N k = false → lookM (N ++ [(k, z)]) k z = z := by
      intro N hN
      unfold lookM
      unfold inM at hN
      rw [List.any_eq_false] at hN
      rw [List.find?_append, List.find?_eq_none.2 (fun x hx => by simpa using hN x hx)]
      simp
    exact h2 M h1
theorem setM_len : ∀ (M : List (α × β)) (k : α) (v : β), (setM M k v).length = M.length
  | [], _, _ => rfl
  | p :: M, k, v => by
    unfold setM
    split
    · rfl
    · simp [setM_len M k v]
/-- an entry's place that is still to be written -/
class EntK (σ : St) (r : Nat) (st : Nat) (kt et : outParam TypeId) {α β : outParam Type} [DecidableEq α] (EK : outParam (Elem α)) (EV : outParam (Elem β)) (M : outParam (List (α × β))) (k : outParam α) : Prop where
  m : σ.M r
  h : ∃ (M1 : List (α × β)) (B : List Nat) (ck j : Nat) (u : β), σ.w.heap[r]? = some (.map ((M1.zip B).map (entE EK EV)).toArray ck) ∧ B.length = M1.length ∧ B.Nodup ∧ (∀ b ∈ B, b < ck) ∧ B[j]? = some st ∧ M1[j]? = some (k, u) ∧ (∀ v, M1.set j (k, v) = putM M k v) ∧ ∀ p ∈ M1, EK.ok σ p.1 ∧ EV.ok σ p.2
instance Step.makeMapN {x : Operand} {j : Int} {n : Nat} [h : Ev f x (.int .i64 j)] [q : ToNat j n] [u : U P t (.map kt et)] [ek : ElemOf P kt EK bk] [ev : ElemOf P et EV bv] :
    Step P (.makeMap t (some x)) ty f σ (fun K _ => ∀ (σ' : St) (r : Nat), Nx σ σ' .no → NewAt σ r → MapAt σ' r kt et EK EV [] → K (.map (some r)) σ') := ⟨fun K E' hK => by
  obtain ⟨σ', hw, hn, hm, _, ho, hs⟩ := st_new σ (.map #[] 0) True
  have e := q.eq; subst e
  have hr : (execOp (evo f) ⟨none, .makeMap t (some x), ty, "", #[], none⟩).run P σ.w = .ok (.value (.map (some σ.w.heap.size))) (σ.w.alloc (.map #[] 0)) := by
    simp [execOp, h.eq, Instr.makeMap, newObj, Sem.run, asInt, asIntOf, run_underlying u.h]
  unfold OpW; rw [hr]
  exact ⟨σ', hw, hK σ' _ ⟨hn⟩ ⟨Nat.le_refl _⟩ ⟨hm.2 trivial, ⟨[], 0, ho, rfl, List.nodup_nil, by simp⟩, by simp⟩⟩⟩
theorem zip_get {M : List (α × β)} {B : List Nat} {j : Nat} {p : α × β} {b : Nat} (h1 : M[j]? = some p) (h2 : B[j]? = some b) : (M.zip B)[j]? = some (p, b) := by
  rw [List.getElem?_zip_eq_some]; exact ⟨h1, h2⟩
instance Step.mapEntry {x y : Operand} {kv : Value} {k : α} {z : β} [h1 : Ev f x (.map (some r))] [h2 : Ev f y kv] [u : U P t (.map kt et)] [h : MapAt σ r kt et EK EV M] [ke : KeyE P kt EK] [en : EncV σ EK kv k] [ze : ZeroVal P et EV z] [ev : OkE σ EV z] :
    Step P (.mapEntry t x y) ty f σ (fun K _ => ∀ (σ' : St) (st : Nat), Nx σ σ' (.map r) → MapAt σ' r kt et EK EV (entM M k z) → EntK σ' r st kt et EK EV M k → K (.tuple #[EV.val (lookM M k z), .int .i64 (st : Int)]) σ') := ⟨fun K E' hK => by
  have hv := en.eq; subst hv
  obtain ⟨B, ck, hh, hl, hn, hb⟩ := h.h
  have hg : (getObj r).run P σ.w = .ok (.map ((M.zip B).map (entE EK EV)).toArray ck) σ.w := by simp [getObj, Sem.run, hh]
  have hf := run_findKey (EV := EV) ke k σ.w M B hl
  cases hi : fnd M k 0 with
  | none =>
    have hin : inM M k = false := fnd_none hi
    rw [hi, Option.map_none] at hf
    obtain ⟨σ', hrun, hnx, hm', hh'⟩ := st_setObj (P := P) (o' := .map (((M.zip B).map (entE EK EV)).toArray.push ⟨EK.val k, EV.val z, ck⟩) (ck + 1)) h.m hh ⟨_, _, rfl⟩ ⟨_, _, rfl⟩
    have hr : (execOp (evo f) ⟨none, .mapEntry t x y, ty, "", #[], none⟩).run P σ.w = .ok (.value (.tuple #[EV.val z, .int .i64 (ck : Int)])) σ'.w := by
      simp only [execOp, h1.eq, h2.eq, Instr.mapEntry, Sem.run_bind, run_underlying u.h, Result.andThen_ok, hg, ke.ck, hf, ze.h, hrun]
      rfl
    unfold OpW; rw [hr]
    rw [lookM_none hin] at hK
    have hent : entM M k z = M ++ [(k, z)] := by unfold entM; rw [hin]; rfl
    rw [hent] at hK
    have hh2 : σ'.w.heap[r]? = some (.map (((M ++ [(k, z)]).zip (B ++ [ck])).map (entE EK EV)).toArray (ck + 1)) := by
      rw [hh', List.zip_append hl.symm]; simp [entE]
    have hnd : (B ++ [ck]).Nodup := by
      rw [List.nodup_append]
      exact ⟨hn, by simp, fun a ha b hb' e => by simp at hb'; have := hb a ha; omega⟩
    have hbb : ∀ b ∈ B ++ [ck], b < ck + 1 := by
      intro b hb'
      rcases List.mem_append.1 hb' with h | h
      · have := hb b h; omega
      · simp at h; omega
    have hok : ∀ p ∈ M ++ [(k, z)], EK.ok σ' p.1 ∧ EV.ok σ' p.2 := by
      intro p hp
      rcases List.mem_append.1 hp with h' | h'
      · exact ⟨EK.nx _ _ _ _ hnx (h.ok p h').1, EV.nx _ _ _ _ hnx (h.ok p h').2⟩
      · simp at h'; subst h'; exact ⟨EK.nx _ _ _ _ hnx en.ok, EV.nx _ _ _ _ hnx ev.h⟩
    exact ⟨σ', rfl, hK σ' ck ⟨hnx⟩ ⟨hm', ⟨B ++ [ck], ck + 1, hh2, by simp [hl], hnd, hbb⟩, hok⟩
      ⟨hm', M ++ [(k, z)], B ++ [ck], ck + 1, M.length, z, hh2, by simp [hl], hnd, hbb, by rw [List.getElem?_append_right (by omega)]; simp [hl], by simp, fun v => by unfold putM; rw [hin]; simp, hok⟩⟩
  | some q =>
    obtain ⟨j, u0⟩ := q
    obtain ⟨hjl, _, hMj0, hin, hlook⟩ := fnd_some hi
    simp only [Nat.sub_zero] at hjl hMj0
    rw [hi, Option.map_some] at hf
    have hjB : j < B.length := by omega
    have hMj : M[j]? = some (k, u0) := by rw [List.getElem?_eq_getElem hjl, hMj0]
    have hBj : B[j]? = some B[j] := List.getElem?_eq_getElem hjB
    have hsi := fun v => set_idx k v M 0 j u0 hi
    simp only [Nat.sub_zero] at hsi
    have hzj : (M.zip B)[j]? = some ((k, u0), B[j]) := zip_get hMj hBj
    have hes : (((M.zip B).map (entE EK EV)).toArray)[j]? = some ⟨EK.val k, EV.val u0, B[j]⟩ := by
      simp [hzj, entE]
    have hset : (((M.zip B).map (entE EK EV)).toArray).modify j (fun e => { e with key := EK.val k }) = ((M.zip B).map (entE EK EV)).toArray := by
      apply Array.ext_getElem?
      intro i
      rw [Array.getElem?_modify]
      by_cases e : j = i
      · subst e; rw [if_pos rfl, hes]; rfl
      · rw [if_neg e]
    obtain ⟨σ', hrun, hnx, hm', hh'⟩ := st_setObj (P := P) (o' := .map ((M.zip B).map (entE EK EV)).toArray ck) h.m hh ⟨_, _, rfl⟩ ⟨_, _, rfl⟩
    have hk : (Instr.keyThatStays (EK.val k) (EK.val k)).run P σ.w = .ok (EK.val k) σ.w := by
      unfold Instr.keyThatStays; rw [if_pos (ke.bits k)]; rfl
    have hr : (execOp (evo f) ⟨none, .mapEntry t x y, ty, "", #[], none⟩).run P σ.w = .ok (.value (.tuple #[EV.val u0, .int .i64 ((B[j] : Nat) : Int)])) σ'.w := by
      simp only [execOp, h1.eq, h2.eq, Instr.mapEntry, Sem.run_bind, run_underlying u.h, Result.andThen_ok, hg, ke.ck, hf]
      rw [hes]
      simp only [Option.map_some, Option.getD_some, hk, Result.andThen_ok, hset, hrun]
      rfl
    unfold OpW; rw [hr]
    have hent : entM M k z = M := by unfold entM; rw [if_pos hin]
    rw [hlook z, hent] at hK
    have hok : ∀ p ∈ M, EK.ok σ' p.1 ∧ EV.ok σ' p.2 := fun p hp => ⟨EK.nx _ _ _ _ hnx (h.ok p hp).1, EV.nx _ _ _ _ hnx (h.ok p hp).2⟩
    exact ⟨σ', rfl, hK σ' B[j] ⟨hnx⟩ ⟨hm', ⟨B, ck, hh', hl, hn, hb⟩, hok⟩
      ⟨hm', M, B, ck, j, u0, hh', hl, hn, hb, hBj, hMj, fun v => by unfold putM; rw [if_pos hin]; exact (hsi v).symm, hok⟩⟩⟩
instance Step.entryStore {x y y2 : Operand} {vv : Value} {j : Int} {st : Nat} {k : α} {v : β} [h1 : Ev f x (.map (some r))] [h2 : Ev f y (.int .i64 j)] [h3 : Ev f y2 vv] [q : ToNat j st] [en : EntK σ r st kt et EK EV M k] [ev : EncV σ EV vv v] :
    Step P (.entryStore t x y y2) ty f σ (fun K _ => ∀ σ' : St, Nx σ σ' (.map r) → MapAt σ' r kt et EK EV (putM M k v) → K undef σ') := ⟨fun K E' hK => by
  have hv := ev.eq; subst hv
  have hq := q.eq; subst hq
  obtain ⟨M1, B, ck, jj, u, hh, hl, hn, hb, hBj, hMj, hset, hok⟩ := en.h
  have hg : (getObj r).run P σ.w = .ok (.map ((M1.zip B).map (entE EK EV)).toArray ck) σ.w := by simp [getObj, Sem.run, hh]
  have hjl : jj < M1.length := (List.getElem?_eq_some_iff.1 hMj).1
  have hjB : jj < B.length := (List.getElem?_eq_some_iff.1 hBj).1
  have hzj := zip_get hMj hBj
  have hfi : (((M1.zip B).map (entE EK EV)).toArray).findIdx? (fun e => (e.born : Int) == (st : Int)) = some jj := by
    rw [Array.findIdx?_eq_some_iff_getElem]
    have hsz : jj < ((M1.zip B).map (entE EK EV)).toArray.size := by simp [hl]; omega
    have hget : ∀ i (h : i < ((M1.zip B).map (entE EK EV)).toArray.size), (((M1.zip B).map (entE EK EV)).toArray[i]).born = B[i]'(by simp [hl] at h; omega) := by
      intro i h; simp [entE]
    have hBB : B[jj] = st := by rw [List.getElem?_eq_getElem hjB] at hBj; injection hBj
    refine ⟨hsz, by rw [hget jj hsz, hBB]; simp, fun i hi => ?_⟩
    have hiB : i < B.length := by omega
    have hi2 : i < ((M1.zip B).map (entE EK EV)).toArray.size := by omega
    have hne : B[i] ≠ B[jj] := List.pairwise_iff_getElem.1 hn i jj hiB hjB hi
    rw [hget i hi2]
    rw [hBB] at hne
    simp only [beq_iff_eq]
    intro e; exact hne (by omega)
  have hmod : (((M1.zip B).map (entE EK EV)).toArray).modify jj (fun e => { e with val := EV.val v }) = (((M1.set jj (k, v)).zip B).map (entE EK EV)).toArray := by
    apply Array.ext_getElem?
    intro i
    rw [Array.getElem?_modify]
    by_cases e : jj = i
    · subst e
      have hz2 : ((M1.set jj (k, v)).zip B)[jj]? = some ((k, v), st) := zip_get (by simp [hjl]) hBj
      simp [hzj, hz2, entE]
    · rw [if_neg e]
      have hz2 : ((M1.set jj (k, v)).zip B)[i]? = (M1.zip B)[i]? := by
        simp only [List.zip, List.getElem?_zipWith, List.getElem?_set_ne e]
      simp [hz2]
  obtain ⟨σ', hrun, hnx, hm', hh'⟩ := st_setObj (P := P) (o' := .map (((M1.set jj (k, v)).zip B).map (entE EK EV)).toArray ck) en.m hh ⟨_, _, rfl⟩ ⟨_, _, rfl⟩
  have hr : (execOp (evo f) ⟨none, .entryStore t x y y2, ty, "", #[], none⟩).run P σ.w = .ok .skip σ'.w := by
    simp only [execOp, h1.eq, h2.eq, h3.eq, Instr.entryStore, Sem.run_bind, Result.andThen_ok, hg, asInt, asIntOf, Sem.run_map, Sem.run_pure, hfi, hmod, hrun]
  unfold OpW; rw [hr]
  rw [← hset v] at hK
  refine ⟨σ', rfl, hK σ' ⟨hnx⟩ ⟨hm', ⟨B, ck, hh', by simp [hl], hn, hb⟩, fun p hp => ?_⟩⟩
  rcases List.mem_or_eq_of_mem_set hp with h' | h'
  · exact ⟨EK.nx _ _ _ _ hnx (hok p h').1, EV.nx _ _ _ _ hnx (hok p h').2⟩
  · subst h'
    have hkm := List.mem_of_getElem? hMj
    exact ⟨EK.nx _ _ _ _ hnx (hok _ hkm).1, EV.nx _ _ _ _ hnx ev.ok⟩⟩
end
/-! a struct of numbers as a key -/
theorem bits_ints (l : List Value) (h : ∀ v ∈ l, ∃ k n, v = .int k n) : Instr.sameBits 10000 (.agg l.toArray) (.agg l.toArray) = true := by
  have h2 : ∀ l : List Value, (∀ v ∈ l, ∃ k n, v = .int k n) → ((l.zip l).all fun (x, y) => Instr.sameBits 9999 x y) = true := by
    intro l
    induction l with
    | nil => intro _; rfl
    | cons v l ih =>
      intro hv
      obtain ⟨k, n, rfl⟩ := hv v (by simp)
      simp only [List.zip_cons_cons, List.all_cons, Bool.and_eq_true]
      exact ⟨by simp [Instr.sameBits], ih (fun u hu => hv u (by simp [hu]))⟩
  rw [show (10000 : Nat) = 9999 + 1 from rfl]
  unfold Instr.sameBits
  simp only [BEq.rfl, Bool.true_and]
  exact h2 l h
theorem kc_ints (k : Key) : ∀ v ∈ (kc k).toList, ∃ j n, v = .int j n := fun v hv => by
  simp only [kc, Array.toList_map, List.mem_map] at hv
  obtain ⟨b, _, rfl⟩ := hv
  exact ⟨_, _, rfl⟩
theorem ck_key' (e : Bool) (k : Nat) (a : Key) (w : World) : (Instr.checkKey e (k + 2) 26 (.agg (kc a))).run Try.prog w = .ok () w := by
  rw [Instr.checkKey]
  simp only [Sem.run_bind, run_underlying (inferInstance : U Try.prog 26 _).h, Result.andThen_ok]
  simp only [Std.Legacy.Range.forIn_eq_forIn_range', Std.Legacy.Range.size, Nat.sub_zero, Nat.add_one_sub_one, Nat.div_one]
  have key : ∀ is : List Nat, (∀ i ∈ is, i < 32) → (forIn is PUnit.unit (fun i _ => do
      let z ← sizeOf 5
      let y ← part 5 (kc a) (i * z)
      Instr.checkKey e (k + 1) 5 y
      pure (ForInStep.yield PUnit.unit)) : Sem PUnit).run Try.prog w = .ok () w := by
    intro is
    induction is with
    | nil => intro _; simp
    | cons i is ih =>
      intro h
      have ti := (inferInstance : TI Try.prog 5 false 1 1)
      have hi := h i (by simp)
      have hp : (part 5 (kc a) (i * 1)).run Try.prog w = .ok (u8v a[i]) w := run_part1 ti (by simpa using kc_get a i hi) w
      simp only [List.forIn_cons, Sem.run_bind, ti.run_sizeOf, Result.andThen_ok, hp, ck_u8 e k _ w, Sem.run_pure]
      exact ih (fun j hj => h j (by simp [hj]))
  rw [key _ (fun i hi => by rw [List.mem_range'] at hi; omega)]
  simp
theorem ck_pt' (e : Bool) (n : Nat) (a : Pt) (w : World) : (Instr.checkKey e (n + 3) 35 (ptE.val a)).run Try.prog w = .ok () w := by
  show (Instr.checkKey e (n + 2 + 1) 35 (.agg _)).run Try.prog w = _
  rw [Instr.checkKey]
  simp only [Sem.run_bind, run_underlying (inferInstance : U Try.prog 35 _).h, Result.andThen_ok]
  have p1 := run_field (P := Try.prog) (cs := cats [kc a.tx, #[.int .u32 (a.idx.toNat : Int)]]) (fo := 0) (inferInstance : TI Try.prog 26 _ _ _) inferInstance w
  have p2 := run_field (P := Try.prog) (cs := cats [kc a.tx, #[.int .u32 (a.idx.toNat : Int)]]) (fo := 32) (inferInstance : TI Try.prog 22 _ _ _) inferInstance w
  have c2 : (Instr.checkKey e (n + 2) 22 (.int .u32 (a.idx.toNat : Int))).run Try.prog w = .ok () w := by
    rw [show n + 2 = (n + 1) + 1 from rfl]
    simp [Instr.checkKey, run_underlying (inferInstance : U Try.prog 22 _).h]
  have c1 := ck_key' e n a.tx w
  rw [← Array.forIn_toList]
  simp [p1, p2, c1, c2]
instance ke_pt : KeyE Try.prog 35 ptE :=
  ⟨⟨_, (inferInstance : U Try.prog 35 _).h, fun _ _ => rfl⟩, fun a b w => (inferInstance : EqD Try.prog 35 ptE _).run 9997 w a b, fun e a w => ck_pt' e 9997 a w, fun a => bits_ints (cats [kc a.tx, #[.int .u32 (a.idx.toNat : Int)]]).toList (fun v hv => by
    rw [cats_toList] at hv
    simp only [List.flatMap_cons, List.flatMap_nil, List.append_nil, List.mem_append] at hv
    rcases hv with hv | hv
    · exact kc_ints _ v hv
    · rcases List.mem_cons.1 hv with rfl | hv
      · exact ⟨_, _, rfl⟩
      · cases hv)⟩
/-! numbers as values of a map -/
@[reducible] def intE : Elem Int := { sz := 1, agg := false, val := fun x => .int .i64 x, ok := fun _ _ => True, pos := by omega, size := fun _ => rfl, one := fun x v hv => (by simp [Value.cells] at hv; subst hv; rfl), shapeA := nofun, shape1 := fun _ _ => rfl }
instance eo_int : ElemOf Try.prog 3 intE 8 := ⟨inferInstance⟩
instance fv_int : FlatV intE (fun x => .int .i64 x) := ⟨rfl⟩
instance ev_int {σ : St} {x : Int} : EncV σ intE (.int .i64 x) x := ⟨rfl, trivial⟩
instance ok_int {σ : St} {x : Int} : OkE σ intE x := ⟨trivial⟩
instance zv_int : ZeroVal Try.prog 3 intE 0 := ⟨zv_of (by kernel_rfl)⟩
end Go.Proofs.Ythdhnkgnbdociaa

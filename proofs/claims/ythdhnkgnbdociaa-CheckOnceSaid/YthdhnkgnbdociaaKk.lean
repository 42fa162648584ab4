/- Keys as keys of maps; truth values as elements. No condition. -/
import Derived.Test.YthdhnkgnbdociaaMp
import Derived.Test.YthdhnkgnbdociaaEl
set_option linter.all false
namespace Go.Proofs.Ythdhnkgnbdociaa
open Go Go.RowKit
@[reducible] def boolE : Elem Bool := { sz := 1, agg := false, val := fun b => .bool b, ok := fun _ _ => True, pos := by omega, size := fun _ => rfl, one := fun x v hv => (by simp [Value.cells] at hv; subst hv; rfl), shapeA := nofun, shape1 := fun _ _ => rfl }
instance se_bool : SmallE boolE := ⟨by decide⟩
instance eo_bool : ElemOf Try.prog 4 boolE 1 := ⟨inferInstance⟩
instance fv_bool : FlatV boolE (fun b => .bool b) := ⟨rfl⟩
instance ev_bool {σ : St} {b : Bool} : EncV σ boolE (.bool b) b := ⟨rfl, trivial⟩
instance ze_bool : ZeroE Try.prog 4 boolE false := ZeroE.of (TZ.mk_ (by kernel_rfl)) (fun _ => trivial)
theorem zv_of {P : Program} {t : TypeId} {v : Value} (h : (P.info? t).bind (·.zero) = some v) (w : World) : (zeroValue t).run P w = .ok v w := by
  cases hi : P.info? t with
  | none => rw [hi] at h; cases h
  | some i => rw [hi] at h; simp [zeroValue, typeInfo, hi, show i.zero = some v from h]
instance zv_bool : ZeroVal Try.prog 4 boolE false := ⟨zv_of (by kernel_rfl)⟩
theorem ck_u8 (e : Bool) (k : Nat) (x : UInt8) (w : World) : (Instr.checkKey e (k + 1) 5 (u8v x)).run Try.prog w = .ok () w := by
  simp [Instr.checkKey, run_underlying (inferInstance : U Try.prog 5 _).h, u8v]
theorem ck_key (e : Bool) (a : Key) (w : World) : (Instr.checkKey e 10000 26 (.agg (kc a))).run Try.prog w = .ok () w := by
  rw [show (10000 : Nat) = 9999 + 1 from rfl, Instr.checkKey]
  simp only [Sem.run_bind, run_underlying (inferInstance : U Try.prog 26 _).h, Result.andThen_ok]
  simp only [Std.Legacy.Range.forIn_eq_forIn_range', Std.Legacy.Range.size, Nat.sub_zero, Nat.add_one_sub_one, Nat.div_one]
  have key : ∀ is : List Nat, (∀ i ∈ is, i < 32) → (forIn is PUnit.unit (fun i _ => do
      let z ← sizeOf 5
      let y ← part 5 (kc a) (i * z)
      Instr.checkKey e 9999 5 y
      pure (ForInStep.yield PUnit.unit)) : Sem PUnit).run Try.prog w = .ok () w := by
    intro is
    induction is with
    | nil => intro _; simp
    | cons i is ih =>
      intro h
      have ti := (inferInstance : TI Try.prog 5 false 1 1)
      have hi := h i (by simp)
      have hp : (part 5 (kc a) (i * 1)).run Try.prog w = .ok (u8v a[i]) w := run_part1 ti (by simpa using kc_get a i hi) w
      simp only [List.forIn_cons, Sem.run_bind, ti.run_sizeOf, Result.andThen_ok, hp, ck_u8 e 9998 _ w, Sem.run_pure]
      exact ih (fun j hj => h j (by simp [hj]))
  rw [key _ (fun i hi => by rw [List.mem_range'] at hi; omega)]
  simp
theorem bits_key (a : Key) : Instr.sameBits 10000 (.agg (kc a)) (.agg (kc a)) = true := by
  have h : ∀ l : List Value, (∀ v ∈ l, ∃ n, v = .int .u8 n) → ((l.zip l).all fun (x, y) => Instr.sameBits 9999 x y) = true := by
    intro l
    induction l with
    | nil => intro _; rfl
    | cons v l ih =>
      intro hv
      obtain ⟨n, rfl⟩ := hv v (by simp)
      simp only [List.zip_cons_cons, List.all_cons, Bool.and_eq_true]
      exact ⟨by simp [Instr.sameBits], ih (fun u hu => hv u (by simp [hu]))⟩
  rw [show (10000 : Nat) = 9999 + 1 from rfl]
  unfold Instr.sameBits
  simp only [BEq.rfl, Bool.true_and]
  refine h _ (fun v hv => ?_)
  simp only [kc, Array.toList_map, List.mem_map] at hv
  obtain ⟨b, _, rfl⟩ := hv
  exact ⟨_, rfl⟩
instance ke_key : KeyE Try.prog 26 keyE :=
  ⟨⟨_, (inferInstance : U Try.prog 26 _).h, fun _ _ => rfl⟩, fun a b w => run_equalIn_key 9998 w a b, ck_key, bits_key⟩
end Go.Proofs.Ythdhnkgnbdociaa

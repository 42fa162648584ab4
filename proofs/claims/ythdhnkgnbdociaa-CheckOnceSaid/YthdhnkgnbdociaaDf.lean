/- Panics, deferred calls, recover; what stands in an interface. No condition. -/
import Derived.Defers
import Derived.Recover
import Derived.Test.YthdhnkgnbdociaaRn
set_option linter.all false
namespace Go.Proofs.Ythdhnkgnbdociaa
open Go Go.RowKit
/-! truths of numbers that are told -/
theorem beq_ne {m k : Nat} (h : Nat.beq m k = false) : m ≠ k := fun e => by subst e; simp at h
instance (priority := low) BV.litEqT {m k : Nat} [h : EqB (Nat.beq m k) true] : BV (decide ((no_index (OfNat.ofNat m) : Int) = no_index (OfNat.ofNat k))) true := ⟨by
  have := Nat.eq_of_beq_eq_true h.eq
  subst this; simp⟩
instance (priority := low) BV.litEqF {m k : Nat} [h : EqB (Nat.beq m k) false] : BV (decide ((no_index (OfNat.ofNat m) : Int) = no_index (OfNat.ofNat k))) false := ⟨by
  have := beq_ne h.eq
  have e1 : (OfNat.ofNat m : Int) = (m : Int) := rfl
  have e2 : (OfNat.ofNat k : Int) = (k : Int) := rfl
  rw [e1, e2]
  simp; omega⟩
section
variable {P : Program} {f : Fr} {σ σ0 : St} {ty : TypeId}
class NotIf (d : TypeDesc) : Prop where
  h : ∀ ms, d ≠ .interface ms
instance {k : IntKind} : NotIf (.int k) := ⟨nofun⟩
instance {fs : Array Field} : NotIf (.struct fs) := ⟨nofun⟩
instance NotIf.str : NotIf .string := ⟨nofun⟩
instance StepV.makeIface {t : TypeId} {d : TypeDesc} {x : Operand} {v : Value} [h : Ev f x v] [u : U P t d] [nd : NotIf d] : StepV P (.makeInterface t x) ty f σ (.iface t v) := ⟨by
  have hn := nd.h
  have : (Instr.makeInterface t v).run P σ.w = .ok (.iface t v) σ.w := by
    unfold Instr.makeInterface
    simp only [Sem.run_bind, run_underlying u.h, Result.andThen_ok]
    cases d <;> first | rfl | exact absurd rfl (hn _)
  simp [execOp, h.eq, this]⟩
instance StepV.assert_hit {t xt : TypeId} {d : TypeDesc} {x : Operand} {v : Value} [h : Ev f x (.iface t v)] [u : U P t d] [nd : NotIf d] : StepV P (.typeAssert x xt t true) ty f σ (.tuple #[v, .bool true]) := ⟨by
  have hn := nd.h
  have : (Instr.typeAssert (.iface t v) xt t true).run P σ.w = .ok (.tuple #[v, .bool true]) σ.w := by
    unfold Instr.typeAssert
    simp only [Sem.run_bind, run_underlying u.h, Result.andThen_ok]
    cases d <;> first | (simp; done) | exact absurd rfl (hn _)
  simp [execOp, h.eq, this]⟩
theorem run_eq_if (w : World) {tp : TypeId} {ms : Array (String × TypeId)} (u : U P tp (.interface ms)) (v : Value) (b : Bool) (hb : (v = .nilIface ∧ b = true) ∨ (∃ t x, v = .iface t x ∧ b = false)) (X : Operand) :
    (eqGuard .eql tp X (.const .nilIface) v .nilIface).run P w = .ok () w ∧ (binOp .eql tp v .nilIface).run P w = .ok (.bool b) w := by
  have h : ∀ d : Nat, (Op.equalIn (d + 1) tp v .nilIface).run P w = .ok b w := fun d => by
    rcases hb with ⟨rfl, rfl⟩ | ⟨t, x, rfl, rfl⟩ <;> simp [Op.equalIn, run_underlying u.h]
  refine ⟨?_, ?_⟩
  · rcases hb with ⟨rfl, rfl⟩ | ⟨t, x, rfl, rfl⟩ <;> simp [eqGuard, program, Sem.run]
  · rcases hb with ⟨rfl, rfl⟩ | ⟨t, x, rfl, rfl⟩ <;> simp only [binOp] <;> simp [Op.equal, Op.maxDepth, h 9999]
instance StepV.if_eq_nil {x : Operand} {tp t2 : TypeId} {ms : Array (String × TypeId)} [h : Ev f x .nilIface] [u : U P tp (.interface ms)] : StepV P (.binOp .eql tp x (.const .nilIface) t2) ty f σ (.bool true) := ⟨by
  have hr := run_eq_if σ.w u .nilIface true (.inl ⟨rfl, rfl⟩) x
  have e2 : evo f (.const .nilIface) = .nilIface := rfl
  simp [execOp, h.eq, e2, hr.1, hr.2]⟩
instance StepV.if_eq_some {x : Operand} {tp t2 t : TypeId} {v : Value} {ms : Array (String × TypeId)} [h : Ev f x (.iface t v)] [u : U P tp (.interface ms)] : StepV P (.binOp .eql tp x (.const .nilIface) t2) ty f σ (.bool false) := ⟨by
  have hr := run_eq_if σ.w u (.iface t v) false (.inr ⟨_, _, rfl, rfl⟩) x
  have e2 : evo f (.const .nilIface) = .nilIface := rfl
  simp [execOp, h.eq, e2, hr.1, hr.2]⟩
instance Step.panic {x : Operand} {t : TypeId} {v : Value} [h : Ev f x (.iface t v)] : Step P (.panic x) ty f σ (fun _ E => E [{ v := .iface t v, recovered := false }] σ) := ⟨fun K E hE => by
  have hr : (execOp (evo f) ⟨none, .panic x, ty, "", #[], none⟩).run P σ.w = .halt (.panic (.iface t v)) σ.w := by
    simp [execOp, h.eq, Instr.panic, goPanic, Sem.run]
  unfold OpW; rw [hr]
  exact ⟨σ, rfl, hE⟩⟩
theorem resP {fn : Func} {K : KV} {E : KE} {c : List PanicEntry} (h : E c σ) : resQ P fn K E (.panic c) [] f σ := by
  unfold resQ; exact ⟨rfl, h⟩
/-- a deferred call is laid by -/
theorem WL.defer {ops : Array Oper} {n : Nat} {Q : PostQ} {l : List Oper} {D : List Deferred} {x : Operand} {ty : TypeId} {pos : String} {aft : Array Edge} {fn : Fn} {cap : Array Value} [h : Ev f x (.func fn #[] cap)]
    (hh : WL P ops n Q l ({ target := .fn fn cap, args := #[] } :: D) f σ) : WL P ops n Q (⟨none, .defer { callee := .value x, args := #[], argTypes := #[] }, ty, pos, aft, none⟩ :: l) D f σ := by
  unfold WL at *
  rintro a hn rfl rfl
  refine wpList_plain rfl (fun K hK => ?_)
  have hr : (execOp a.eval ⟨none, .defer { callee := .value x, args := #[], argTypes := #[] }, ty, pos, aft, none⟩).run P σ.w = .ok (.defer { target := .fn fn cap, args := #[] }) σ.w := by
    rw [eval_fr]
    simp [execOp, resolve, h.eq, Deferred.ofValue]
  unfold Oper.wp
  rw [hr, Oper.upon_defer]
  exact hK _ _ (hh _ (by rw [size_put, hn]) (by rw [defers_put]) (by rfl))
instance {ops : Array Oper} {n : Nat} {Q : PostQ} {l : List Oper} {D : List Deferred} {x : Operand} {ty : TypeId} {pos : String} {aft : Array Edge} {fn : Fn} {cap : Array Value} [h : Ev f x (.func fn #[] cap)] :
    Nxt (WL P ops n Q (⟨none, .defer { callee := .value x, args := #[], argTypes := #[] }, ty, pos, aft, none⟩ :: l) D f σ) (WL P ops n Q l ({ target := .fn fn cap, args := #[] } :: D) f σ) := ⟨WL.defer⟩
/-- the end of a function with deferred calls -/
def resD (P : Program) (fn : Func) (R : Ending → World → Prop) : PostQ
  | .normal, D, f, σ | .ret, D, f, σ => ∀ a : Act, fr a = f → Leaves P fn a.tmps R D .returning σ.w
  | .panic c, D, f, σ => ∀ a : Act, fr a = f → Leaves P fn a.tmps R D (.panicking c) σ.w
  | _, _, _, _ => False
def ResEnd (K : KV) (E : KE) : Ending → World → Prop
  | .returned v, w' => ∃ σ' : St, σ'.w = w' ∧ K v σ'
  | .panicked c, w' => ∃ σ' : St, σ'.w = w' ∧ E c σ'
  | .outgrown, _ => False
theorem calls_enterD {g : FuncId} {fn : Func} {c : Code} {args : List Value} {K : KV} {E : KE} (hf : P.funcs[g]? = some fn) (hb : fn.body = some c) (n : Nat) (hn : fn.ntmps = n) (hl : Nat.ble args.length n = true)
    (h : WC P n (resD P fn (ResEnd K E)) c [] (argsF args n) σ) : Calls P g args.toArray σ.w (fun
    | .returned v, w' => ∃ σ' : St, σ'.w = w' ∧ K v σ'
    | .panicked c, w' => ∃ σ' : St, σ'.w = w' ∧ E c σ'
    | .outgrown, _ => False) := by
  have hl' : args.length ≤ n := Nat.le_of_ble_eq_true hl
  have key : Calls P g args.toArray σ.w (ResEnd K E) := by
    refine calls_of_wp_defers hf hb (wp_mono (h.use ⟨args.toArray ++ Array.replicate (fn.ntmps - args.toArray.size) undef, []⟩ ?_ rfl ?_) ?_)
    · simp [hn]; omega
    · funext j
      simp [fr, argsF, hn, List.getD_eq_getElem?_getD, List.getElem?_append, Array.getElem?_append, List.getElem?_replicate, Array.getElem?_replicate]
    · rintro e a' _ ⟨hn', σ', rfl, hq⟩
      cases e with
      | normal => exact hq a' rfl
      | ret => exact hq a' rfl
      | panic ch => exact hq a' rfl
      | exit id => exact hq.elim
      | goto l => exact hq.elim
      | outgrown => exact hq.elim
  exact key.mono fun e w' he => by cases e <;> exact he
/-- what recover tells, and how the caller goes on -/
class RecU (u : FrameMode) (v : outParam Value) (u' : outParam FrameMode) : Prop where
  h : (u = .returning ∧ v = .nilIface ∧ u' = .returning) ∨ ∃ c, u = .panicking [{ v := v, recovered := false }] ∧ u' = .panicking [{ v := v, recovered := true }] ∧ c = v
instance RecU.ret : RecU .returning .nilIface .returning := ⟨.inl ⟨rfl, rfl, rfl⟩⟩
instance RecU.pan {v : Value} : RecU (.panicking [{ v := v, recovered := false }]) v (.panicking [{ v := v, recovered := true }]) := ⟨.inr ⟨_, rfl, rfl, rfl⟩⟩
/-- a deferred function that recovers first -/
theorem callsD_recover {g : FuncId} {fn : Func} {id d : Nat} {ty : TypeId} {pos : String} {aft : Array Edge} {rest : Code} {args : List Value} {K : KV} {E : KE} {u u' : FrameMode} {v : Value} [ru : RecU u v u'] (hf : P.funcs[g]? = some fn)
    (hb : fn.body = some (.seq (.region id #[⟨some d, .call { callee := .builtin .recover, args := #[], argTypes := #[] }, ty, pos, aft, none⟩] false) rest)) (n : Nat) (hn : fn.ntmps = n) (hl : Nat.ble args.length n = true) (hd : Nat.blt d n = true)
    (h : WC P n (resQ P fn K E) rest [] (upd (argsF args n) d v) σ) : CallsD P g args.toArray u σ.w (fun e u2 w' => u2 = u' ∧ ResEnd K E e w') := by
  have hl' : args.length ≤ n := Nat.le_of_ble_eq_true hl
  refine callsD_of_wpS hf hb (fun c0 cs hu => wpS_seq (wpS_region ?_))
  have hnil : ∀ a : Act, (execOp a.eval ⟨some d, .call { callee := .builtin .recover, args := #[], argTypes := #[] }, ty, pos, aft, none⟩).run P σ.w = .ok .recover σ.w := fun a => by
    simp [execOp, resolve, invoke, builtin]
  have hsz : (⟨args.toArray ++ Array.replicate (fn.ntmps - args.toArray.size) undef, []⟩ : Act).tmps.size = n := by simp [hn]; omega
  have hfr : fr (⟨args.toArray ++ Array.replicate (fn.ntmps - args.toArray.size) undef, []⟩ : Act) = argsF args n := by
    funext j
    simp [fr, argsF, hn, List.getD_eq_getElem?_getD, List.getElem?_append, Array.getElem?_append, List.getElem?_replicate, Array.getElem?_replicate]
  have key : ∀ (cs2 : List Frame), cs2 = { c0 with mode := u' } :: cs → rest.wpS P (bodyPostS P fn c0 cs (fun e u2 w' => u2 = u' ∧ ResEnd K E e w')) ((⟨args.toArray ++ Array.replicate (fn.ntmps - args.toArray.size) undef, []⟩ : Act).put (some d) v) cs2 σ.w := by
    intro cs2 hcs
    refine wpS_of_wp (wp_mono (h.use _ (by rw [size_put]; exact hsz) (by rw [defers_put]) (by rw [fr_put (by rw [hsz]; exact lt_of_blt hd), hfr])) ?_)
    rintro e a' _ ⟨hn', σ', rfl, hq⟩
    unfold resQ at hq
    cases e with
    | normal => obtain ⟨hd, v, hr, hk⟩ := hq; exact ⟨hd, u', hcs, v, hr a' rfl, rfl, hk⟩
    | ret => obtain ⟨hd, v, hr, hk⟩ := hq; exact ⟨hd, u', hcs, v, hr a' rfl, rfl, hk⟩
    | panic ch => exact ⟨hq.1, u', hcs, rfl, σ', rfl, hq.2⟩
    | exit id => exact hq.elim
    | goto l => exact hq.elim
    | outgrown => exact hq.elim
  have h0 : (#[(⟨some d, .call { callee := .builtin .recover, args := #[], argTypes := #[] }, ty, pos, aft, none⟩ : Oper)] : Array Oper)[0]? = some ⟨some d, .call { callee := .builtin .recover, args := #[], argTypes := #[] }, ty, pos, aft, none⟩ := rfl
  have hrange : List.range (#[(⟨some d, .call { callee := .builtin .recover, args := #[], argTypes := #[] }, ty, pos, aft, none⟩ : Oper)] : Array Oper).size = [0] := rfl
  rw [hrange]
  simp only [wpOpsS, h0, Region.wanted, if_true, hnil, Exit.thenS]
  rcases ru.h with ⟨rfl, rfl, rfl⟩ | ⟨c, rfl, rfl, rfl⟩
  · have : recoverD (c0 :: cs) = none := by simp [recoverD, hu]
    rw [this]
    exact key _ (by rw [← hu])
  · have : recoverD (c0 :: cs) = some (c, { c0 with mode := .panicking [{ v := c, recovered := true }] } :: cs) := by simp [recoverD, hu]
    rw [this]
    exact key _ rfl
/-- one deferred function, which comes back: then the results are read -/
theorem leaves_one {g : FuncId} {fn : Func} {cap : List Value} {K K1 : KV} {E E1 : KE} {u u' : FrameMode} {rs : List ResultVar} [i : Fnc P g] (hu : u ≠ .run) (hr : fn.results = rs.toArray)
    (hc : CallsD P g cap.toArray u σ.w (fun e u2 w' => u2 = u' ∧ ResEnd K1 E1 e w')) (hs : settle u' = .returning) (hE : ∀ c σ', ¬ E1 c σ')
    (h : ∀ v σ', K1 v σ' → ∃ vs v2, ResL P σ' f rs vs ∧ RetV vs v2 ∧ ∃ σ1 : St, σ1.w = σ'.w ∧ K v2 σ1) :
    ∀ a : Act, fr a = f → Leaves P fn a.tmps (ResEnd K E) [{ target := .fn (.func g) cap.toArray, args := #[] }] u σ.w := by
  intro a ha
  refine leaves_cons hu (by show (invoke (.fn (.func g) cap.toArray) #[]).run P σ.w = .ok (.enter g cap.toArray) σ.w; simp [invoke, i.run]) (hc.mono ?_)
  rintro e u2 w' ⟨rfl, he⟩
  cases e with
  | returned v =>
    obtain ⟨σ', rfl, hk⟩ := he
    obtain ⟨vs, v2, hl, hv, σ1, hw, hk2⟩ := h v σ' hk
    show Leaves P fn a.tmps (ResEnd K E) [] (settle u2) σ'.w
    rw [hs]
    exact ⟨v2, resL_run hr a ha, σ1, hw, hk2⟩
  | panicked c =>
    obtain ⟨σ', _, hk⟩ := he
    exact (hE _ _ hk).elim
  | outgrown => exact he.elim
end
end Go.Proofs.Ythdhnkgnbdociaa

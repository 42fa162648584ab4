/- keys: compare and Less by contract. No condition. -/
import Derived.Test.YthdhnkgnbdociaaTyp
import Derived.Test.YthdhnkgnbdociaaGo
set_option linter.all false
set_option maxHeartbeats 40000000
set_option synthInstance.maxHeartbeats 2000000
set_option synthInstance.maxSize 100000
namespace Go.Proofs.Ythdhnkgnbdociaa
open Go Go.RowKit

class RdB (σ : St) (A : Option Addr) (n : Nat) (bs : outParam (List UInt8)) : Prop where
  len : bs.length = n
  rd : bs = [] ∨ ∃ b o, A = some ⟨b, o, none⟩ ∧ ∀ (j : Nat) (h : j < bs.length), σ.w.cell? ⟨b, o + j, none⟩ = some (u8v bs[j])
instance RdB.own_key {σ : St} {b : Nat} {t : TypeId} {k : Key} [h : Own σ b t (kc k)] : RdB σ (some ⟨b, 0, none⟩) 32 k.toList :=
  ⟨by simp, .inr ⟨b, 0, rfl, fun j hj => by
    rw [cell_own h.h]
    have : j < 32 := by simpa using hj
    simp [kc_get k j this]⟩⟩

theorem run_loadBytes {P : Program} {w : World} : ∀ (bs : List UInt8) (b o : Nat) (acc : ByteArray), (∀ (j : Nat) (h : j < bs.length), w.cell? ⟨b, o + j, none⟩ = some (u8v bs[j])) →
    (Extern.Bytes.loadBytes ⟨b, o, none⟩ bs.length acc).run P w = .ok ⟨acc.data ++ bs.toArray⟩ w
  | [], b, o, acc, _ => by simp [Extern.Bytes.loadBytes]
  | x :: xs, b, o, acc, h => by
    have h0 := h 0 (by simp)
    simp only [Nat.add_zero, List.getElem_cons_zero] at h0
    have ih := run_loadBytes (P := P) (w := w) xs b (o + 1) (acc.push x) (fun j hj => by
      have := h (j + 1) (by simpa using hj)
      simpa [Nat.add_assoc, Nat.add_comm 1 j] using this)
    simp only [List.length_cons, Extern.Bytes.loadBytes, Sem.run_bind, load, Sem.run, h0, Result.andThen_ok, u8v, add_at]
    have e : (x.toNat : Int).toNat.toUInt8 = x := by simp
    rw [e, ih]
    simp [ByteArray.push, ByteArray.data]

theorem RdB.run {P : Program} {σ : St} {A : Option Addr} {n c : Nat} {bs : List UInt8} (h : RdB σ A n bs) : (Extern.Bytes.bytesOf (.slice A n c)).run P σ.w = .ok ⟨bs.toArray⟩ σ.w := by
  rcases h.rd with e | ⟨b, o, rfl, hc⟩
  · subst e
    have := h.len; simp at this; subst this
    cases A <;> rfl
  · have := run_loadBytes (P := P) (w := σ.w) bs b o .empty hc
    rw [h.len] at this
    simpa [Extern.Bytes.bytesOf] using this

instance ext_compare {σ : St} {A B : Option Addr} {n m c d : Nat} {xs ys : List UInt8} [h : RdB σ A n xs] [g : RdB σ B m ys] :
    ExtRule Try.prog 75 [.slice A n c, .slice B m d] σ (.int .i64 (lexc xs ys)) :=
  ⟨by
    rw [run_callFunc_extern Try.func75 (by kernel_rfl) (by kernel_rfl) (by kernel_rfl) (e := Extern.BytealgCompare.compare) (by kernel_rfl)]
    show Result.andThen ((do let x ← Extern.Bytes.bytesOf (.slice A n c); let y ← Extern.Bytes.bytesOf (.slice B m d); pure (goInt (Extern.BytealgCompare.cmp x y)) : Sem Value).run _ _) _ = _
    simp [h.run, g.run, goInt, cmp_eq]⟩
instance r_bytes_Compare {σ : St} {A B : Option Addr} {n m c d : Nat} {xs ys : List UInt8} [h : RdB σ A n xs] [g : RdB σ B m ys] :
    CallRule Try.prog 67 [.slice A n c, .slice B m d] σ (fun K _ => K (.int .i64 (lexc xs ys)) σ) := ⟨fun K E hK => by
  refine calls_enter Try.func67 rfl _ Try.ntmps67 rfl ?_
  (repeat (first | refine go ?_ | refine goR ?_ | refine goS (fun yc hyc => ?_) | refine goL (fun _ _ => inferInstance) ?_ | with_reducible intro _ | refine goO (by first | omega | (simp only [List.length_cons, List.length_nil]; omega)) ?_ | fail))
  exact res1 Try.results67 hK⟩
instance r_keys_compare {σ : St} {a b : Key} :
    CallRule Try.prog 58 [.agg (kc a), .agg (kc b)] σ (fun K _ => ∀ σ', Nx σ σ' .no → K (.int .i64 (kcmp a b)) σ') := ⟨fun K E hK => by
  refine calls_enter Try.func58 rfl _ Try.ntmps58 rfl ?_
  (repeat (first | refine go ?_ | refine goR ?_ | refine goS (fun yc hyc => ?_) | refine goL (fun _ _ => inferInstance) ?_ | with_reducible intro _ | refine goO (by first | omega | (simp only [List.length_cons, List.length_nil]; omega)) ?_ | fail))
  refine WC.draw [] (.l 0 (.l 1 (.h 2 (.p 3 .nil)))) mixed (by decide +kernel) ?_
  (repeat (first | refine go ?_ | refine goR ?_ | refine goS (fun yc hyc => ?_) | refine goL (fun _ _ => inferInstance) ?_ | with_reducible intro _ | refine goO (by first | omega | (simp only [List.length_cons, List.length_nil]; omega)) ?_ | fail))
  exact back1 (σ0 := σ) Try.results58 (fun σ' _ _ => hK σ' inferInstance)⟩
end Go.Proofs.Ythdhnkgnbdociaa

/- The reference's order of keys, by contract. No condition. -/
import Derived.Test.YthdhnkgnbdociaaK1
import Derived.Test.YthdhnkgnbdociaaRn
set_option linter.all false
set_option maxHeartbeats 40000000
set_option synthInstance.maxHeartbeats 2000000
set_option synthInstance.maxSize 100000
namespace Go.Proofs.Ythdhnkgnbdociaa
open Go Go.RowKit
theorem lexc_diff : ∀ (a b : List UInt8) (i : Nat), i < a.length → i < b.length → a.take i = b.take i → a[i]! ≠ b[i]! → lexc a b = if a[i]! < b[i]! then -1 else 1
  | [], _, i, h, _, _, _ => by simp at h
  | _ :: _, [], i, _, h, _, _ => by simp at h
  | a :: a', b :: b', 0, _, _, _, hn => by
    simp at hn
    simp [lexc, hn]
  | a :: a', b :: b', i + 1, h1, h2, ht, hn => by
    simp at ht
    unfold lexc
    rw [if_pos ht.1, lexc_diff a' b' i (by simpa using h1) (by simpa using h2) ht.2 (by simpa using hn)]
    simp
section
variable {σ : St}
end
end Go.Proofs.Ythdhnkgnbdociaa

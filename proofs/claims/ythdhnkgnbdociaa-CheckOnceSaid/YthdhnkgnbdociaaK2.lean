/- The references' small functions of keys, by contract. No condition. -/
import Derived.Test.YthdhnkgnbdociaaEl
import Derived.Test.YthdhnkgnbdociaaK1
set_option linter.all false
set_option maxHeartbeats 40000000
set_option synthInstance.maxHeartbeats 2000000
set_option synthInstance.maxSize 100000
namespace Go.Proofs.Ythdhnkgnbdociaa
open Go Go.RowKit

theorem take_snoc_eq {xs ys : List Key} {i : Nat} (h1 : i < xs.length) (h2 : i < ys.length) (h : xs.take i = ys.take i) (e : xs[i]! = ys[i]!) : xs.take (i + 1) = ys.take (i + 1) := by
  rw [List.take_succ_eq_append_getElem h1, List.take_succ_eq_append_getElem h2, h]
  rw [getElem!_pos xs i h1, getElem!_pos ys i h2] at e
  rw [e]

end Go.Proofs.Ythdhnkgnbdociaa

/- The library's functions on slices, at thurible/api.Key, by contract. No condition. -/
import Derived.Test.YthdhnkgnbdociaaRn

set_option linter.all false
set_option maxHeartbeats 40000000
set_option synthInstance.maxHeartbeats 2000000
set_option synthInstance.maxSize 100000
namespace Go.Proofs.Ythdhnkgnbdociaa
open Go Go.RowKit
section
variable {σ : St} {A B : Option Addr} {n c m d : Nat} {xs ys : List Key}
end
end Go.Proofs.Ythdhnkgnbdociaa

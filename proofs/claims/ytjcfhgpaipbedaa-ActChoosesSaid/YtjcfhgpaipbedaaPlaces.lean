/- What rank.sorted answers, in plain Lean. -/
import Derived.Test.YtjcfhgpaipbedaaStPlain
namespace Go.Proofs.Ytjcfhgpaipbedaa.St
open Go.Sort
/-- n things' places, as the stable sort by 'cf' has them. -/
def places (cf : Nat → Nat → Int) : Nat → List Int
  | 0 => []
  | m + 1 => (stable (fun x y : Fin (m + 1) => decide (cf x.val y.val < 0)) (Array.ofFn fun i : Fin (m + 1) => i)).toList.map fun x => (x.val : Int)
def cmpI (x y : Int) : Int := if x < y then -1 else if y < x then 1 else 0
/-- rank.Order. -/
def orderL (l : List Int) : List Int := places (fun x y => cmpI (l.getD y 0) (l.getD x 0)) l.length
end Go.Proofs.Ytjcfhgpaipbedaa.St

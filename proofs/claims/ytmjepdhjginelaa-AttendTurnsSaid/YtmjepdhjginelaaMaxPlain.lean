/- slices.Max in plain Lean. -/
namespace Go.Proofs.Ytmjepdhjginelaa.St
def maxFrom (m : Int) (l : List Int) : Int := l.foldl (fun m x => if m < x then x else m) m
def maxL (l : List Int) : Int := maxFrom (l.getD 0 0) (l.drop 1)
end Go.Proofs.Ytmjepdhjginelaa.St

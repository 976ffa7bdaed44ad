/- What the document's check of a depot tells. No condition. -/
import Derived.Test.YtieenbjncimikaaGreatDoorBPE
import Derived.Test.YtieenbjncimikaaGreatDoorBPF
set_option linter.all false
open Go Go.AM Go.Proofs Go.AM.Pl
set_option maxRecDepth 100000
set_option maxHeartbeats 4000000
namespace ZD
def stR (b : List Int) (x : Mtr × Int) (kind : Int) : Mtr × Int := (minM b x.1 kind, orS x.2 (stepK b x.1 kind) 16)
def ofR (b : List Int) (l : List Rec) : Mtr × Int := (kindsR l).foldl (stR b) (mz, 0)
end ZD
open Go Go.AM Go.Proofs Go.AM.Pl
set_option maxRecDepth 100000
set_option maxHeartbeats 4000000
namespace ZD
end ZD
open Go Go.AM Go.Proofs Go.AM.Pl
set_option maxRecDepth 100000
set_option maxHeartbeats 4000000
namespace ZD
def trkN (b : List Int) (j : Nat) (t : Trk) : Option (Int × Int) := if (ofR b t.past).2 = 0 then none else some (j, 16)
def bodyOf (f : Func) : Code := f.body.getD .skip
end ZD

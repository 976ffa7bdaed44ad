/- What a minute makes of a meter, by the document. No condition. -/
import Derived.Test.YtieenbjncimikaaGreatDoorBPE0
set_option linter.all false
open Go Go.AM Go.Proofs Go.AM.Pl
set_option maxRecDepth 100000
set_option maxHeartbeats 100000000
namespace ZD
def dawnS (b : List Int) (m : Mtr) (S : Int) : Int := S + bz 32 (decide (bk b 11 - bk b 8 ≤ m.now - m.dawn)) + bz 128 (decide (bk b 14 ≤ m.now - m.sabbath))
def drvS (b : List Int) (m : Mtr) (S : Int) : Int :=
  (if m.day = bk b 4 then S + bz 1 (decide (bk b 0 < m.acc + 1)) + bz 4 (decide (bk b 6 < m.longers + 1)) else S + bz 1 (decide (bk b 0 < m.acc + 1))) + bz 2 (decide (bk b 5 < m.day + 1)) + bz 8 (decide (bk b 15 < m.week + 1)) + bz 16 (decide (bk b 16 < m.week + 1 + m.last))
def premS (b : List Int) (m : Mtr) : Int := if 0 < (turnM b m).lie then endK b (turnM b m) (worM b (turnM b m)) else 0
/-- What a minute breaks. -/
def stepK (b : List Int) (m : Mtr) (kind : Int) : Int :=
  if kind = 0 then 0 else
  let S2 := dawnS b (premM b m) (premS b m)
  let S3 := if kind = 3 then drvS b (premM b m) S2 else S2
  if kind = 1 then S3 else S3 + bz 512 (decide (bk b 17 < (premM b m).labour + 1))
@[simp] theorem fg_mtr (m : Mtr) : fg m.v = m.v := rfl
@[simp] theorem premS_Sm {b : List Int} {m : Mtr} {n : Nat} : Sm (n + 1) (premS b m) := by
  unfold premS; split
  · exact endK_Sm
  · exact Sm_0
@[simp] theorem SmA_0 {n : Nat} : Sm n 0 := Sm_0
@[simp] theorem SmA_b {n : Nat} {c : Int} {z : Bool} (hc : 0 ≤ c ∧ c ≤ 1000) : Sm (n + 1) (bz c z) := Sm_b hc
@[simp] theorem SmA_bz {n : Nat} {S c : Int} {z : Bool} (h : Sm n S) (hc : 0 ≤ c ∧ c ≤ 1000) : Sm (n + 1) (S + bz c z) := Sm_bz h hc
end ZD

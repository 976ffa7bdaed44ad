/- What functions tell of meters: the document's parts. No condition. -/
import Derived.Test.YtieenbjncimikaaGreatDoorBPD
set_option linter.all false
open Go Go.AM Go.Proofs Go.AM.Pl
set_option maxRecDepth 100000
set_option maxHeartbeats 4000000
namespace ZD
/-- A clause's bit. -/
def bz (c : Int) (z : Bool) : Int := if z = true then c else 0
/-- A small sum. -/
def Sm (n : Nat) (x : Int) : Prop := 0 ≤ x ∧ x ≤ 1000 * n
theorem Sm_bz {n : Nat} {S c : Int} {z : Bool} (h : Sm n S) (hc : 0 ≤ c ∧ c ≤ 1000) : Sm (n + 1) (S + bz c z) := by
  unfold Sm at *; unfold bz; split <;> omega
theorem Sm_b {n : Nat} {c : Int} {z : Bool} (hc : 0 ≤ c ∧ c ≤ 1000) : Sm (n + 1) (bz c z) := by
  unfold Sm at *; unfold bz; split <;> omega
theorem Sm_0 {n : Nat} : Sm n 0 := by unfold Sm; omega
def endK (b : List Int) (m : Mtr) (w : Wth) : Int := if w.weekly = true then bz 256 (w.brief && m.brief) else if w.reduced = true then bz 64 (decide (bk b 9 < m.reduces + 1)) else 0
theorem endK_Sm {b : List Int} {m : Mtr} {w : Wth} {n : Nat} : Sm (n + 1) (endK b m w) := by
  unfold endK; split
  · exact Sm_b (by omega)
  split
  · exact Sm_b (by omega)
  · exact Sm_0
end ZD
open Go Go.AM Go.Proofs Go.AM.Pl
set_option maxRecDepth 100000
set_option maxHeartbeats 4000000
namespace ZD
/-- Both sets, below a clause. -/
def orS (a b : Int) : Nat → Int
  | 0 => 0
  | n + 1 => orS a b n + (if a.tdiv ((2 ^ n : Nat) : Int) % 2 = 1 ∨ b.tdiv ((2 ^ n : Nat) : Int) % 2 = 1 then ((2 ^ n : Nat) : Int) else 0)
@[simp] theorem quo3 {a c : Int} (h : c ≠ 0) : binOpV cx .quo 3 (.i a) (.i c) = some (.i (IntKind.i64.wrap (a.tdiv c))) := by
  have : binS (.i a) (.i c) .quo = some (.i (IntKind.i64.wrap (a.tdiv c))) := by simp [binS, bin, V.i, h]
  unfold binOpV; rw [this]
end ZD

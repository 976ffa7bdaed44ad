/- The plain law of WeekOf. -/
import Derived.Test.YtaaiamfolbcchaaDoorX04
import Derived.Test.YtaaiamfolbcchaaDoorPWeekA
namespace Go.Proofs.YtaaiamfolbcchaaDoor.Pure
open Go.RowKit Go.Proofs.YtaaiamfolbcchaaDoor.X0 Go.Proofs.YtaaiamfolbcchaaDoor.Ext Go.Proofs.YtaaiamfolbcchaaDoorW.PrintWords Go.Proofs.YtaaiamfolbcchaaDoorW.PrintLast

theorem of_tells (m l : Int) (h0 : -9223372036854775808 ≤ m) (h1 : m ≤ 9223372036854775807) : week_Of.f m l = if l < 1 then some (0, 1) else if m < 0 then some (0, 4) else some (m / l, 0) := by
  unfold week_Of.f week_check.f
  by_cases hl : l < 1
  · rw [if_pos hl, if_pos hl]; rfl
  · rw [if_neg hl, if_neg hl]
    by_cases hm : m < 0
    · rw [if_pos hm, if_pos hm]; rfl
    · rw [if_neg hm, if_neg hm]
      simp only [Option.bind_some, if_true]
      rw [if_neg (by omega), Int.tdiv_eq_ediv_of_nonneg (by omega), wrap_id]
      · have := Int.ediv_nonneg (show 0 ≤ m by omega) (show 0 ≤ l by omega); omega
      · have := Int.ediv_le_self l (show 0 ≤ m by omega); omega
theorem ref_of_tells (m l : Int) (h0 : -9223372036854775808 ≤ m) (h1 : m ≤ 9223372036854775807) : haulierref04_Of.f m l = if l < 1 then some (0, 1) else if m < 0 then some (0, 4) else some (m / l, 0) := by
  unfold haulierref04_Of.f
  by_cases hl : l < 1
  · rw [if_pos hl, if_pos hl]
  · rw [if_neg hl, if_neg hl]
    by_cases hm : m < 0
    · rw [if_pos hm, if_pos hm]
    · rw [if_neg hm, if_neg hm]
      rw [if_neg (by omega), Int.tdiv_eq_ediv_of_nonneg (by omega), wrap_id]
      · have := Int.ediv_nonneg (show 0 ≤ m by omega) (show 0 ≤ l by omega); omega
      · have := Int.ediv_le_self l (show 0 ≤ m by omega); omega
theorem mul_tells (k : Nat) (a b : Int) (h0 : 0 ≤ a) (h1 : a ≤ 9223372036854775807) (h2 : 0 ≤ b) (h3 : b ≤ 9223372036854775807) :
    minute_Mul.f (k + 2) a b = some (if a * b ≤ 9223372036854775807 then (a * b, 0) else (0, 19)) := by
  have hp : 0 ≤ a * b := Int.mul_nonneg h0 h2
  have hs : ∀ n : Int, 0 ≤ n → n ≤ 9223372036854775807 → minute_size.f n = some n := fun n g0 g1 => by
    unfold minute_size.f
    rw [if_neg (by omega), IntKind.wrap_u64, Int.emod_eq_of_lt g0 (by omega)]
  unfold minute_Mul.f
  rw [hs a h0 h1, hs b h2 h3]
  simp only [Option.bind_some]
  rw [show bits_Mul64.f a b = some (a * b / 18446744073709551616, a * b % 18446744073709551616) by unfold bits_Mul64.f; rw [if_pos (by omega)]]
  simp only [Option.bind_some]
  rw [show (decide (a < 0) != decide (b < 0)) = false by rw [decide_eq_false (by omega), decide_eq_false (by omega)]; rfl]
  rw [if_neg (by decide)]
  simp only [minute_Mul.j0]
  by_cases hc : a * b ≤ 9223372036854775807
  · rw [if_pos hc, if_pos (by omega)]
    simp only [minute_Mul.j1]
    rw [if_neg (by simp; omega), if_neg (by decide), wrap_id (by omega) (by omega), Int.emod_eq_of_lt hp (by omega)]
  · rw [if_neg hc]
    by_cases hz : a * b / 18446744073709551616 = 0
    · rw [if_pos hz]
      simp only [minute_Mul.j1]
      rw [if_pos (by simp; omega)]
    · rw [if_neg hz]
      simp only [minute_Mul.j1]
      rw [if_pos trivial]
theorem ref_mul_tells (k : Nat) (a b : Int) (h0 : 0 ≤ a) (h1 : a ≤ 9223372036854775807) (h2 : 1 ≤ b) (h3 : b ≤ 9223372036854775807) :
    haulierref01_Mul.f (k + 1) a b = some (if a * b ≤ 9223372036854775807 then (a * b, 0) else (0, 19)) := by
  unfold haulierref01_Mul.f
  by_cases ha : a = 0
  · rw [if_pos ha]
    simp only [haulierref01_Mul.j0]
    rw [if_pos trivial, ha, Int.zero_mul, if_pos (by omega)]
  · rw [if_neg ha]
    simp only [haulierref01_Mul.j0]
    have hp : a ≤ a * b := by have := Int.mul_le_mul_of_nonneg_left h2 h0; omega
    have hpos : 0 < a * b := by omega
    rw [if_neg (by simp; omega), if_neg (by omega), if_neg (by omega), if_neg (by omega)]
    by_cases hc : a * b ≤ 9223372036854775807
    · rw [wrap_id (show -9223372036854775808 ≤ a * b by omega) hc, Int.mul_tdiv_cancel _ (by omega), wrap_id (by omega) (by omega), if_pos rfl, if_pos hc]
    · rw [if_neg hc, if_neg]
      intro e
      have hw : wrap64 (a * b) < a * b ∧ -9223372036854775808 ≤ wrap64 (a * b) ∧ wrap64 (a * b) ≤ 9223372036854775807 := by unfold wrap64; omega
      generalize wrap64 (a * b) = x at e hw
      by_cases hx : x < 0
      · have : Int.tdiv x b ≤ 0 := by
          obtain ⟨y, rfl⟩ : ∃ y, x = -y := ⟨-x, by omega⟩
          rw [Int.neg_tdiv, Int.tdiv_eq_ediv_of_nonneg (by omega)]
          have := Int.ediv_nonneg (show 0 ≤ y by omega) (show 0 ≤ b by omega)
          omega
        have h5 : -9223372036854775808 ≤ Int.tdiv x b := by
          have := Int.natAbs_tdiv_le_natAbs x b
          omega
        rw [wrap_id h5 (by omega)] at e
        omega
      · rw [Int.tdiv_eq_ediv_of_nonneg (by omega)] at e
        have h6 := Int.ediv_nonneg (show 0 ≤ x by omega) (show 0 ≤ b by omega)
        have h7 := Int.ediv_le_self b (show 0 ≤ x by omega)
        rw [wrap_id (by omega) (by omega)] at e
        have := Int.ediv_mul_le x (show b ≠ 0 by omega)
        rw [e] at this
        omega
theorem WeekOf (m l : Int) (hm : (Lit.int .i64 m).wf = true) (hl : (Lit.int .i64 l).wf = true) : ∃ k, haulierlaw04_WeekOf.f k m l = some true := by
  refine ⟨2, ?_⟩
  obtain ⟨m0, m1⟩ := bounds_i64 hm
  obtain ⟨l0, l1⟩ := bounds_i64 hl
  have hb : week_Begin.f 2 m l = haulierref04_Begin.f 2 m l := by
    unfold week_Begin.f haulierref04_Begin.f week_check.f
    by_cases hl : l < 1
    · rw [if_pos hl, if_pos hl]; rfl
    · rw [if_neg hl, if_neg hl]
      by_cases hm : m < 0
      · rw [if_pos hm, if_pos hm]; rfl
      · rw [if_neg hm, if_neg hm]
        simp only [Option.bind_some, if_true]
        rw [mul_tells 0 m l (by omega) m1 (by omega) l1, ref_mul_tells 1 m l (by omega) m1 (by omega) l1]
  have hs : ∃ p, haulierref04_Begin.f 2 m l = some p := by
    unfold haulierref04_Begin.f
    split
    · exact ⟨_, rfl⟩
    · split
      · exact ⟨_, rfl⟩
      · rw [ref_mul_tells 1 m l (by omega) m1 (by omega) l1]; exact ⟨_, rfl⟩
  obtain ⟨p, hp⟩ := hs
  unfold haulierlaw04_WeekOf.f
  rw [of_tells m l m0 m1, ref_of_tells m l m0 m1, hb, hp, alive_yes]
  obtain ⟨q, hq⟩ : ∃ q, (if l < 1 then some ((0 : Int), (1 : Int)) else if m < 0 then some (0, 4) else some (m / l, 0)) = some q := by
    split
    · exact ⟨_, rfl⟩
    · split <;> exact ⟨_, rfl⟩
  rw [hq]
  simp
end Go.Proofs.YtaaiamfolbcchaaDoor.Pure

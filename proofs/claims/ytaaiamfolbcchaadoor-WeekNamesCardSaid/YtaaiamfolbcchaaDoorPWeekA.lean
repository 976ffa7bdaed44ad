/- Plain laws of layer 4: names of minutes; alive. -/
import Derived.Test.YtaaiamfolbcchaaDoorX03
import Derived.OpenShut
namespace Go.Proofs.YtaaiamfolbcchaaDoor.Pure
set_option linter.unusedVariables false
set_option linter.unusedSimpArgs false
open Go.RowKit Go.Proofs.YtaaiamfolbcchaaDoor.X0 Go.Proofs.YtaaiamfolbcchaaDoor.Ext Go.Proofs.YtaaiamfolbcchaaDoorW.PrintWords Go.Proofs.YtaaiamfolbcchaaDoorW.PrintLast

theorem wrap_id {n : Int} (h0 : -9223372036854775808 ≤ n) (h1 : n ≤ 9223372036854775807) : wrap64 n = n := by unfold wrap64; omega
theorem itoa_digit (n : Int) (h0 : 0 ≤ n) (h1 : n < 10) : strconv_Itoa.f n = some ⟨#[UInt8.ofNat (48 + n.toNat)]⟩ := by
  unfold strconv_Itoa.f
  rw [if_pos (by omega), Lib.itoa, if_neg (by omega), Lib.decDigits_one (by omega)]
theorem two_tells (n : Int) (h0 : 0 ≤ n) (h1 : n < 100) : week_two.f n = some ⟨#[UInt8.ofNat (48 + (n / 10).toNat), UInt8.ofNat (48 + (n % 10).toNat)]⟩ := by
  unfold week_two.f
  have e1 : Int.tdiv n 10 = n / 10 := Int.tdiv_eq_ediv_of_nonneg h0
  have e2 : Int.tmod n 10 = n % 10 := Int.tmod_eq_emod_of_nonneg h0
  rw [e1, e2, wrap_id (by omega) (by omega), itoa_digit _ (by omega) (by omega), itoa_digit _ (by omega) (by omega)]
  rfl
/-- A minute's name. -/
def nameOf (m : Int) : ByteArray :=
  ⟨#[UInt8.ofNat (48 + (m / 10080 + 1).toNat)]⟩ ++ ⟨#[32]⟩ ++ rdOf ByteArray.empty daysB (m / 1440 % 7) ++ ⟨#[32]⟩ ++ ⟨#[UInt8.ofNat (48 + (m / 60 % 24 / 10).toNat), UInt8.ofNat (48 + (m / 60 % 24 % 10).toNat)]⟩ ++ ⟨#[58]⟩ ++
    ⟨#[UInt8.ofNat (48 + (m % 60 / 10).toNat), UInt8.ofNat (48 + (m % 60 % 10).toNat)]⟩
theorem day_size (i : Int) (h0 : 0 ≤ i) (h1 : i < 7) : (rdOf ByteArray.empty daysB i).size = 3 := by
  have : i = 0 ∨ i = 1 ∨ i = 2 ∨ i = 3 ∨ i = 4 ∨ i = 5 ∨ i = 6 := by omega
  rcases this with rfl | rfl | rfl | rfl | rfl | rfl | rfl <;> rfl
theorem name_yes (k : Nat) (m : Int) (h0 : 0 ≤ m) (h1 : m ≤ 40320) : week_Name.f (k + 1) m = some (nameOf m, 0) := by
  unfold week_Name.f
  rw [if_neg (by omega)]
  simp only [week_Name.j0]
  rw [if_neg (by simp; omega)]
  have e1 : Int.tdiv m 10080 = m / 10080 := Int.tdiv_eq_ediv_of_nonneg h0
  have e2 : Int.tdiv m 1440 = m / 1440 := Int.tdiv_eq_ediv_of_nonneg h0
  have e3 : Int.tdiv m 60 = m / 60 := Int.tdiv_eq_ediv_of_nonneg h0
  have e4 : Int.tmod m 60 = m % 60 := Int.tmod_eq_emod_of_nonneg h0
  have w1 : wrap64 (m / 10080) = m / 10080 := wrap_id (by omega) (by omega)
  have w2 : wrap64 (m / 1440) = m / 1440 := wrap_id (by omega) (by omega)
  have w3 : wrap64 (m / 60) = m / 60 := wrap_id (by omega) (by omega)
  have w4 : wrap64 (m / 10080 + 1) = m / 10080 + 1 := wrap_id (by omega) (by omega)
  have e5 : Int.tmod (m / 1440) 7 = m / 1440 % 7 := Int.tmod_eq_emod_of_nonneg (by omega)
  have e6 : Int.tmod (m / 60) 24 = m / 60 % 24 := Int.tmod_eq_emod_of_nonneg (by omega)
  have hd := day_size (m / 1440 % 7) (by omega) (by omega)
  rw [e1, e2, e3, e4, w1, w2, w3, w4, e5, e6, itoa_digit _ (by omega) (by omega), two_tells _ (by omega) (by omega), two_tells _ (by omega) (by omega)]
  simp only [Option.bind_some]
  have s1 : ∀ a : UInt8, (⟨#[a]⟩ : ByteArray).size = 1 := fun _ => rfl
  rw [if_pos (by rw [s1]; omega), if_pos (by omega), if_pos (by omega), if_pos, if_pos, if_pos, if_pos, if_pos]
  · rfl
  all_goals simp only [ByteArray.size_append, hd, show ∀ a : UInt8, (⟨#[a]⟩ : ByteArray).size = 1 from fun _ => rfl, show ∀ a b : UInt8, (⟨#[a, b]⟩ : ByteArray).size = 2 from fun _ _ => rfl]; omega
theorem alive_yes (k : Nat) : haulierlaw04_alive.f (k + 1) = some true := by
  unfold haulierlaw04_alive.f
  rw [name_yes k 1505 (by omega) (by omega)]
  simp only [Option.bind_some]
  rw [if_pos (by decide +kernel)]
  rfl
end Go.Proofs.YtaaiamfolbcchaaDoor.Pure

/- The plain laws of numbers and spans as text (layer 6): what is decimal, what a text spells, what a number's text is. -/
import Derived.Test.YtaaiamfolbcchaaDoorX16
import Derived.Test.YtaaiamfolbcchaaDoorPStr
import Derived.Lib.AtoiAllCases
namespace Go.Proofs.YtaaiamfolbcchaaDoor.Pure
set_option linter.unusedVariables false
set_option linter.unusedSimpArgs false
open Go.RowKit Go.Proofs.YtaaiamfolbcchaaDoor.Y0 Go.Proofs.YtaaiamfolbcchaaDoor.X1 Go.Proofs.YtaaiamfolbcchaaDoor.Ext Go.Proofs.YtaaiamfolbcchaaDoorW.PrintWords Go.Proofs.YtaaiamfolbcchaaDoorW.PrintLast Go.Proofs.YtaaiamfolbcchaaDoorW.PrintMore

theorem wrp {n : Int} (h0 : -9223372036854775808 ≤ n) (h1 : n ≤ 9223372036854775807) : wrap64 n = n := by unfold wrap64; omega
theorem drop_at {s : ByteArray} {i : Int} {c : UInt8} {r : List UInt8} (h0 : 0 ≤ i) (h : s.data.toList.drop i.toNat = c :: r) : i < s.size ∧ bt s i = c.toNat ∧ s.data.toList.drop (i + 1).toNat = r ∧ s.data.toList[i.toNat]? = some c := by
  have hl : i.toNat < s.data.toList.length := by
    by_cases hlt : i.toNat < s.data.toList.length
    · exact hlt
    · rw [List.drop_eq_nil_of_le (by omega)] at h; cases h
  have hz := (Lib.size_eq s).symm
  have hg : s.data.toList[i.toNat]? = some c := by
    have := congrArg (·[0]?) h
    simpa [List.getElem?_drop] using this
  refine ⟨by omega, ?_, ?_, hg⟩
  · rw [← rd_bytesOf]
    unfold rd bytesOf
    simp [List.getD_eq_getElem?_getD, hg]
  · rw [show (i + 1).toNat = i.toNat + 1 by omega, ← List.drop_drop, h]
    rfl
theorem drop_end {s : ByteArray} {i : Int} (h0 : 0 ≤ i) (h : s.data.toList.drop i.toNat = []) : (s.size : Int) ≤ i := by
  have := List.drop_eq_nil_iff.1 h
  have hz := (Lib.size_eq s).symm
  omega
theorem drop_zero' (s : ByteArray) : s.data.toList.drop (0 : Int).toNat = s.data.toList := rfl
theorem size_int (s : ByteArray) : (s.size : Int) = (s.data.toList.length : Int) := by rw [Lib.size_eq s]

/-! ### Numbers' texts -/
def isDig (c : UInt8) : Bool := decide (48 ≤ c.toNat) && decide (c.toNat ≤ 57)
theorem isDig_iff {c : UInt8} : isDig c = true ↔ 48 ≤ c.toNat ∧ c.toNat ≤ 57 := by simp [isDig]
def head48 : List UInt8 → Bool
  | [] => false
  | c :: r => r.isEmpty || (c != 48)
def numT (l : List UInt8) : Bool := l.all isDig && head48 l
theorem u8_ne {c : UInt8} {n : Nat} (hn : n < 256) : (c != UInt8.ofNat n) = ((c.toNat : Int) != (n : Int)) := by
  by_cases h : c = UInt8.ofNat n
  · subst h
    have : (UInt8.ofNat n).toNat = n := by rw [UInt8.toNat_ofNat']; omega
    simp [this]
  · have h2 : c.toNat ≠ n := fun e => h (by rw [← e]; simp)
    have h3 : ((c.toNat : Int) != (n : Int)) = true := by simp; omega
    rw [h3]
    simpa using h
theorem ne48 (c : UInt8) : (c != 48) = ((c.toNat : Int) != 48) := u8_ne (n := 48) (by omega)
theorem bt_head {s : ByteArray} {c : UInt8} {r : List UInt8} (h : s.data.toList = c :: r) : bt s 0 = c.toNat := (drop_at (i := 0) (by omega) h).2.1
theorem decimal_tells (s : ByteArray) (hs : s.size ≤ 4294967281) : Ev (fun k => word_decimal.f k s) (numT s.data.toList) := by
  suffices H : ∀ (rest : List UInt8) (i : Int), 0 ≤ i → s.data.toList.drop i.toNat = rest → Ev (fun k => word_decimal.l0 k s s.size i) (rest.all isDig && head48 s.data.toList) from H s.data.toList 0 (by omega) rfl
  intro rest
  induction rest with
  | nil =>
    intro i h0 h
    have he := drop_end h0 h
    refine Ev.step (f := fun _ => some (head48 s.data.toList)) (fun k => ?_) (Ev.now _)
    simp only [word_decimal.l0, Lib.toList_data]
    rw [if_neg (by omega)]
    cases hl : s.data.toList with
    | nil => simp [head48]
    | cons c r =>
      have hz : (0 : Int) < s.size := by rw [size_int, hl, List.length_cons]; omega
      rw [if_neg (show ¬ (c :: r = []) by simp), if_pos hz, bt_head hl, ← ne48]
      by_cases hc : c :: r = [48]
      · rw [if_pos hc]
        injection hc with h1 h2
        subst h1 h2
        rfl
      · rw [if_neg hc]
        cases r with
        | nil =>
          have : ¬ c = 48 := fun e => hc (by rw [e])
          simp [head48, this]
        | cons d r => simp [head48]
  | cons c r ih =>
    intro i h0 h
    obtain ⟨hlt, hb, hd, _⟩ := drop_at h0 h
    by_cases hc : isDig c = true
    · have hc' := isDig_iff.1 hc
      refine Ev.step (f := fun k => word_decimal.l0 k s s.size (i + 1)) (fun k => ?_) (by
        have := ih (i + 1) (by omega) hd
        simpa [hc] using this)
      simp only [word_decimal.l0]
      rw [if_pos hlt, if_pos h0, if_pos hlt, hb, if_neg (by omega), if_neg (by omega), wrp (by omega) (by omega)]
    · have hc' : ¬ (48 ≤ c.toNat ∧ c.toNat ≤ 57) := fun e => hc (isDig_iff.2 e)
      have hc2 : isDig c = false := by simpa using hc
      rw [show ((c :: r).all isDig && head48 s.data.toList) = false by simp [hc2]]
      refine Ev.step (f := fun _ => some false) (fun k => ?_) (Ev.now _)
      simp only [word_decimal.l0]
      rw [if_pos hlt, if_pos h0, if_pos hlt, hb]
      by_cases h1 : (c.toNat : Int) < 48
      · rw [if_pos h1]
      · rw [if_neg h1, if_pos (by omega)]
theorem text_tells (s : ByteArray) (hs : s.size ≤ 4294967281) : Ev (fun k => haulierref06_Text.f k s) (numT s.data.toList) := by
  suffices H : ∀ (rest : List UInt8) (i : Int), 0 ≤ i → s.data.toList.drop i.toNat = rest → Ev (fun k => haulierref06_Text.l0 k s i) (rest.all isDig && head48 s.data.toList) from H s.data.toList 0 (by omega) rfl
  intro rest
  induction rest with
  | nil =>
    intro i h0 h
    have he := drop_end h0 h
    refine Ev.step (f := fun _ => some (head48 s.data.toList)) (fun k => ?_) (Ev.now _)
    simp only [haulierref06_Text.l0]
    rw [if_neg (by omega)]
    cases hl : s.data.toList with
    | nil =>
      have hz : (s.size : Int) = 0 := by rw [size_int, hl]; rfl
      rw [hz]
      simp [head48]
    | cons c r =>
      rw [bt_head hl, ← ne48]
      cases r with
      | nil =>
        have hz : (s.size : Int) = 1 := by rw [size_int, hl]; rfl
        rw [if_pos hz]
        simp [head48]
      | cons d r =>
        have hz : (s.size : Int) = (r.length : Int) + 2 := by rw [size_int, hl, List.length_cons, List.length_cons]; omega
        rw [if_neg (by omega), if_pos (by omega), if_pos (by omega)]
        simp [head48]
  | cons c r ih =>
    intro i h0 h
    obtain ⟨hlt, hb, hd, _⟩ := drop_at h0 h
    by_cases hc : isDig c = true
    · have hc' := isDig_iff.1 hc
      refine Ev.step (f := fun k => haulierref06_Text.l0 k s (i + 1)) (fun k => ?_) (by
        have := ih (i + 1) (by omega) hd
        simpa [hc] using this)
      simp only [haulierref06_Text.l0]
      rw [if_pos hlt, if_pos h0, hb, if_neg (by omega), if_neg (by omega), wrp (by omega) (by omega)]
    · have hc' : ¬ (48 ≤ c.toNat ∧ c.toNat ≤ 57) := fun e => hc (isDig_iff.2 e)
      have hc2 : isDig c = false := by simpa using hc
      rw [show ((c :: r).all isDig && head48 s.data.toList) = false by simp [hc2]]
      refine Ev.step (f := fun _ => some false) (fun k => ?_) (Ev.now _)
      simp only [haulierref06_Text.l0]
      rw [if_pos hlt, if_pos h0, hb]
      by_cases h1 : (c.toNat : Int) < 48
      · rw [if_pos h1]
      · rw [if_neg h1, if_pos (by omega)]

/-! ### What a text spells -/
def dstep (a : Nat) (c : UInt8) : Nat := a * 10 + (c.toNat - 48)
def valA (acc : Nat) (l : List UInt8) : Nat := l.foldl dstep acc
theorem valA_cons (acc : Nat) (c : UInt8) (r : List UInt8) : valA acc (c :: r) = valA (acc * 10 + (c.toNat - 48)) r := List.foldl_cons ..
theorem valA_nil (acc : Nat) : valA acc [] = acc := List.foldl_nil ..
theorem valA_ge : ∀ (l : List UInt8) (acc : Nat), acc ≤ valA acc l
  | [], acc => by rw [valA_nil]; exact Nat.le_refl _
  | c :: r, acc => by
    have := valA_ge r (acc * 10 + (c.toNat - 48))
    rw [valA_cons]
    omega
theorem parseM_eq (M : Nat) (hM : M = 18446744073709551615) : ∀ (l : List UInt8) (acc : Nat), l.all isDig = true → acc ≤ M →
    Lib.parseUintM M acc l = if valA acc l ≤ M then .ok (valA acc l) else .range
  | [], acc, _, h => by
    rw [valA_nil, if_pos h, Lib.parseUintM]
  | c :: r, acc, hd, h => by
    rw [List.all_cons, Bool.and_eq_true] at hd
    have hc := isDig_iff.1 hd.1
    have hge := valA_ge r (acc * 10 + (c.toNat - 48))
    rw [valA_cons, Lib.parseUintM, if_pos hc]
    by_cases h1 : 1844674407370955162 ≤ acc
    · rw [if_pos h1, if_neg (by omega)]
    · rw [if_neg h1]
      by_cases h2 : M < acc * 10 + (c.toNat - 48)
      · rw [if_pos h2, if_neg (by omega)]
      · rw [if_neg h2, parseM_eq M hM r _ hd.2 (by omega)]
def val (l : List UInt8) : Nat := valA 0 l
theorem numT_all {l : List UInt8} (h : numT l = true) : l.all isDig = true := by unfold numT at h; rw [Bool.and_eq_true] at h; exact h.1
theorem numT_ne {l : List UInt8} (h : numT l = true) : l ≠ [] := by
  rintro rfl
  simp [numT, head48] at h
theorem parsed_eq (s : ByteArray) (h : numT s.data.toList = true) : parsed s = if val s.data.toList < 9223372036854775808 then some (val s.data.toList : Int) else none := by
  have ha := numT_all h
  have hn := numT_ne h
  unfold parsed
  cases hl : s.data.toList with
  | nil => exact absurd hl hn
  | cons c r =>
    rw [hl] at ha
    have hc := isDig_iff.1 (by rw [List.all_cons, Bool.and_eq_true] at ha; exact ha.1)
    have hp : Lib.parseUintB 64 (c :: r) = if val (c :: r) ≤ 18446744073709551615 then .ok (val (c :: r)) else .range := by
      unfold Lib.parseUintB val
      rw [if_neg (by simp)]
      exact parseM_eq _ (by decide) (c :: r) 0 ha (by omega)
    simp only [Lib.parseIntB]
    rw [if_neg (show ¬ (c.toNat = 43 ∨ c.toNat = 45) by omega), hp]
    by_cases hv : val (c :: r) ≤ 18446744073709551615
    · rw [if_pos hv]
      simp only
      by_cases h3 : val (c :: r) < 9223372036854775808
      · rw [if_neg (by omega), if_neg (by omega), if_pos h3, if_neg (by omega)]
      · rw [if_pos (by omega), if_neg h3]
    · rw [if_neg hv, if_neg (by omega)]
/-- The number of a text, at most 'most'. -/
def numR (l : List UInt8) (most : Int) : Int × Int := if numT l = true then (if val l < 9223372036854775808 then (if most < (val l : Int) then (0, 4) else ((val l : Int), 0)) else (0, 4)) else (0, 7)
theorem Number_tells (s : ByteArray) (most : Int) (hs : s.size ≤ 4294967281) : Ev (fun k => word_Number.f k s most) (numR s.data.toList most) := by
  refine Ev.bind (f := fun _ d => if d = true then (if s.size ≤ 281474976710656 then some (if (parsed s).all (fun v => decide (most < v)) then ((0 : Int), (4 : Int)) else ((parsed s).getD 0, 0)) else none) else some (0, 7)) (decimal_tells s hs) ?_
  by_cases h : numT s.data.toList = true
  · rw [parsed_eq s h, show numR s.data.toList most = (if val s.data.toList < 9223372036854775808 then (if most < (val s.data.toList : Int) then ((0 : Int), (4 : Int)) else ((val s.data.toList : Int), 0)) else (0, 4)) from if_pos h]
    refine Ev.congr (f := fun _ => some (if val s.data.toList < 9223372036854775808 then (if most < (val s.data.toList : Int) then ((0 : Int), (4 : Int)) else ((val s.data.toList : Int), 0)) else (0, 4))) (fun k => ?_) (Ev.now _)
    rw [if_pos h, if_pos (by omega)]
    by_cases h3 : val s.data.toList < 9223372036854775808
    · rw [if_pos h3, if_pos h3]
      by_cases h4 : most < (val s.data.toList : Int)
      · simp [h4]
      · simp [h4]
    · rw [if_neg h3, if_neg h3]
      simp
  · rw [show numR s.data.toList most = (0, 7) from if_neg h]
    refine Ev.congr (f := fun _ => some (0, 7)) (fun k => ?_) (Ev.now _)
    rw [if_neg h]
theorem numR_of (s : ByteArray) (most : Int) (h : numT s.data.toList = false) : numR s.data.toList most = (0, 7) := by unfold numR; rw [if_neg (by rw [h]; decide)]
theorem refNumber_tells (s : ByteArray) (most : Int) (hs : s.size ≤ 4294967281) : Ev (fun k => haulierref06_Number.f k s most) (numR s.data.toList most) := by
  refine Ev.bind (f := fun k t => if t = true then (haulierref06_Number.l0 k s most 0 0) else (some ((0 : Int), (7 : Int)))) (text_tells s hs) ?_
  by_cases h : numT s.data.toList = true
  case neg =>
    rw [numR_of s most (by simpa using h)]
    exact Ev.congr (f := fun _ => some (0, 7)) (fun k => by rw [if_neg h]) (Ev.now _)
  refine Ev.congr (f := fun k => haulierref06_Number.l0 k s most 0 0) (fun k => by rw [if_pos h]) ?_
  have hall := numT_all h
  suffices H : ∀ (rest : List UInt8) (acc : Nat) (i : Int), rest.all isDig = true → 0 ≤ i → s.data.toList.drop i.toNat = rest → acc < 9223372036854775808 →
      Ev (fun k => haulierref06_Number.l0 k s most acc i) (if valA acc rest < 9223372036854775808 then (if most < (valA acc rest : Int) then (0, 4) else ((valA acc rest : Int), 0)) else (0, 4)) by
    unfold numR
    rw [if_pos h]
    exact H s.data.toList 0 0 hall (by omega) rfl (by omega)
  intro rest
  induction rest with
  | nil =>
    intro acc i _ h0 hd ha
    have he := drop_end h0 hd
    rw [valA_nil]
    refine Ev.step (f := fun _ => some (if acc < 9223372036854775808 then (if most < (acc : Int) then ((0 : Int), (4 : Int)) else ((acc : Int), 0)) else (0, 4))) (fun k => ?_) (Ev.now _)
    simp only [haulierref06_Number.l0]
    rw [if_neg (by omega), if_pos ha]
    by_cases h4 : most < (acc : Int)
    · rw [if_pos h4, if_pos h4]
    · rw [if_neg h4, if_neg h4]
  | cons c r ih =>
    intro acc i hd h0 hdr ha
    obtain ⟨hlt, hb, hnx, _⟩ := drop_at h0 hdr
    rw [List.all_cons, Bool.and_eq_true] at hd
    have hc := isDig_iff.1 hd.1
    have hge := valA_ge r (acc * 10 + (c.toNat - 48))
    have e1 : wrap64 (wrap64 (c.toNat : Int) - 48) = (c.toNat : Int) - 48 := by rw [wrp (n := (c.toNat : Int)) (by omega) (by omega)]; exact wrp (by omega) (by omega)
    have e2 : wrap64 (9223372036854775807 - ((c.toNat : Int) - 48)) = 9223372036854775807 - ((c.toNat : Int) - 48) := wrp (by omega) (by omega)
    have e3 : Int.tdiv (9223372036854775807 - ((c.toNat : Int) - 48)) 10 = (9223372036854775807 - ((c.toNat : Int) - 48)) / 10 := Int.tdiv_eq_ediv_of_nonneg (by omega)
    have e4 : wrap64 ((9223372036854775807 - ((c.toNat : Int) - 48)) / 10) = (9223372036854775807 - ((c.toNat : Int) - 48)) / 10 := wrp (by omega) (by omega)
    by_cases hm : (acc : Int) > (9223372036854775807 - ((c.toNat : Int) - 48)) / 10
    · rw [if_neg (show ¬ valA acc (c :: r) < 9223372036854775808 by rw [valA_cons]; omega)]
      refine Ev.step (f := fun _ => some (0, 4)) (fun k => ?_) (Ev.now _)
      simp only [haulierref06_Number.l0]
      rw [if_pos hlt, if_pos h0, hb, e1, e2, e3, e4, if_pos hm]
    · have e5 : wrap64 (10 * (acc : Int)) = 10 * (acc : Int) := wrp (by omega) (by omega)
      have e6 : wrap64 (10 * (acc : Int) + ((c.toNat : Int) - 48)) = ((acc * 10 + (c.toNat - 48) : Nat) : Int) := by rw [wrp (by omega) (by omega)]; omega
      refine Ev.step (f := fun k => haulierref06_Number.l0 k s most ((acc * 10 + (c.toNat - 48) : Nat) : Int) (i + 1)) (fun k => ?_) (by rw [valA_cons]; exact ih _ (i + 1) hd.2 (by omega) hnx (by omega))
      simp only [haulierref06_Number.l0]
      rw [if_pos hlt, if_pos h0, hb, e1, e2, e3, e4, if_neg hm, e5, e6, wrp (n := i + 1) (by omega) (by omega)]

/-! ### A number's text -/
theorem digits_len (j : Nat) : ∀ u : Nat, u < 10 ^ (j + 1) → (Lib.decDigits u).length ≤ j + 1 := by
  induction j with
  | zero => intro u h; rw [Lib.decDigits, dif_pos (by simpa using h)]; simp
  | succ j ih =>
    intro u h
    rw [Lib.decDigits]
    split
    · simp
    · have := ih (u / 10) (by rw [Nat.pow_succ] at h; omega)
      simp
      exact this
theorem digits_pos (u : Nat) : 1 ≤ (Lib.decDigits u).length := by
  rw [Lib.decDigits]
  split <;> simp
theorem itoa_len (n : Int) (h0 : -9223372036854775808 ≤ n) (h1 : n ≤ 9223372036854775807) : (Lib.itoa n).length ≤ 20 := by
  unfold Lib.itoa
  split
  · have := digits_len 18 n.natAbs (by omega)
    simp; omega
  · have := digits_len 18 n.toNat (by omega)
    omega
theorem Print_tells (n : Int) (h0 : -9223372036854775808 ≤ n) (h1 : n ≤ 9223372036854775807) : word_Print.f n = some (mk (Lib.itoa n)) := by
  unfold word_Print.f strconv_Itoa.f
  rw [if_pos ⟨h0, h1⟩]
  rfl
def dgN (d : Nat) : UInt8 := UInt8.ofNat (48 + d)
theorem digit_text (d : Nat) (h : d < 10) : strOfNums [(48 + (d : Int)) % 256] = mk [dgN d] := by
  have f1 : ((48 + (d : Int)) % 256).toNat = 48 + d := by omega
  simp only [strOfNums, List.map_cons, List.map_nil, f1]
  rfl
theorem tmod_neg (u : Nat) : Int.tmod (-(u : Int)) 10 = -((u % 10 : Nat) : Int) := by rw [Int.neg_tmod, Int.tmod_eq_emod_of_nonneg (by omega)]; omega
theorem tdiv_neg' (u : Nat) : Int.tdiv (-(u : Int)) 10 = -((u / 10 : Nat) : Int) := by rw [Int.neg_tdiv, Int.tdiv_eq_ediv_of_nonneg (by omega)]; omega
/-- One round: the last digit goes ahead. -/
theorem print_round (k : Nat) (n m : Int) (s : List UInt8) (i : Int) (u : Nat) (hm : m = u ∨ m = -(u : Int)) (hu : u ≤ 9223372036854775808) (hi0 : 0 ≤ i) (hi : i < 20) (hs : s.length ≤ 100) :
    haulierref06_Print.l0 (k + 1) n (mk s) m i =
      if u / 10 = 0 then some (mk (if n < 0 then 45 :: dgN (u % 10) :: s else dgN (u % 10) :: s)) else haulierref06_Print.l0 k n (mk (dgN (u % 10) :: s)) (if m < 0 then -((u / 10 : Nat) : Int) else ((u / 10 : Nat) : Int)) (i + 1) := by
  have hsz : (mk s).size = s.length := rfl
  have key : ∀ x : Int, (x = ((u % 10 : Nat) : Int)) → strOfNums [(wrap64 (48 + x)) % 256] = mk [dgN (u % 10)] := by
    intro x hx
    subst hx
    rw [wrp (by omega) (by omega)]
    exact digit_text _ (by omega)
  have happ : mk [dgN (u % 10)] ++ mk s = mk (dgN (u % 10) :: s) := append_mk _ _
  have hcat : (⟨#[45]⟩ : ByteArray) ++ mk (dgN (u % 10) :: s) = mk (45 :: dgN (u % 10) :: s) := append_mk [45] _
  have hdiv : wrap64 (Int.tdiv m 10) = if m < 0 then -((u / 10 : Nat) : Int) else ((u / 10 : Nat) : Int) := by
    by_cases hn : m < 0
    · have : m = -(u : Int) := by omega
      rw [if_pos hn, this, tdiv_neg']
      exact wrp (by omega) (by omega)
    · have : m = (u : Int) := by omega
      rw [if_neg hn, this, Int.tdiv_eq_ediv_of_nonneg (by omega)]
      exact wrp (by omega) (by omega)
  have hz : ((if m < 0 then -((u / 10 : Nat) : Int) else ((u / 10 : Nat) : Int)) = 0) ↔ u / 10 = 0 := by split <;> omega
  simp only [haulierref06_Print.l0]
  rw [if_pos hi, hdiv, wrp (n := i + 1) (by omega) (by omega)]
  have fin : ∀ x : Int, x = ((u % 10 : Nat) : Int) → ((some [(wrap64 (48 + x)) % 256] : Option (List Int)).bind fun y135 => (if (strOfNums y135).size + (mk s).size ≤ 9223372036854775807 then (if (if m < 0 then -((u / 10 : Nat) : Int) else ((u / 10 : Nat) : Int)) = 0 then (if n < 0 then (if 1 + ((strOfNums y135) ++ mk s).size ≤ 9223372036854775807 then (some ((⟨#[45]⟩ : ByteArray) ++ ((strOfNums y135) ++ mk s))) else (none)) else (some ((strOfNums y135) ++ mk s))) else (haulierref06_Print.l0 k n ((strOfNums y135) ++ mk s) (if m < 0 then -((u / 10 : Nat) : Int) else ((u / 10 : Nat) : Int)) (i + 1))) else (none))) =
      if u / 10 = 0 then some (mk (if n < 0 then 45 :: dgN (u % 10) :: s else dgN (u % 10) :: s)) else haulierref06_Print.l0 k n (mk (dgN (u % 10) :: s)) (if m < 0 then -((u / 10 : Nat) : Int) else ((u / 10 : Nat) : Int)) (i + 1) := by
    intro x hx
    simp only [Option.bind_some]
    rw [key x hx, happ, hcat, if_pos (by show 1 + s.length ≤ _; omega)]
    by_cases hz2 : u / 10 = 0
    · rw [if_pos (hz.2 hz2), if_pos hz2]
      by_cases hn : n < 0
      · rw [if_pos hn, if_pos hn, if_pos (by show 1 + (s.length + 1) ≤ _; omega)]
      · rw [if_neg hn, if_neg hn]
    · rw [if_neg (fun e => hz2 (hz.1 e)), if_neg hz2]
  by_cases hneg : Int.tmod m 10 < 0
  · have hm' : m = -(u : Int) := by
      rcases hm with e | e
      · rw [e, Int.tmod_eq_emod_of_nonneg (by omega)] at hneg; omega
      · exact e
    have ht : wrap64 (-(Int.tmod m 10)) = ((u % 10 : Nat) : Int) := by rw [hm', tmod_neg, wrp (by omega) (by omega)]; omega
    rw [if_pos hneg]
    exact fin _ ht
  · have ht : Int.tmod m 10 = ((u % 10 : Nat) : Int) := by
      rcases hm with e | e
      · rw [e, Int.tmod_eq_emod_of_nonneg (by omega)]; omega
      · rw [e, tmod_neg] at hneg ⊢; omega
    rw [if_neg hneg]
    exact fin _ ht
theorem print_loop (n : Int) (j : Nat) : ∀ (m i : Int) (u : Nat) (s : List UInt8), (m = u ∨ m = -(u : Int)) → u ≤ 9223372036854775808 → 0 ≤ i → i + j = 19 → u < 10 ^ (j + 1) → s.length ≤ i →
    Ev (fun k => haulierref06_Print.l0 k n (mk s) m i) (mk (if n < 0 then 45 :: (Lib.decDigits u ++ s) else Lib.decDigits u ++ s)) := by
  induction j with
  | zero =>
    intro m i u s hm hu h0 hj hlt hs
    have hu10 : u < 10 := by simpa using hlt
    refine Ev.step (f := fun _ => some (mk (if n < 0 then 45 :: (Lib.decDigits u ++ s) else Lib.decDigits u ++ s))) (fun k => ?_) (Ev.now _)
    rw [print_round k n m s i u hm hu h0 (by omega) (by omega), if_pos (by omega), Lib.decDigits, dif_pos hu10, Nat.mod_eq_of_lt hu10]
    rfl
  | succ j ih =>
    intro m i u s hm hu h0 hj hlt hs
    by_cases hu10 : u < 10
    · refine Ev.step (f := fun _ => some (mk (if n < 0 then 45 :: (Lib.decDigits u ++ s) else Lib.decDigits u ++ s))) (fun k => ?_) (Ev.now _)
      rw [print_round k n m s i u hm hu h0 (by omega) (by omega), if_pos (by omega), Lib.decDigits, dif_pos hu10, Nat.mod_eq_of_lt hu10]
      rfl
    · have hd : Lib.decDigits u = Lib.decDigits (u / 10) ++ [dgN (u % 10)] := by rw [Lib.decDigits, dif_neg hu10]; rfl
      have := ih (if m < 0 then -((u / 10 : Nat) : Int) else ((u / 10 : Nat) : Int)) (i + 1) (u / 10) (dgN (u % 10) :: s) (by split <;> omega) (by omega) (by omega) (by omega) (by rw [Nat.pow_succ] at hlt; omega) (by simp; omega)
      rw [hd, List.append_assoc]
      refine Ev.step (f := fun k => haulierref06_Print.l0 k n (mk (dgN (u % 10) :: s)) (if m < 0 then -((u / 10 : Nat) : Int) else ((u / 10 : Nat) : Int)) (i + 1)) (fun k => ?_) this
      rw [print_round k n m s i u hm hu h0 (by omega) (by omega), if_neg (by omega)]
theorem refPrint_tells (n : Int) (h0 : -9223372036854775808 ≤ n) (h1 : n ≤ 9223372036854775807) : Ev (fun k => haulierref06_Print.f k n) (mk (Lib.itoa n)) := by
  have H := print_loop n 19 n 0 n.natAbs [] (by omega) (by omega) (by omega) (by omega) (by omega) (by simp)
  have e : (if n < 0 then 45 :: (Lib.decDigits n.natAbs ++ []) else Lib.decDigits n.natAbs ++ []) = Lib.itoa n := by
    unfold Lib.itoa
    by_cases hn : n < 0
    · rw [if_pos hn, if_pos hn, List.append_nil]
    · rw [if_neg hn, if_neg hn, List.append_nil, show n.natAbs = n.toNat by omega]
  rw [e] at H
  exact H
def toldL (a b : Int) : List UInt8 := Lib.itoa a ++ 45 :: Lib.itoa b
def i64B (n : Int) : Prop := -9223372036854775808 ≤ n ∧ n ≤ 9223372036854775807
theorem told_cat (a b : Int) : mk (Lib.itoa a) ++ (⟨#[45]⟩ : ByteArray) ++ mk (Lib.itoa b) = mk (toldL a b) := by
  show mk (Lib.itoa a) ++ mk [45] ++ mk (Lib.itoa b) = _
  rw [append_mk, append_mk, List.append_assoc]
  rfl
theorem Told_tells (a b : Int) (ha : i64B a) (hb : i64B b) : word_Told.f a b = some (mk (toldL a b)) := by
  have la := itoa_len a ha.1 ha.2
  have lb := itoa_len b hb.1 hb.2
  unfold word_Told.f
  rw [Print_tells a ha.1 ha.2, Print_tells b hb.1 hb.2]
  simp only [Option.bind_some]
  rw [if_pos (by rw [size_mk]; omega), if_pos (by rw [ByteArray.size_append, size_mk, size_mk, show (⟨#[45]⟩ : ByteArray).size = 1 from rfl]; omega), told_cat]
theorem refTold_tells (a b : Int) (ha : i64B a) (hb : i64B b) : Ev (fun k => haulierref06_Told.f k a b) (mk (toldL a b)) := by
  have la := itoa_len a ha.1 ha.2
  have lb := itoa_len b hb.1 hb.2
  unfold haulierref06_Told.f
  refine Ev.bind (f := fun k t145 => if t145.size + 1 ≤ 9223372036854775807 then ((haulierref06_Print.f k b).bind fun t146 => (if (t145 ++ (⟨#[45]⟩ : ByteArray)).size + t146.size ≤ 9223372036854775807 then (some ((t145 ++ (⟨#[45]⟩ : ByteArray)) ++ t146)) else (none))) else (none)) (refPrint_tells a ha.1 ha.2) ?_
  refine Ev.congr (f := fun k => (haulierref06_Print.f k b).bind fun t146 => (if (mk (Lib.itoa a) ++ (⟨#[45]⟩ : ByteArray)).size + t146.size ≤ 9223372036854775807 then (some ((mk (Lib.itoa a) ++ (⟨#[45]⟩ : ByteArray)) ++ t146)) else (none))) (fun k => by rw [if_pos (by rw [size_mk]; omega)]) ?_
  refine Ev.bind (f := fun k t146 => (if (mk (Lib.itoa a) ++ (⟨#[45]⟩ : ByteArray)).size + t146.size ≤ 9223372036854775807 then (some ((mk (Lib.itoa a) ++ (⟨#[45]⟩ : ByteArray)) ++ t146)) else (none))) (refPrint_tells b hb.1 hb.2) ?_
  refine Ev.congr (f := fun _ => some (mk (toldL a b))) (fun k => ?_) (Ev.now _)
  rw [if_pos (by rw [ByteArray.size_append, size_mk, size_mk, show (⟨#[45]⟩ : ByteArray).size = 1 from rfl]; omega), told_cat]
theorem numR_err {l : List UInt8} {most : Int} (h : numT l = true) : (numR l most).2 = 0 ∨ numR l most = (0, 4) := by
  unfold numR
  rw [if_pos h]
  split
  · split
    · exact .inr rfl
    · exact .inl rfl
  · exact .inr rfl
/-- The span of two texts. -/
def spanP (p q : List UInt8) : Int × Int × Int :=
  if numT p = true ∧ numT q = true then
    (if (numR p 40320).2 = 0 then (if (numR q 40320).2 = 0 then (if (numR p 40320).1 ≥ (numR q 40320).1 then (0, 0, 3) else ((numR p 40320).1, (numR q 40320).1, 0)) else (0, 0, 4)) else (0, 0, 4))
  else (0, 0, 7)
def spanR (l : List UInt8) : Int × Int × Int := match splitL 45 l with
  | [p, q] => spanP p q
  | _ => (0, 0, 7)
theorem dash_no {l : List UInt8} (h : 45 ∈ l) : numT l = false := by
  unfold numT
  rw [Bool.and_eq_false_iff]
  left
  rw [List.all_eq_false]
  exact ⟨45, h, by decide⟩
theorem spanR_none {l : List UInt8} (h : 45 ∉ l) : spanR l = (0, 0, 7) := by unfold spanR; rw [splitL_none h]
theorem spanR_one {p q : List UInt8} (hp : 45 ∉ p) (hq : 45 ∉ q) : spanR (p ++ 45 :: q) = spanP p q := by unfold spanR; rw [splitL_hit q hp, splitL_none hq]
theorem spanR_two {p q : List UInt8} (hp : 45 ∉ p) (hq : 45 ∈ q) : spanR (p ++ 45 :: q) = (0, 0, 7) := by
  obtain ⟨a, b, rfl, ha⟩ := (cases_at q 45).resolve_left (fun h => h hq)
  unfold spanR
  rw [splitL_hit _ hp, splitL_hit _ ha]
  split
  · rename_i x y e
    injection e with e1 e2
    injection e2 with e3 e4
    exact absurd e4 (splitL_ne 45 b)
  · rfl
theorem wordSpan_parts (p q : List UInt8) (hp : p.length ≤ 4294967281) (hq : q.length ≤ 4294967281) :
    Ev (fun k => (word_decimal.f k (mk p)).bind fun t105 => (if t105 = true then ((word_decimal.f k (mk q)).bind fun t106 => (word_Span.j0 k (mk p) (mk q) (!t106))) else (word_Span.j0 k (mk p) (mk q) true))) (spanP p q) := by
  have j7 : Ev (fun k => word_Span.j0 k (mk p) (mk q) true) (0, 0, 7) := Ev.step (f := fun _ => some (0, 0, 7)) (fun k => by simp only [word_Span.j0]; rw [if_pos trivial]) (Ev.now _)
  refine Ev.bind (f := fun k t105 => (if t105 = true then ((word_decimal.f k (mk q)).bind fun t106 => (word_Span.j0 k (mk p) (mk q) (!t106))) else (word_Span.j0 k (mk p) (mk q) true))) (decimal_tells (mk p) hp) ?_
  rw [data_mk]
  unfold spanP
  by_cases h1 : numT p = true
  case neg =>
    rw [if_neg (fun h => h1 h.1)]
    exact Ev.congr (fun k => by rw [if_neg h1]) j7
  refine Ev.congr (f := fun k => (word_decimal.f k (mk q)).bind fun t106 => (word_Span.j0 k (mk p) (mk q) (!t106))) (fun k => by rw [if_pos h1]) ?_
  refine Ev.bind (f := fun k t106 => word_Span.j0 k (mk p) (mk q) (!t106)) (decimal_tells (mk q) hq) ?_
  rw [data_mk]
  by_cases h2 : numT q = true
  case neg =>
    rw [if_neg (fun h => h2 h.2)]
    exact Ev.congr (fun k => by rw [show (!numT q) = true by simpa using h2]) j7
  rw [if_pos ⟨h1, h2⟩, h2]
  have np := Number_tells (mk p) 40320 hp
  have nq := Number_tells (mk q) 40320 hq
  rw [data_mk] at np nq
  refine Ev.step (f := fun k => ((word_Number.f k (mk p) 40320).bind fun bt107 => (if bt107.2 = 0 then ((word_Number.f k (mk q) 40320).bind fun bt109 => (if bt109.2 = 0 then (if bt107.1 ≥ bt109.1 then (some (0, 0, 3)) else (some (bt107.1, bt109.1, 0))) else (some (0, 0, bt109.2)))) else (some (0, 0, bt107.2))))) (fun k => by simp only [word_Span.j0]; rw [if_neg (by decide)]) ?_
  refine Ev.bind (f := fun k bt107 => (if bt107.2 = 0 then ((word_Number.f k (mk q) 40320).bind fun bt109 => (if bt109.2 = 0 then (if bt107.1 ≥ bt109.1 then (some ((0 : Int), (0 : Int), (3 : Int))) else (some (bt107.1, bt109.1, 0))) else (some (0, 0, bt109.2)))) else (some (0, 0, bt107.2)))) np ?_
  by_cases e1 : (numR p 40320).2 = 0
  case neg =>
    rw [if_neg e1]
    have := (numR_err (most := 40320) h1).resolve_left e1
    exact Ev.congr (f := fun _ => some (0, 0, 4)) (fun k => by rw [if_neg e1, this]) (Ev.now _)
  rw [if_pos e1]
  refine Ev.congr (f := fun k => (word_Number.f k (mk q) 40320).bind fun bt109 => (if bt109.2 = 0 then (if (numR p 40320).1 ≥ bt109.1 then (some ((0 : Int), (0 : Int), (3 : Int))) else (some ((numR p 40320).1, bt109.1, 0))) else (some (0, 0, bt109.2)))) (fun k => by rw [if_pos e1]) ?_
  refine Ev.bind (f := fun k bt109 => (if bt109.2 = 0 then (if (numR p 40320).1 ≥ bt109.1 then (some ((0 : Int), (0 : Int), (3 : Int))) else (some ((numR p 40320).1, bt109.1, 0))) else (some (0, 0, bt109.2)))) nq ?_
  by_cases e2 : (numR q 40320).2 = 0
  case neg =>
    have := (numR_err (most := 40320) h2).resolve_left e2
    simp only [if_neg e2]
    rw [this]
    exact Ev.now _
  simp only [if_pos e2]
  refine Ev.congr (f := fun _ => some (if (numR p 40320).1 ≥ (numR q 40320).1 then (0, 0, 3) else ((numR p 40320).1, (numR q 40320).1, 0))) (fun k => ?_) (Ev.now _)
  by_cases h3 : (numR p 40320).1 ≥ (numR q 40320).1
  · rw [if_pos h3, if_pos h3]
  · rw [if_neg h3, if_neg h3]
theorem Span_tells (s : ByteArray) (hs : s.size ≤ 4294967280) : Ev (fun k => word_Span.f k s) (spanR s.data.toList) := by
  have hsz : s.size = s.data.toList.length := Lib.size_eq s
  unfold word_Span.f
  rcases cases_at s.data.toList 45 with h | ⟨p, q, e, hp⟩
  · rw [spanR_none h]
    have H := wordSpan_parts s.data.toList [] (by omega) (by simp)
    rw [show spanP s.data.toList [] = (0, 0, 7) from if_neg (fun h => by have := h.2; simp [numT, head48] at this)] at H
    exact Ev.congr (fun k => by rw [Cut_miss s 45 (by omega) h]; rfl) H
  · have hl : s.size = p.length + 1 + q.length := by rw [hsz, e]; simp; omega
    have H := wordSpan_parts p q (by omega) (by omega)
    have e2 : spanR s.data.toList = spanP p q := by
      rw [e]
      by_cases hq : 45 ∈ q
      · rw [spanR_two hp hq]
        unfold spanP
        rw [if_neg (fun h => by rw [dash_no hq] at h; exact absurd h.2 (by decide))]
      · exact spanR_one hp hq
    rw [e2]
    exact Ev.congr (fun k => by rw [Cut_hit s 45 p q (by omega) e hp]; rfl) H

/-! ### The document's span -/
theorem ref_end (p q : List UInt8) (hp : p.length ≤ 4294967280) (hq : q.length ≤ 4294967280) (i : Int) (hi : (p.length : Int) + 1 + q.length ≤ i) :
    Ev (fun k => haulierref06_Span.l0 k (mk (p ++ 45 :: q)) p.length i) (spanP p q) := by
  have hsz : ((mk (p ++ 45 :: q)).size : Int) = (p.length : Int) + 1 + q.length := by rw [size_mk]; simp; omega
  have x1 : (mk (p ++ 45 :: q)).extract 0 (p.length : Int).toNat = mk p := by rw [extract_mk]; simp
  have w1 : wrap64 ((p.length : Int) + 1) = (p.length : Int) + 1 := wrp (by omega) (by omega)
  have x2 : (mk (p ++ 45 :: q)).extract ((p.length : Int) + 1).toNat (mk (p ++ 45 :: q)).size = mk q := by
    rw [extract_mk, size_mk, show ((p.length : Int) + 1).toNat = p.length + 1 by omega]
    congr 1
    rw [List.take_of_length_le (by simp; omega)]
    simp
  have j7 : Ev (fun k => haulierref06_Span.j1 k (mk (p ++ 45 :: q)) p.length true) (0, 0, 7) := Ev.step (f := fun _ => some (0, 0, 7)) (fun k => by simp only [haulierref06_Span.j1]; rw [if_pos trivial]) (Ev.now _)
  refine Ev.step (f := fun k => ((haulierref06_Text.f k (mk p)).bind fun t128 => (if t128 = true then ((haulierref06_Text.f k (mk q)).bind fun t129 => (haulierref06_Span.j1 k (mk (p ++ 45 :: q)) p.length (!t129))) else (haulierref06_Span.j1 k (mk (p ++ 45 :: q)) p.length true)))) (fun k => ?_) ?_
  · simp only [haulierref06_Span.l0]
    rw [if_neg (by omega), if_neg (by omega), if_pos (by omega), if_pos (by omega), x1, w1, if_pos (show (0 : Int) ≤ (p.length : Int) + 1 by omega), if_pos (show (p.length : Int) + 1 ≤ ((mk (p ++ 45 :: q)).size : Int) by omega), x2]
  refine Ev.bind (f := fun k t128 => (if t128 = true then ((haulierref06_Text.f k (mk q)).bind fun t129 => (haulierref06_Span.j1 k (mk (p ++ 45 :: q)) p.length (!t129))) else (haulierref06_Span.j1 k (mk (p ++ 45 :: q)) p.length true))) (text_tells (mk p) (by rw [size_mk]; omega)) ?_
  rw [data_mk]
  unfold spanP
  by_cases h1 : numT p = true
  case neg =>
    rw [if_neg (fun h => h1 h.1)]
    exact Ev.congr (fun k => by rw [if_neg h1]) j7
  refine Ev.congr (f := fun k => (haulierref06_Text.f k (mk q)).bind fun t129 => (haulierref06_Span.j1 k (mk (p ++ 45 :: q)) p.length (!t129))) (fun k => by rw [if_pos h1]) ?_
  refine Ev.bind (f := fun k t129 => haulierref06_Span.j1 k (mk (p ++ 45 :: q)) p.length (!t129)) (text_tells (mk q) (by rw [size_mk]; omega)) ?_
  rw [data_mk]
  by_cases h2 : numT q = true
  case neg =>
    rw [if_neg (fun h => h2 h.2)]
    exact Ev.congr (fun k => by rw [show (!numT q) = true by simpa using h2]) j7
  rw [if_pos ⟨h1, h2⟩, h2]
  have np := refNumber_tells (mk p) 40320 (by rw [size_mk]; omega)
  have nq := refNumber_tells (mk q) 40320 (by rw [size_mk]; omega)
  rw [data_mk] at np nq
  refine Ev.step (f := fun k => ((haulierref06_Number.f k (mk p) 40320).bind fun bt130 => ((haulierref06_Number.f k (mk q) 40320).bind fun bt132 => (if bt130.2 = 0 then (haulierref06_Span.j2 k bt130.1 bt132.1 (bt132.2 != 0)) else (haulierref06_Span.j2 k bt130.1 bt132.1 true))))) (fun k => ?_) ?_
  · simp only [haulierref06_Span.j1]
    rw [if_neg (by decide), if_pos (by omega), if_pos (by omega), x1, w1]
    simp only [if_pos (show (0 : Int) ≤ (p.length : Int) + 1 by omega), if_pos (show (p.length : Int) + 1 ≤ ((mk (p ++ 45 :: q)).size : Int) by omega), x2]
  refine Ev.bind (f := fun k bt130 => ((haulierref06_Number.f k (mk q) 40320).bind fun bt132 => (if bt130.2 = 0 then (haulierref06_Span.j2 k bt130.1 bt132.1 (bt132.2 != 0)) else (haulierref06_Span.j2 k bt130.1 bt132.1 true)))) np ?_
  refine Ev.bind (f := fun k bt132 => (if (numR p 40320).2 = 0 then (haulierref06_Span.j2 k (numR p 40320).1 bt132.1 (bt132.2 != 0)) else (haulierref06_Span.j2 k (numR p 40320).1 bt132.1 true))) nq ?_
  have j4 : ∀ x y, Ev (fun k => haulierref06_Span.j2 k x y true) (0, 0, 4) := fun x y => Ev.step (f := fun _ => some (0, 0, 4)) (fun k => by simp only [haulierref06_Span.j2]; rw [if_pos trivial]) (Ev.now _)
  by_cases e1 : (numR p 40320).2 = 0
  case neg =>
    rw [if_neg e1]
    exact Ev.congr (fun k => by rw [if_neg e1]) (j4 _ _)
  rw [if_pos e1]
  by_cases e2 : (numR q 40320).2 = 0
  case neg =>
    rw [if_neg e2]
    exact Ev.congr (fun k => by rw [if_pos e1, show ((numR q 40320).2 != 0) = true by simpa using e2]) (j4 _ _)
  rw [if_pos e2]
  refine Ev.congr (f := fun k => haulierref06_Span.j2 k (numR p 40320).1 (numR q 40320).1 false) (fun k => by rw [if_pos e1, show ((numR q 40320).2 != 0) = false by simpa using e2]) ?_
  refine Ev.step (f := fun _ => some (if (numR p 40320).1 ≥ (numR q 40320).1 then (0, 0, 3) else ((numR p 40320).1, (numR q 40320).1, 0))) (fun k => ?_) (Ev.now _)
  simp only [haulierref06_Span.j2]
  rw [if_neg (by decide)]
  by_cases h3 : (numR p 40320).1 ≥ (numR q 40320).1
  · rw [if_pos h3, if_pos h3]
  · rw [if_neg h3, if_neg h3]
theorem mem_dash {c : UInt8} : ((c.toNat : Int) = 45) ↔ c = 45 := ⟨fun h => by
  have : c.toNat = 45 := by omega
  rw [← UInt8.ofNat_toNat (x := c), this]
  rfl, fun h => by rw [h]; rfl⟩
theorem ref_second (s : ByteArray) (hs : s.size ≤ 4294967280) (at_ : Int) (ha : 0 ≤ at_) : ∀ (rest : List UInt8) (i : Int), 0 ≤ i → s.data.toList.drop i.toNat = rest →
    (45 ∈ rest → Ev (fun k => haulierref06_Span.l0 k s at_ i) (0, 0, 7)) ∧ (45 ∉ rest → ∀ r : Int × Int × Int, (∀ j : Int, (s.size : Int) ≤ j → Ev (fun k => haulierref06_Span.l0 k s at_ j) r) → Ev (fun k => haulierref06_Span.l0 k s at_ i) r) := by
  intro rest
  induction rest with
  | nil =>
    intro i h0 h
    exact ⟨fun hm => absurd hm (by simp), fun _ r hr => hr i (drop_end h0 h)⟩
  | cons c r ih =>
    intro i h0 h
    obtain ⟨hlt, hb, hd, _⟩ := drop_at h0 h
    obtain ⟨i1, i2⟩ := ih (i + 1) (by omega) hd
    by_cases hc : c = 45
    · refine ⟨fun _ => Ev.step (f := fun _ => some (0, 0, 7)) (fun k => ?_) (Ev.now _), fun hm => absurd (by rw [hc]; exact List.mem_cons_self) hm⟩
      simp only [haulierref06_Span.l0]
      rw [if_pos hlt, if_pos h0, hb, if_pos (mem_dash.2 hc), if_pos ha]
    · have step : ∀ k, haulierref06_Span.l0 (k + 1) s at_ i = haulierref06_Span.l0 k s at_ (i + 1) := fun k => by
        simp only [haulierref06_Span.l0]
        rw [if_pos hlt, if_pos h0, hb, if_neg (fun e => hc (mem_dash.1 e)), wrp (n := i + 1) (by omega) (by omega)]
      refine ⟨fun hm => Ev.step step (i1 ?_), fun hm x hx => Ev.step step (i2 (fun e => hm (List.mem_cons_of_mem _ e)) x hx)⟩
      rcases List.mem_cons.1 hm with e | e
      · exact absurd e.symm hc
      · exact e
theorem refSpan_tells (s : ByteArray) (hs : s.size ≤ 4294967280) : Ev (fun k => haulierref06_Span.f k s) (spanR s.data.toList) := by
  have hsz : s.size = s.data.toList.length := Lib.size_eq s
  suffices H : ∀ (rest p : List UInt8) (i : Int), i = p.length → s.data.toList = p ++ rest → 45 ∉ p → Ev (fun k => haulierref06_Span.l0 k s (-1) i) (spanR s.data.toList) from H s.data.toList [] 0 rfl rfl (by simp)
  intro rest
  induction rest with
  | nil =>
    intro p i hi e hp
    have hd : s.data.toList.drop i.toNat = [] := by rw [e, hi]; simp
    have he := drop_end (by omega) hd
    rw [spanR_none (by rw [e]; simpa using hp)]
    refine Ev.step (f := fun k => haulierref06_Span.j1 k s (-1) true) (fun k => ?_) (Ev.step (f := fun _ => some (0, 0, 7)) (fun k => by simp only [haulierref06_Span.j1]; rw [if_pos trivial]) (Ev.now _))
    simp only [haulierref06_Span.l0]
    rw [if_neg (by omega), if_pos (by omega)]
  | cons c r ih =>
    intro p i hi e hp
    have hd0 : s.data.toList.drop i.toNat = c :: r := by rw [e, hi]; simp
    obtain ⟨hlt, hb, hd, _⟩ := drop_at (by omega) hd0
    by_cases hc : c = 45
    · subst hc
      obtain ⟨i1, i2⟩ := ref_second s hs i (by omega) r (i + 1) (by omega) hd
      refine Ev.step (f := fun k => haulierref06_Span.l0 k s i (i + 1)) (fun k => ?_) ?_
      · simp only [haulierref06_Span.l0]
        rw [if_pos hlt, if_pos (by omega), hb, if_pos (mem_dash.2 rfl), if_neg (by omega), wrp (n := i + 1) (by omega) (by omega)]
      · by_cases hr : 45 ∈ r
        · rw [e, spanR_two hp hr]
          exact i1 hr
        · rw [e, spanR_one hp hr]
          refine i2 hr _ (fun j hj => ?_)
          have hl : s.size = p.length + 1 + r.length := by rw [hsz, e]; simp; omega
          have := ref_end p r (by omega) (by omega) j (by omega)
          rw [← e, ← hi] at this
          exact this
    · have := ih (p ++ [c]) (i + 1) (by rw [hi]; simp) (by rw [e]; simp) (by simp only [List.mem_append, List.mem_singleton]; rintro (h | h); exact hp h; exact hc h.symm)
      refine Ev.step (f := fun k => haulierref06_Span.l0 k s (-1) (i + 1)) (fun k => ?_) this
      simp only [haulierref06_Span.l0]
      rw [if_pos hlt, if_pos (by omega), hb, if_neg (fun e => hc (mem_dash.1 e)), wrp (n := i + 1) (by omega) (by omega)]

/-! ### The law -/
theorem alive_span : Ev (fun k => word_Span.f k (⟨#[54, 48, 45, 57, 48]⟩ : ByteArray)) (60, 90, 0) := by
  have := Span_tells (⟨#[54, 48, 45, 57, 48]⟩ : ByteArray) (by decide)
  have e : spanR (⟨#[54, 48, 45, 57, 48]⟩ : ByteArray).data.toList = (60, 90, 0) := by decide +kernel
  rw [e] at this
  exact this
end Go.Proofs.YtaaiamfolbcchaaDoor.Pure

/- The plain law of WeekNames: a minute's name, and the minute of a name. -/
import Derived.Test.YtaaiamfolbcchaaDoorX07
import Derived.Test.YtaaiamfolbcchaaDoorPWeekA
import Derived.Test.YtaaiamfolbcchaaDoorPStr
namespace Go.Proofs.YtaaiamfolbcchaaDoor.Pure
set_option linter.unusedVariables false
set_option linter.unusedSimpArgs false
open Go.RowKit Go.Proofs.YtaaiamfolbcchaaDoor.X0 Go.Proofs.YtaaiamfolbcchaaDoor.Ext Go.Proofs.YtaaiamfolbcchaaDoorW.PrintWords Go.Proofs.YtaaiamfolbcchaaDoorW.PrintLast Go.Proofs.YtaaiamfolbcchaaDoorW.PrintMore

def dg (n : Int) : UInt8 := UInt8.ofNat (48 + n.toNat)
theorem dg_nat (n : Int) (h0 : 0 ≤ n) (h1 : n < 10) : ((dg n).toNat : Int) = 48 + n := by
  unfold dg
  rw [UInt8.toNat_ofNat']
  omega
theorem dg_inj {a b : Int} (h : dg a = dg b) (a0 : 0 ≤ a) (a1 : a < 10) (b0 : 0 ≤ b) (b1 : b < 10) : a = b := by
  have h1 := dg_nat a a0 a1
  have h2 := dg_nat b b0 b1
  rw [h] at h1
  omega
theorem dg_ne {n : Int} (h0 : 0 ≤ n) (h1 : n < 10) (c : UInt8) (hc : c.toNat < 48 ∨ 57 < c.toNat) : dg n ≠ c := fun e => by
  have := dg_nat n h0 h1
  rw [e] at this
  omega
/-- A day's three letters. -/
def day3 (i : Int) : UInt8 × UInt8 × UInt8 :=
  if i = 0 then (77, 111, 110) else if i = 1 then (84, 117, 101) else if i = 2 then (87, 101, 100) else if i = 3 then (84, 104, 117) else if i = 4 then (70, 114, 105) else if i = 5 then (83, 97, 116) else (83, 117, 110)
theorem seven (i : Int) (h0 : 0 ≤ i) (h1 : i < 7) : i = 0 ∨ i = 1 ∨ i = 2 ∨ i = 3 ∨ i = 4 ∨ i = 5 ∨ i = 6 := by omega
theorem day3_inj {i j : Int} (h : day3 i = day3 j) (i0 : 0 ≤ i) (i1 : i < 7) (j0 : 0 ≤ j) (j1 : j < 7) : i = j := by
  rcases seven i i0 i1 with rfl | rfl | rfl | rfl | rfl | rfl | rfl <;> rcases seven j j0 j1 with rfl | rfl | rfl | rfl | rfl | rfl | rfl <;> first | rfl | exact absurd h (by decide)
theorem day3_ne (i : Int) (i0 : 0 ≤ i) (i1 : i < 7) : (day3 i).1 ≠ 32 ∧ (day3 i).2.1 ≠ 32 ∧ (day3 i).2.2 ≠ 32 := by
  rcases seven i i0 i1 with rfl | rfl | rfl | rfl | rfl | rfl | rfl <;> decide
theorem rd_day (i : Int) (i0 : 0 ≤ i) (i1 : i < 7) : rdOf ByteArray.empty daysB i = mk [(day3 i).1, (day3 i).2.1, (day3 i).2.2] := by
  rcases seven i i0 i1 with rfl | rfl | rfl | rfl | rfl | rfl | rfl <;> rfl
def clock5 (m : Int) : List UInt8 := [dg (m / 60 % 24 / 10), dg (m / 60 % 24 % 10), 58, dg (m % 60 / 10), dg (m % 60 % 10)]
def nameL (m : Int) : List UInt8 := [dg (m / 10080 + 1)] ++ 32 :: ([(day3 (m / 1440 % 7)).1, (day3 (m / 1440 % 7)).2.1, (day3 (m / 1440 % 7)).2.2] ++ 32 :: clock5 m)
theorem nameOf_mk (m : Int) : nameOf m = mk (nameL m) := by
  unfold nameOf
  rw [rd_day _ (by omega) (by omega)]
  rfl
theorem nameL_inj {m n : Int} (h : nameL m = nameL n) (m0 : 0 ≤ m) (m1 : m ≤ 40320) (n0 : 0 ≤ n) (n1 : n ≤ 40320) : m = n := by
  simp only [nameL, clock5, List.cons_append, List.nil_append, List.cons.injEq, and_true, true_and] at h
  obtain ⟨h1, h2, h3, h4, h5, h6, h7, h8⟩ := h
  have e1 := dg_inj h1 (by omega) (by omega) (by omega) (by omega)
  have e2 := day3_inj (Prod.ext h2 (Prod.ext h3 h4)) (by omega) (by omega) (by omega) (by omega)
  have e3 := dg_inj h5 (by omega) (by omega) (by omega) (by omega)
  have e4 := dg_inj h6 (by omega) (by omega) (by omega) (by omega)
  have e5 := dg_inj h7 (by omega) (by omega) (by omega) (by omega)
  have e6 := dg_inj h8 (by omega) (by omega) (by omega) (by omega)
  omega
theorem name_no (k : Nat) (m : Int) (h : m < 0 ∨ 40320 < m) : week_Name.f (k + 1) m = some (⟨#[]⟩, 4) := by
  have hj : week_Name.j0 (k + 1) m true = some (⟨#[]⟩, 4) := by simp only [week_Name.j0]; rw [if_pos trivial]
  unfold week_Name.f
  by_cases c : m < 0
  · rw [if_pos c, hj]
  · rw [if_neg c, decide_eq_true (show m > 40320 by omega), hj]
theorem ref_name_no (k : Nat) (m : Int) (h : m < 0 ∨ 40320 < m) : haulierref04_Name.f (k + 1) m = some (⟨#[]⟩, 4) := by
  have hj : haulierref04_Name.j0 (k + 1) m true = some (⟨#[]⟩, 4) := by simp only [haulierref04_Name.j0]; rw [if_pos trivial]
  unfold haulierref04_Name.f
  by_cases c : m < 0
  · rw [if_pos c, hj]
  · rw [if_neg c, decide_eq_true (show m > 40320 by omega), hj]
theorem ref_two (n : Int) (h0 : 0 ≤ n) (h1 : n < 100) : haulierref04_two.f n = some (mk [dg (n / 10), dg (n % 10)]) := by
  unfold haulierref04_two.f
  have e1 : Int.tdiv n 10 = n / 10 := Int.tdiv_eq_ediv_of_nonneg h0
  have e2 : Int.tmod n 10 = n % 10 := Int.tmod_eq_emod_of_nonneg h0
  have e3 : Int.tmod (n / 10) 10 = n / 10 := by rw [Int.tmod_eq_emod_of_nonneg (by omega)]; omega
  rw [e1, e2, wrap_id (n := n / 10) (by omega) (by omega), e3, wrap_id (by omega) (by omega), wrap_id (by omega) (by omega)]
  have f1 : ((48 + n / 10) % 256).toNat = 48 + (n / 10).toNat := by omega
  have f2 : ((48 + n % 10) % 256).toNat = 48 + (n % 10).toNat := by omega
  simp only [strOfNums, List.map_cons, List.map_nil, f1, f2]
  rfl
theorem day_cut (i : Int) (i0 : 0 ≤ i) (i1 : i < 7) : (⟨#[77, 111, 110, 84, 117, 101, 87, 101, 100, 84, 104, 117, 70, 114, 105, 83, 97, 116, 83, 117, 110]⟩ : ByteArray).extract (3 * i).toNat (3 * i + 3).toNat = mk [(day3 i).1, (day3 i).2.1, (day3 i).2.2] := by
  rcases seven i i0 i1 with rfl | rfl | rfl | rfl | rfl | rfl | rfl <;> rfl
theorem ref_name_yes (k : Nat) (m : Int) (h0 : 0 ≤ m) (h1 : m ≤ 40320) : haulierref04_Name.f (k + 1) m = some (mk (nameL m), 0) := by
  unfold haulierref04_Name.f
  rw [if_neg (by omega)]
  simp only [haulierref04_Name.j0]
  rw [if_neg (by simp; omega)]
  have e2 : Int.tdiv m 1440 = m / 1440 := Int.tdiv_eq_ediv_of_nonneg h0
  have e3 : Int.tdiv m 60 = m / 60 := Int.tdiv_eq_ediv_of_nonneg h0
  have e4 : Int.tmod m 60 = m % 60 := Int.tmod_eq_emod_of_nonneg h0
  have w2 : wrap64 (m / 1440) = m / 1440 := wrap_id (by omega) (by omega)
  have w3 : wrap64 (m / 60) = m / 60 := wrap_id (by omega) (by omega)
  have e5 : Int.tmod (m / 1440) 7 = m / 1440 % 7 := Int.tmod_eq_emod_of_nonneg (by omega)
  have e6 : Int.tmod (m / 60) 24 = m / 60 % 24 := Int.tmod_eq_emod_of_nonneg (by omega)
  have e7 : Int.tdiv (m / 1440) 7 = m / 1440 / 7 := Int.tdiv_eq_ediv_of_nonneg (by omega)
  have w5 : wrap64 (3 * (m / 1440 % 7)) = 3 * (m / 1440 % 7) := wrap_id (by omega) (by omega)
  have w6 : wrap64 (3 * (m / 1440 % 7) + 3) = 3 * (m / 1440 % 7) + 3 := wrap_id (by omega) (by omega)
  have w7 : wrap64 (m / 1440 / 7) = m / 1440 / 7 := wrap_id (by omega) (by omega)
  have w8 : wrap64 (49 + m / 1440 / 7) = 49 + m / 1440 / 7 := wrap_id (by omega) (by omega)
  have hw : strOfNums [(49 + m / 1440 / 7) % 256] = mk [dg (m / 10080 + 1)] := by
    have f1 : ((49 + m / 1440 / 7) % 256).toNat = 48 + (m / 10080 + 1).toNat := by omega
    simp only [strOfNums, List.map_cons, List.map_nil, f1]
    rfl
  rw [e2, e3, e4, w2, w3, e5, e6, e7, w5, w6, w7, w8, day_cut _ (by omega) (by omega), ref_two _ (by omega) (by omega), ref_two _ (by omega) (by omega)]
  simp only [Option.bind_some]
  rw [hw]
  simp only [append_mk, show (⟨#[32]⟩ : ByteArray) = mk [32] from rfl, show (⟨#[58]⟩ : ByteArray) = mk [58] from rfl, size_mk, List.length_append, List.length_cons, List.length_nil]
  rw [if_pos (by omega), if_pos (by omega), if_pos (by omega), if_pos (by omega), if_pos (by omega), if_pos (by omega), if_pos (by omega), if_pos (by omega), if_pos (by omega)]
  rfl

/-- The digits of a text: always told; two of them: their number. -/
theorem digits_any (s : ByteArray) (hs : s.size ≤ 4294967281) (d : Nat) : ∀ (acc i : Int), 0 ≤ i → (s.size : Int) - i = d → ∃ r, Ev (fun k => week_digits.l0 k s acc s.size i) r ∧ (r.2 = true → s.size = 2) := by
  induction d with
  | zero =>
    intro acc i h0 h1
    refine ⟨(acc, ((s.size : Int) == 2)), Ev.step (f := fun _ => some (acc, ((s.size : Int) == 2))) (fun k => ?_) (Ev.now _), fun h => ?_⟩
    · simp only [week_digits.l0]
      rw [if_neg (by omega)]
    · have := eq_of_beq h
      omega
  | succ d ih =>
    intro acc i h0 h1
    by_cases c1 : bt s i < 48
    · refine ⟨(0, false), Ev.step (f := fun _ => some (0, false)) (fun k => ?_) (Ev.now _), fun h => by cases h⟩
      simp only [week_digits.l0]
      rw [if_pos (by omega), if_pos h0, if_pos (by omega), if_pos c1]
    · by_cases c2 : bt s i > 57
      · refine ⟨(0, false), Ev.step (f := fun _ => some (0, false)) (fun k => ?_) (Ev.now _), fun h => by cases h⟩
        simp only [week_digits.l0]
        rw [if_pos (by omega), if_pos h0, if_pos (by omega), if_neg c1, if_pos c2]
      · obtain ⟨r, hr, hb⟩ := ih (wrap64 (wrap64 (10 * acc) + (bt s i - 48) % 256)) (i + 1) (by omega) (by omega)
        refine ⟨r, Ev.step (f := fun k => week_digits.l0 k s (wrap64 (wrap64 (10 * acc) + (bt s i - 48) % 256)) s.size (i + 1)) (fun k => ?_) hr, hb⟩
        simp only [week_digits.l0]
        rw [if_pos (by omega), if_pos h0, if_pos (by omega), if_neg c1, if_neg c2, wrap_id (n := i + 1) (by omega) (by omega)]
theorem digits_two (a b : UInt8) : ∃ r, Ev (fun k => week_digits.f k (mk [a, b])) r ∧ (r.2 = true → r.1 = 10 * ((a.toNat : Int) - 48) + ((b.toNat : Int) - 48) ∧ 0 ≤ r.1 ∧ r.1 ≤ 99) ∧ (48 ≤ a.toNat ∧ a.toNat ≤ 57 ∧ 48 ≤ b.toNat ∧ b.toNat ≤ 57 → r.2 = true) := by
  have b0 : bt (mk [a, b]) 0 = a.toNat := rfl
  have b1 : bt (mk [a, b]) 1 = b.toNat := rfl
  have hsz : ((mk [a, b]).size : Int) = 2 := rfl
  by_cases c1 : (a.toNat : Int) < 48 ∨ (a.toNat : Int) > 57
  · refine ⟨(0, false), Ev.step (f := fun _ => some (0, false)) (fun k => ?_) (Ev.now _), (fun h => by cases h), (fun h => by omega)⟩
    show week_digits.l0 (k + 1) (mk [a, b]) 0 _ 0 = _
    simp only [week_digits.l0]
    rw [hsz, b0, if_pos (by omega), if_pos (by omega), if_pos (by omega)]
    rcases c1 with c | c
    · rw [if_pos c]
    · rw [if_neg (by omega), if_pos c]
  · have w1 : wrap64 (wrap64 (10 * 0) + ((a.toNat : Int) - 48) % 256) = (a.toNat : Int) - 48 := by
      rw [wrap_id (n := 10 * 0) (by omega) (by omega), Int.emod_eq_of_lt (by omega) (by omega), wrap_id (by omega) (by omega)]
      omega
    by_cases c2 : (b.toNat : Int) < 48 ∨ (b.toNat : Int) > 57
    · refine ⟨(0, false), Ev.step (f := fun k => week_digits.l0 k (mk [a, b]) ((a.toNat : Int) - 48) 2 1) (fun k => ?_) (Ev.step (f := fun _ => some (0, false)) (fun k => ?_) (Ev.now _)), (fun h => by cases h), (fun h => by omega)⟩
      · show week_digits.l0 (k + 1) (mk [a, b]) 0 _ 0 = _
        simp only [week_digits.l0]
        rw [hsz, b0, if_pos (by omega), if_pos (by omega), if_pos (by omega), if_neg (by omega), if_neg (by omega), w1, wrap_id (n := 0 + 1) (by omega) (by omega)]
        rfl
      · simp only [week_digits.l0]
        rw [hsz, b1, if_pos (by omega), if_pos (by omega), if_pos (by omega)]
        rcases c2 with c | c
        · rw [if_pos c]
        · rw [if_neg (by omega), if_pos c]
    · have w2 : wrap64 (wrap64 (10 * ((a.toNat : Int) - 48)) + ((b.toNat : Int) - 48) % 256) = 10 * ((a.toNat : Int) - 48) + ((b.toNat : Int) - 48) := by
        rw [wrap_id (n := 10 * ((a.toNat : Int) - 48)) (by omega) (by omega), Int.emod_eq_of_lt (by omega) (by omega), wrap_id (by omega) (by omega)]
      refine ⟨(10 * ((a.toNat : Int) - 48) + ((b.toNat : Int) - 48), true), Ev.step (f := fun k => week_digits.l0 k (mk [a, b]) ((a.toNat : Int) - 48) 2 1) (fun k => ?_) (Ev.step (f := fun k => week_digits.l0 k (mk [a, b]) (10 * ((a.toNat : Int) - 48) + ((b.toNat : Int) - 48)) 2 2) (fun k => ?_) (Ev.step (f := fun _ => some (10 * ((a.toNat : Int) - 48) + ((b.toNat : Int) - 48), true)) (fun k => ?_) (Ev.now _))), fun _ => ⟨rfl, by simp only; omega, by simp only; omega⟩, fun _ => rfl⟩
      · show week_digits.l0 (k + 1) (mk [a, b]) 0 _ 0 = _
        simp only [week_digits.l0]
        rw [hsz, b0, if_pos (by omega), if_pos (by omega), if_pos (by omega), if_neg (by omega), if_neg (by omega), w1, wrap_id (n := 0 + 1) (by omega) (by omega)]
        rfl
      · simp only [week_digits.l0]
        rw [hsz, b1, if_pos (by omega), if_pos (by omega), if_pos (by omega), if_neg (by omega), if_neg (by omega), w2, wrap_id (n := 1 + 1) (by omega) (by omega)]
        rfl
      · simp only [week_digits.l0]
        rw [if_neg (by omega), hsz]
        rfl
theorem digits_tell (s : ByteArray) (hs : s.size ≤ 4294967281) : ∃ r, Ev (fun k => week_digits.f k s) r ∧ (r.2 = true → 0 ≤ r.1 ∧ r.1 ≤ 99) := by
  by_cases h : s.size = 2
  · obtain ⟨a, b, e⟩ : ∃ a b, s.data.toList = [a, b] := by
      rw [Lib.size_eq] at h
      match hd : s.data.toList, h with
      | [a, b], _ => exact ⟨a, b, rfl⟩
    obtain ⟨r, h1, h2, _⟩ := digits_two a b
    rw [← e, mk_data] at h1
    exact ⟨r, h1, fun h => ⟨(h2 h).2.1, (h2 h).2.2⟩⟩
  · obtain ⟨r, h1, h2⟩ := digits_any s hs s.size 0 0 (by omega) (by omega)
    exact ⟨r, h1, fun hb => absurd (h2 hb) h⟩
theorem parse_loop (s : ByteArray) (d : Nat) : ∀ n : Int, 0 ≤ n → 41760 - n ≤ d * 1440 → ∃ r, Ev (fun k => week_Parse.l0 k s n) r ∧
    ((r = (0, 7) ∧ ∀ j : Nat, n + 1440 * j ≤ 40320 → mk (nameL (n + 1440 * j)) ≠ s) ∨ (∃ j : Nat, r = (n + 1440 * j, 0) ∧ n + 1440 * j ≤ 40320 ∧ mk (nameL (n + 1440 * j)) = s)) := by
  have hend : ∀ n : Int, 40320 < n → ∃ r, Ev (fun k => week_Parse.l0 k s n) r ∧ ((r = (0, 7) ∧ ∀ j : Nat, n + 1440 * j ≤ 40320 → mk (nameL (n + 1440 * j)) ≠ s) ∨ (∃ j : Nat, r = (n + 1440 * j, 0) ∧ n + 1440 * j ≤ 40320 ∧ mk (nameL (n + 1440 * j)) = s)) := fun n hn =>
    ⟨(0, 7), Ev.step (f := fun _ => some (0, 7)) (fun k => by simp only [week_Parse.l0]; rw [if_neg (by omega)]) (Ev.now _), .inl ⟨rfl, fun j hj => by omega⟩⟩
  induction d with
  | zero => exact fun n h0 h1 => hend n (by omega)
  | succ d ih =>
    intro n h0 h1
    by_cases c : n ≤ 40320
    case neg => exact hend n (by omega)
    have hname : Ev (fun k => week_Name.f k n) (mk (nameL n), 0) := Ev.step (f := fun _ => some (mk (nameL n), 0)) (fun k => by rw [name_yes k n h0 c, nameOf_mk]) (Ev.now _)
    have hw : wrap64 (n + 1440) = n + 1440 := wrap_id (by omega) (by omega)
    have hstep : ∀ k, week_Parse.l0 (k + 1) s n = (week_Name.f k n).bind fun bt => (if bt.2 = 0 then (if bt.1.toList = s.toList then (some (n, 0)) else (week_Parse.l0 k s (n + 1440))) else (week_Parse.l0 k s (n + 1440))) := fun k => by
      simp only [week_Parse.l0]
      rw [if_pos c, hw]
    by_cases e : mk (nameL n) = s
    · exact ⟨(n, 0), Ev.step hstep (Ev.bind hname (Ev.congr (f := fun _ => some (n, 0)) (fun k => by rw [if_pos rfl, if_pos (by rw [e])]) (Ev.now _))), .inr ⟨0, by simp, by simpa using c, by simpa using e⟩⟩
    · obtain ⟨r, hr, hc⟩ := ih (n + 1440) (by omega) (by omega)
      have hne : ¬ (mk (nameL n)).toList = s.toList := fun h => e (by rw [toList_mk, Lib.toList_data] at h; rw [h]; rfl)
      refine ⟨r, Ev.step hstep (Ev.bind hname (Ev.congr (f := fun k => week_Parse.l0 k s (n + 1440)) (fun k => by rw [if_pos rfl, if_neg hne]) hr)), ?_⟩
      rcases hc with ⟨h1, h2⟩ | ⟨j, h1, h2, h3⟩
      · refine .inl ⟨h1, fun j hj => ?_⟩
        cases j with
        | zero => simpa using e
        | succ j =>
          have := h2 j (by omega)
          rw [show n + 1440 * ((j + 1 : Nat) : Int) = n + 1440 + 1440 * (j : Int) by omega]
          exact this
      · refine .inr ⟨j + 1, ?_, by omega, ?_⟩
        · rw [show n + 1440 * ((j + 1 : Nat) : Int) = n + 1440 + 1440 * (j : Int) by omega]; exact h1
        · rw [show n + 1440 * ((j + 1 : Nat) : Int) = n + 1440 + 1440 * (j : Int) by omega]; exact h3
/-- A text that is a minute's name. -/
def Named (s : ByteArray) (m : Int) : Prop := 0 ≤ m ∧ m ≤ 40320 ∧ mk (nameL m) = s
theorem Named.one {s : ByteArray} {m n : Int} (h : Named s m) (k : Named s n) : m = n :=
  nameL_inj (mk_inj (h.2.2.trans k.2.2.symm)) h.1 h.2.1 k.1 k.2.1
theorem fin_of (s : ByteArray) (n : Int) (h0 : 0 ≤ n) (h1 : n ≤ 100000) : ∃ r, Ev (fun k => week_Parse.l0 k s n) r ∧ ((r = (0, 7) ∧ ∀ j : Nat, n + 1440 * j ≤ 40320 → mk (nameL (n + 1440 * j)) ≠ s) ∨ (∃ m, r = (m, 0) ∧ Named s m)) := by
  obtain ⟨r, hr, hc⟩ := parse_loop s 29 n h0 (by omega)
  refine ⟨r, hr, ?_⟩
  rcases hc with h | ⟨j, h1, h2, h3⟩
  · exact .inl h
  · exact .inr ⟨_, h1, by omega, h2, h3⟩
theorem splitL_len (c : UInt8) : ∀ (l : List UInt8) (x : List UInt8), x ∈ splitL c l → x.length ≤ l.length
  | [], x, h => by
    have : x = [] := by simpa [splitL] using h
    rw [this]; simp
  | b :: r, x, h => by
    unfold splitL at h
    split at h
    · rcases List.mem_cons.1 h with rfl | h
      · simp
      · have := splitL_len c r x h
        simp; omega
    · split at h
      · rcases List.mem_cons.1 h with rfl | h
        · simp
        · cases h
      · rename_i y z e
        rcases List.mem_cons.1 h with rfl | h
        · have := splitL_len c r y (by rw [e]; exact List.mem_cons_self)
          simp; omega
        · have := splitL_len c r x (by rw [e]; exact List.mem_cons_of_mem _ h)
          simp; omega
theorem cut_some (s : ByteArray) (c : UInt8) (n : Nat) (hs : s.size ≤ n) (hn : n < 4294967281) : ∃ p q b, strings_Cut.f s ⟨#[c]⟩ = some (p, q, b) ∧ p.size ≤ n ∧ q.size ≤ n := by
  rcases cases_at s.data.toList c with h | ⟨p, q, e, hp⟩
  · exact ⟨s, mk [], false, Cut_miss s c (by omega) h, hs, by rw [size_mk]; simp⟩
  · have hl : s.size = p.length + 1 + q.length := by rw [Lib.size_eq, e]; simp; omega
    exact ⟨mk p, mk q, true, Cut_hit s c p q (by omega) e hp, by rw [size_mk]; omega, by rw [size_mk]; omega⟩
theorem j0_bad (s : ByteArray) (h m : Int) : Ev (fun k => week_Parse.j0 k s h m true) (0, 7) :=
  Ev.step (f := fun _ => some (0, 7)) (fun k => by simp only [week_Parse.j0]; rw [if_pos trivial]) (Ev.now _)
theorem j0_good (s : ByteArray) (h m : Int) (r : Int × Int) (h0 : 0 ≤ h) (h1 : h ≤ 99) (m0 : 0 ≤ m) (m1 : m ≤ 99) (hr : Ev (fun k => week_Parse.l0 k s (60 * h + m)) r) : Ev (fun k => week_Parse.j0 k s h m false) r :=
  Ev.step (f := fun k => week_Parse.l0 k s (60 * h + m)) (fun k => by
    simp only [week_Parse.j0]
    rw [if_neg (by simp), wrap_id (n := 60 * h) (by omega) (by omega), wrap_id (by omega) (by omega)]) hr
/-- What is parsed, by the program: a minute's name gives the minute; what is none gives none. -/
theorem parse_no (s : ByteArray) (hs : s.size ≤ 40) : ∃ r, Ev (fun k => week_Parse.f k s) r ∧ (r = (0, 7) ∨ ∃ m, r = (m, 0) ∧ Named s m) := by
  unfold week_Parse.f
  simp only [Split_tells s 32 (by omega), Option.bind_some]
  have hlen := splitL_len 32 s.data.toList
  generalize hl : splitL 32 s.data.toList = l at hlen
  by_cases c : ((l.map mk).length : Int) = 3
  case neg => exact ⟨(0, 7), Ev.congr (f := fun _ => some (0, 7)) (fun k => by rw [if_neg c]) (Ev.now _), .inl rfl⟩
  obtain ⟨x0, x1, x2, rfl⟩ : ∃ x0 x1 x2, l = [x0, x1, x2] := by
    rw [List.length_map] at c
    match l, c with
    | [a, b, d], _ => exact ⟨a, b, d, rfl⟩
    | [], h => simp at h
    | [_], h => simp at h
    | [_, _], h => simp at h
    | _ :: _ :: _ :: _ :: _, h => simp at h; omega
  have hx : (mk x2).size ≤ 40 := by
    have := hlen x2 (by simp)
    rw [← Lib.size_eq] at this
    rw [size_mk]; omega
  have hrd : rdOf ByteArray.empty (List.map mk [x0, x1, x2]) 2 = mk x2 := rfl
  obtain ⟨p, q, b, hc, hp, hq⟩ := cut_some (mk x2) 58 40 hx (by omega)
  obtain ⟨r1, e1, g1⟩ := digits_tell p (by omega)
  obtain ⟨r2, e2, g2⟩ := digits_tell q (by omega)
  have main : ∃ r, Ev (fun k => if r1.2 = true then week_Parse.j0 k s r1.1 r2.1 (!r2.2) else week_Parse.j0 k s r1.1 r2.1 true) r ∧ (r = (0, 7) ∨ ∃ m, r = (m, 0) ∧ Named s m) := by
    by_cases c1 : r1.2 = true
    · simp only [if_pos c1]
      cases c2 : r2.2 with
      | false => exact ⟨_, j0_bad s _ _, .inl rfl⟩
      | true =>
        obtain ⟨r, hr, hc⟩ := fin_of s (60 * r1.1 + r2.1) (by have := g1 c1; have := g2 c2; omega) (by have := g1 c1; have := g2 c2; omega)
        refine ⟨r, j0_good s _ _ r (g1 c1).1 (g1 c1).2 (g2 c2).1 (g2 c2).2 hr, ?_⟩
        rcases hc with ⟨h, _⟩ | h
        · exact .inl h
        · exact .inr h
    · simp only [if_neg c1]
      exact ⟨_, j0_bad s _ _, .inl rfl⟩
  obtain ⟨r, hr, hcase⟩ := main
  refine ⟨r, Ev.congr (f := fun k => (week_digits.f k p).bind fun a => (week_digits.f k q).bind fun b => if a.2 = true then week_Parse.j0 k s a.1 b.1 (!b.2) else week_Parse.j0 k s a.1 b.1 true) (fun k => ?_) (Ev.bind e1 (Ev.bind e2 hr)), hcase⟩
  rw [if_pos c, if_pos (by rw [c]; omega), hrd, hc]
  rfl
theorem dg_clock (x : Int) (h0 : 0 ≤ x) (h1 : x < 100) : ∃ r, Ev (fun k => week_digits.f k (mk [dg (x / 10), dg (x % 10)])) r ∧ r.2 = true ∧ r.1 = x := by
  have n1 := dg_nat (x / 10) (by omega) (by omega)
  have n2 := dg_nat (x % 10) (by omega) (by omega)
  obtain ⟨r, hr, ha, hb⟩ := digits_two (dg (x / 10)) (dg (x % 10))
  have hb' := hb (by omega)
  refine ⟨r, hr, hb', ?_⟩
  have := (ha hb').1
  omega
theorem parse_yes (s : ByteArray) (m : Int) (h : Named s m) : Ev (fun k => week_Parse.f k s) (m, 0) := by
  obtain ⟨m0, m1, rfl⟩ := h
  have hd := day3_ne (m / 1440 % 7) (by omega) (by omega)
  have hw := dg_ne (n := m / 10080 + 1) (by omega) (by omega) 32 (by decide)
  have k1 := dg_ne (n := m / 60 % 24 / 10) (by omega) (by omega) 32 (by decide)
  have k2 := dg_ne (n := m / 60 % 24 % 10) (by omega) (by omega) 32 (by decide)
  have k3 := dg_ne (n := m % 60 / 10) (by omega) (by omega) 32 (by decide)
  have k4 := dg_ne (n := m % 60 % 10) (by omega) (by omega) 32 (by decide)
  have j1 := dg_ne (n := m / 60 % 24 / 10) (by omega) (by omega) 58 (by decide)
  have j2 := dg_ne (n := m / 60 % 24 % 10) (by omega) (by omega) 58 (by decide)
  have hs : (mk (nameL m)).size = 11 := rfl
  have hsp : splitL 32 (mk (nameL m)).data.toList = [[dg (m / 10080 + 1)], [(day3 (m / 1440 % 7)).1, (day3 (m / 1440 % 7)).2.1, (day3 (m / 1440 % 7)).2.2], clock5 m] := by
    rw [data_mk]
    unfold nameL
    rw [splitL_hit _ (by simpa using hw.symm), splitL_hit _ (by simp only [List.mem_cons, List.not_mem_nil, or_false, not_or]; exact ⟨hd.1.symm, hd.2.1.symm, hd.2.2.symm⟩), splitL_none]
    unfold clock5
    simp only [List.mem_cons, List.not_mem_nil, or_false, not_or]
    exact ⟨k1.symm, k2.symm, by decide, k3.symm, k4.symm⟩
  have hcut : strings_Cut.f (mk (clock5 m)) ⟨#[58]⟩ = some (mk [dg (m / 60 % 24 / 10), dg (m / 60 % 24 % 10)], mk [dg (m % 60 / 10), dg (m % 60 % 10)], true) :=
    Cut_hit _ 58 [dg (m / 60 % 24 / 10), dg (m / 60 % 24 % 10)] [dg (m % 60 / 10), dg (m % 60 % 10)] (by rw [size_mk]; simp [clock5]) rfl (by simp only [List.mem_cons, List.not_mem_nil, or_false, not_or]; exact ⟨j1.symm, j2.symm⟩)
  obtain ⟨r1, e1, b1, v1⟩ := dg_clock (m / 60 % 24) (by omega) (by omega)
  obtain ⟨r2, e2, b2, v2⟩ := dg_clock (m % 60) (by omega) (by omega)
  obtain ⟨r, hr, hc⟩ := fin_of (mk (nameL m)) (60 * r1.1 + r2.1) (by omega) (by omega)
  have hrm : r = (m, 0) := by
    rcases hc with ⟨_, h⟩ | ⟨m', h, hN⟩
    · exfalso
      have e : 60 * r1.1 + r2.1 + 1440 * ((m / 1440).toNat : Int) = m := by rw [v1, v2]; omega
      have := h (m / 1440).toNat (by omega)
      rw [e] at this
      exact this rfl
    · rw [h, hN.one ⟨m0, m1, rfl⟩]
  rw [hrm] at hr
  unfold week_Parse.f
  simp only [Split_tells (mk (nameL m)) 32 (by omega), Option.bind_some, hsp]
  refine Ev.congr (f := fun k => (week_digits.f k (mk [dg (m / 60 % 24 / 10), dg (m / 60 % 24 % 10)])).bind fun a => (week_digits.f k (mk [dg (m % 60 / 10), dg (m % 60 % 10)])).bind fun b => if a.2 = true then week_Parse.j0 k (mk (nameL m)) a.1 b.1 (!b.2) else week_Parse.j0 k (mk (nameL m)) a.1 b.1 true) (fun k => ?_) (Ev.bind e1 (Ev.bind e2 ?_))
  · rw [if_pos (by rfl), if_pos (by simp), show rdOf ByteArray.empty _ 2 = mk (clock5 m) from rfl, hcut]
    rfl
  · simp only [b1, b2, if_true, Bool.not_true]
    exact j0_good _ _ _ _ (by omega) (by omega) (by omega) (by omega) hr

/-- What the document parses: day by day. -/
def dayM (s : ByteArray) (d : Int) : Int := 1440 * d + 60 * (10 * bt s 6 + bt s 7 - 528) + 10 * bt s 9 + bt s 10 - 528
theorem bt_bds (s : ByteArray) (i : Int) : 0 ≤ bt s i ∧ bt s i ≤ 255 := by
  unfold bt
  split
  · rename_i h
    have := (s[i.toNat]'h).toNat_lt
    omega
  · omega
theorem ref_loop (s : ByteArray) (hs : s.size = 11) (n : Nat) : ∀ d : Int, 0 ≤ d → 29 - d = n → ∃ r, Ev (fun k => haulierref04_Parse.l0 k s d) r ∧ ((r = (0, 7) ∧ ∀ e, d ≤ e → e ≤ 28 → ¬ Named s (dayM s e)) ∨ ∃ m, r = (m, 0) ∧ Named s m) := by
  induction n with
  | zero =>
    intro d h0 h1
    exact ⟨(0, 7), Ev.step (f := fun _ => some (0, 7)) (fun k => by simp only [haulierref04_Parse.l0]; rw [if_neg (by omega)]) (Ev.now _), .inl ⟨rfl, fun e _ _ => by omega⟩⟩
  | succ n ih =>
    intro d h0 h1
    have g6 := bt_bds s 6
    have g7 := bt_bds s 7
    have g9 := bt_bds s 9
    have ga := bt_bds s 10
    have hm : wrap64 (wrap64 (wrap64 (wrap64 (wrap64 (1440 * d) + wrap64 (60 * wrap64 (wrap64 (wrap64 (10 * wrap64 (bt s 6)) + wrap64 (bt s 7)) - 528))) + wrap64 (10 * wrap64 (bt s 9))) + wrap64 (bt s 10)) - 528) = dayM s d := by
      unfold dayM
      generalize bt s 6 = a at *
      generalize bt s 7 = b at *
      generalize bt s 9 = c at *
      generalize bt s 10 = e at *
      rw [wrap_id (n := a) (by omega) (by omega), wrap_id (n := b) (by omega) (by omega), wrap_id (n := c) (by omega) (by omega), wrap_id (n := e) (by omega) (by omega), wrap_id (n := 10 * a) (by omega) (by omega), wrap_id (n := 10 * c) (by omega) (by omega), wrap_id (n := 10 * a + b) (by omega) (by omega), wrap_id (n := 10 * a + b - 528) (by omega) (by omega), wrap_id (n := 60 * (10 * a + b - 528)) (by omega) (by omega), wrap_id (n := 1440 * d) (by omega) (by omega), wrap_id (n := 1440 * d + 60 * (10 * a + b - 528)) (by omega) (by omega), wrap_id (n := 1440 * d + 60 * (10 * a + b - 528) + 10 * c) (by omega) (by omega), wrap_id (n := 1440 * d + 60 * (10 * a + b - 528) + 10 * c + e) (by omega) (by omega), wrap_id (by omega) (by omega)]
    have hstep : ∀ k, haulierref04_Parse.l0 (k + 1) s d = (haulierref04_Name.f k (dayM s d)).bind fun bt => (if bt.2 = 0 then (if bt.1.toList = s.toList then (some (dayM s d, 0)) else (haulierref04_Parse.l0 k s (d + 1))) else (haulierref04_Parse.l0 k s (d + 1))) := fun k => by
      simp only [haulierref04_Parse.l0]
      rw [if_pos (by omega), if_pos (by omega), if_pos (by omega), if_pos (by omega), if_pos (by omega), hm, wrap_id (n := d + 1) (by omega) (by omega)]
    clear hm
    obtain ⟨r, hr, hc⟩ := ih (d + 1) (by omega) (by omega)
    by_cases hv : 0 ≤ dayM s d ∧ dayM s d ≤ 40320
    · have hname : Ev (fun k => haulierref04_Name.f k (dayM s d)) (mk (nameL (dayM s d)), 0) := Ev.step (f := fun _ => some (mk (nameL (dayM s d)), 0)) (fun k => ref_name_yes k _ hv.1 hv.2) (Ev.now _)
      by_cases e : mk (nameL (dayM s d)) = s
      · exact ⟨(dayM s d, 0), Ev.step hstep (Ev.bind hname (Ev.congr (f := fun _ => some (dayM s d, 0)) (fun k => by rw [if_pos rfl, if_pos (by rw [e])]) (Ev.now _))), .inr ⟨_, rfl, hv.1, hv.2, e⟩⟩
      · have hne : ¬ (mk (nameL (dayM s d))).toList = s.toList := fun h => e (by rw [toList_mk, Lib.toList_data] at h; rw [h]; rfl)
        refine ⟨r, Ev.step hstep (Ev.bind hname (Ev.congr (f := fun k => haulierref04_Parse.l0 k s (d + 1)) (fun k => by rw [if_pos rfl, if_neg hne]) hr)), ?_⟩
        rcases hc with ⟨h1, h2⟩ | h
        · refine .inl ⟨h1, fun x hx hx' => ?_⟩
          by_cases hxd : x = d
          · rw [hxd]; exact fun h => e h.2.2
          · exact h2 x (by omega) hx'
        · exact .inr h
    · have hname : Ev (fun k => haulierref04_Name.f k (dayM s d)) (⟨#[]⟩, 4) := Ev.step (f := fun _ => some (⟨#[]⟩, 4)) (fun k => ref_name_no k _ (by omega)) (Ev.now _)
      refine ⟨r, Ev.step hstep (Ev.bind hname (Ev.congr (f := fun k => haulierref04_Parse.l0 k s (d + 1)) (fun k => by rw [if_neg (by decide)]) hr)), ?_⟩
      rcases hc with ⟨h1, h2⟩ | h
      · refine .inl ⟨h1, fun x hx hx' => ?_⟩
        by_cases hxd : x = d
        · rw [hxd]; exact fun h => hv ⟨h.1, h.2.1⟩
        · exact h2 x (by omega) hx'
      · exact .inr h
theorem dayM_of (m : Int) (m0 : 0 ≤ m) (m1 : m ≤ 40320) : dayM (mk (nameL m)) (m / 1440) = m := by
  have n1 := dg_nat (m / 60 % 24 / 10) (by omega) (by omega)
  have n2 := dg_nat (m / 60 % 24 % 10) (by omega) (by omega)
  have n3 := dg_nat (m % 60 / 10) (by omega) (by omega)
  have n4 := dg_nat (m % 60 % 10) (by omega) (by omega)
  have b6 : bt (mk (nameL m)) 6 = (dg (m / 60 % 24 / 10)).toNat := rfl
  have b7 : bt (mk (nameL m)) 7 = (dg (m / 60 % 24 % 10)).toNat := rfl
  have b9 : bt (mk (nameL m)) 9 = (dg (m % 60 / 10)).toNat := rfl
  have ba : bt (mk (nameL m)) 10 = (dg (m % 60 % 10)).toNat := rfl
  unfold dayM
  rw [b6, b7, b9, ba]
  omega
theorem ref_parse (s : ByteArray) : ∃ r, Ev (fun k => haulierref04_Parse.f k s) r ∧ ((r = (0, 7) ∧ ∀ m, ¬ Named s m) ∨ ∃ m, r = (m, 0) ∧ Named s m) := by
  unfold haulierref04_Parse.f
  by_cases hs : (s.size : Int) = 11
  · simp only [if_pos hs]
    obtain ⟨r, hr, hc⟩ := ref_loop s (by omega) 29 0 (by omega) (by omega)
    refine ⟨r, hr, ?_⟩
    rcases hc with ⟨h1, h2⟩ | h
    · refine .inl ⟨h1, fun m hm => ?_⟩
      obtain ⟨m0, m1, rfl⟩ := hm
      have := h2 (m / 1440) (by omega) (by omega)
      rw [dayM_of m m0 m1] at this
      exact this ⟨m0, m1, rfl⟩
    · exact .inr h
  · simp only [if_neg hs]
    refine ⟨(0, 7), Ev.now _, .inl ⟨rfl, fun m hm => ?_⟩⟩
    obtain ⟨_, _, rfl⟩ := hm
    exact hs rfl
/-- Both parse alike. -/
theorem parse_both (s : ByteArray) (hs : s.size ≤ 40) : ∃ r, Ev (fun k => week_Parse.f k s) r ∧ Ev (fun k => haulierref04_Parse.f k s) r := by
  obtain ⟨r, hr, hc⟩ := parse_no s hs
  obtain ⟨q, hq, hd⟩ := ref_parse s
  rcases hd with ⟨h1, h2⟩ | ⟨m, h1, h2⟩
  · rcases hc with h | ⟨m, _, h⟩
    · exact ⟨r, hr, by rw [h, ← h1]; exact hq⟩
    · exact absurd h (h2 m)
  · exact ⟨(m, 0), parse_yes s m h2, by rw [← h1]; exact hq⟩
theorem both_names (m : Int) : ∃ r : ByteArray × Int, Ev (fun k => week_Name.f k m) r ∧ Ev (fun k => haulierref04_Name.f k m) r ∧ (r.2 = 0 → Named r.1 m) := by
  by_cases h : 0 ≤ m ∧ m ≤ 40320
  · exact ⟨(mk (nameL m), 0), Ev.step (f := fun _ => some _) (fun k => by rw [name_yes k m h.1 h.2, nameOf_mk]) (Ev.now _), Ev.step (f := fun _ => some _) (fun k => ref_name_yes k m h.1 h.2) (Ev.now _), fun _ => ⟨h.1, h.2, rfl⟩⟩
  · exact ⟨(⟨#[]⟩, 4), Ev.step (f := fun _ => some _) (fun k => name_no k m (by omega)) (Ev.now _), Ev.step (f := fun _ => some _) (fun k => ref_name_no k m (by omega)) (Ev.now _), fun h => by cases h⟩
theorem alive_ev : Ev (fun k => (haulierlaw04_alive.f k).bind fun t => some t) true := Ev.bind (Ev.step (f := fun _ => some true) (fun k => alive_yes k) (Ev.now _)) (Ev.now _)
theorem WeekNames (m : Int) (s : ByteArray) (_ : (Lit.int .i64 m).wf = true) (hs : s.size ≤ 140737488351232) : ∃ k, haulierlaw04_WeekNames.f k m s = some true := by
  refine Ev.rounds ?_
  unfold haulierlaw04_WeekNames.f
  by_cases c : (s.size : Int) > 40
  · simp only [if_pos c]
    exact alive_ev
  · simp only [if_neg c]
    obtain ⟨a, a1, a2, a3⟩ := both_names m
    obtain ⟨b, b1, b2⟩ := parse_both s (by omega)
    refine Ev.bind a1 (Ev.bind a2 (Ev.bind b1 (Ev.bind b2 ?_)))
    simp only [if_true, bne_self_eq_false]
    by_cases hz : a.2 = 0
    · have hN := a3 hz
      refine Ev.step (f := fun k => (week_Parse.f k a.1).bind fun bt => if bt.1 = m then (if bt.2 = 0 then ((haulierlaw04_alive.f k).bind fun t => some t) else some false) else some false) (fun k => ?_) (Ev.bind (parse_yes a.1 m hN) (Ev.congr (f := fun k => (haulierlaw04_alive.f k).bind fun t => some t) (fun k => by rw [if_pos rfl, if_pos rfl]) alive_ev))
      simp only [haulierlaw04_WeekNames.j0]
      rw [if_neg (by simp), if_pos hz]
    · refine Ev.step (f := fun k => (haulierlaw04_alive.f k).bind fun t => some t) (fun k => ?_) alive_ev
      simp only [haulierlaw04_WeekNames.j0]
      rw [if_neg (by simp), if_neg hz]
end Go.Proofs.YtaaiamfolbcchaaDoor.Pure

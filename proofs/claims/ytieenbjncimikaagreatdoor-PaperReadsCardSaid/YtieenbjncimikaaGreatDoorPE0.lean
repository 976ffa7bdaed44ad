/- What functions tell of meters: the document's parts. No condition. -/
import Derived.Test.YtieenbjncimikaaGreatDoorPD
set_option linter.all false
open Go Go.AM Go.Proofs Go.AM.Pl
set_option maxRecDepth 100000
set_option maxHeartbeats 4000000
namespace ZD
/-- A clause's bit. -/
def bz (c : Int) (z : Bool) : Int := if z = true then c else 0
theorem s209 {lo n : Nat} {z : Bool} {h : H} (hn : n ≤ 20) : den cx lo 209 [.i n, .b z] h = some (.i (bz ((2 ^ n : Nat) : Int) z), h) := by
  refine den_pure (fn := Tryz.f209) (by rfl) (by rfl) (by rfl) (by rfl) (by simp [Tryz.f209]) (by simp) ?_
  obtain ⟨R, hR⟩ : ∃ R, ((2 ^ n : Nat) : Int) = R := ⟨_, rfl⟩
  rw [hR]
  simp (maxSteps := 2000000) (disch := first | omega | (simp; done) | (simp; omega) | assumption) [Tryz.f209, argsE, isC]
  obtain ⟨I, hI⟩ : ∃ I : Nat → List Ent → List (Nat × List V) → H → Prop, I = (fun n' vs lb g => ∃ j : Nat, n' + j = n ∧ vs = [.v (.i j), .v (.i ((2 ^ j : Nat) : Int))] ∧ lb = [] ∧ g = h) := ⟨_, rfl⟩
  refine Wp.loopQ I (n := n) (by rw [hI]; exact ⟨0, by simp, by simp, by simp, by simp⟩) ?_
  intro n' vs lb g hi Q hQ; rw [hI] at hi; obtain ⟨j, hj, rfl, rfl, rfl⟩ := hi
  have hp : 2 ^ j ≤ 2 ^ 20 := Nat.pow_le_pow_right (by omega) (by omega)
  by_cases hlt : j < n
  · have go : I (n' - 1) [.v (.i ((j : Int) + 1)), .v (.i (2 * ((2 ^ j : Nat) : Int)))] [] g := by
      rw [hI]; exact ⟨j + 1, by omega, by rw [Nat.pow_succ]; simp [Int.mul_comm], rfl, rfl⟩
    clear hI
    obtain ⟨P, hP⟩ : ∃ P, 2 ^ j = P := ⟨_, rfl⟩
    rw [hP] at go hp ⊢
    have hlt' : (j : Int) < n := by omega
    simp (maxSteps := 2000000) (disch := first | omega | (simp; done) | (simp; omega) | assumption) [isC, hlt', wrap64]
    exact ⟨n' - 1, by omega, go⟩
  · obtain rfl : j = n := by omega
    clear hI
    rw [hR]
    clear hp
    simp (maxSteps := 2000000) (disch := first | omega | (simp; done) | (simp; omega) | assumption) []
    refine hQ _ _ ?_
    cases z <;> simp (maxSteps := 2000000) (disch := first | omega | (simp; done) | (simp; omega) | assumption) [bz]
theorem s209k {lo : Nat} {z : Bool} {h : H} : den cx lo 209 [.i 0, .b z] h = some (.i (bz 1 z), h) ∧ den cx lo 209 [.i 1, .b z] h = some (.i (bz 2 z), h) ∧ den cx lo 209 [.i 2, .b z] h = some (.i (bz 4 z), h) ∧ den cx lo 209 [.i 3, .b z] h = some (.i (bz 8 z), h) ∧ den cx lo 209 [.i 4, .b z] h = some (.i (bz 16 z), h) ∧ den cx lo 209 [.i 5, .b z] h = some (.i (bz 32 z), h) ∧ den cx lo 209 [.i 6, .b z] h = some (.i (bz 64 z), h) ∧ den cx lo 209 [.i 7, .b z] h = some (.i (bz 128 z), h) ∧ den cx lo 209 [.i 8, .b z] h = some (.i (bz 256 z), h) ∧ den cx lo 209 [.i 9, .b z] h = some (.i (bz 512 z), h) :=
  ⟨s209 (n := 0) (by omega), s209 (n := 1) (by omega), s209 (n := 2) (by omega), s209 (n := 3) (by omega), s209 (n := 4) (by omega), s209 (n := 5) (by omega), s209 (n := 6) (by omega), s209 (n := 7) (by omega), s209 (n := 8) (by omega), s209 (n := 9) (by omega)⟩
/-- A small sum. -/
def Sm (n : Nat) (x : Int) : Prop := 0 ≤ x ∧ x ≤ 1000 * n
theorem Sm_bz {n : Nat} {S c : Int} {z : Bool} (h : Sm n S) (hc : 0 ≤ c ∧ c ≤ 1000) : Sm (n + 1) (S + bz c z) := by
  unfold Sm at *; unfold bz; split <;> omega
theorem Sm_b {n : Nat} {c : Int} {z : Bool} (hc : 0 ≤ c ∧ c ≤ 1000) : Sm (n + 1) (bz c z) := by
  unfold Sm at *; unfold bz; split <;> omega
theorem Sm_0 {n : Nat} : Sm n 0 := by unfold Sm; omega
theorem wrapS {S c : Int} {z : Bool} (h : Sm 20 S) (hc : 0 ≤ c ∧ c ≤ 1000) : IntKind.i64.wrap (S + bz c z) = S + bz c z := by
  have := Sm_bz (z := z) h hc
  unfold Sm at this; exact wrap64 (by omega) (by omega)
theorem wrapS0 {c : Int} {z : Bool} (hc : 0 ≤ c ∧ c ≤ 1000) : IntKind.i64.wrap (bz c z) = bz c z := by
  have := Sm_b (n := 0) (z := z) hc
  unfold Sm at this; exact wrap64 (by omega) (by omega)
def endK (b : List Int) (m : Mtr) (w : Wth) : Int := if w.weekly = true then bz 256 (w.brief && m.brief) else if w.reduced = true then bz 64 (decide (bk b 9 < m.reduces + 1)) else 0
theorem endK_Sm {b : List Int} {m : Mtr} {w : Wth} {n : Nat} : Sm (n + 1) (endK b m w) := by
  unfold endK; split
  · exact Sm_b (by omega)
  split
  · exact Sm_b (by omega)
  · exact Sm_0
theorem s208 {lo : Nat} {b : List Int} {m : Mtr} {h : H} (hb : b.length = 19) (ho : okB b = true) (hM : MB m) (hlie : 0 < m.lie) : den cx lo 208 [bkv b, m.v] h = some (.tup [(riseM m (worM b m)).v, .i (endK b m (worM b m))], h) := by
  unfold MB at hM
  obtain ⟨d, hd⟩ : ∃ d, (if m.now - m.lie < m.dawn then m.now - m.lie else m.dawn) = d := ⟨_, rfl⟩
  have hd2 : 0 ≤ d ∧ d ≤ m.now - m.lie := by rw [← hd]; split <;> omega
  have e231 := fun lo => s231 (lo := lo) (f := m.now - m.lie) (t := m.now) (d := d) (half := m.half) (split := m.split) (h := h) hb ho (by omega) (by omega) (by omega) hd2.1 hd2.2
  have hw : worM b m = spW b (m.now - m.lie) m.now d m.half m.split := by unfold worM; rw [hd]
  have hf := sp_facts (f := m.now - m.lie) (t := m.now) (d := d) (half := m.half) (split := m.split) hb ho
  rw [← hw] at e231 hf
  obtain ⟨w, hw⟩ : ∃ w, worM b m = w := ⟨_, rfl⟩
  rw [hw] at e231 hf ⊢
  clear hw hd2
  have e8 := fun lo z => (s209k (lo := lo) (z := z) (h := h)).2.2.2.2.2.2.2.2.1
  have e6 := fun lo z => (s209k (lo := lo) (z := z) (h := h)).2.2.2.2.2.2.1
  obtain ⟨B, hBv, n19, t19, f19, hBi⟩ := bks hb
  have i9 := hBi 9 (by omega)
  clear hBi
  obtain ⟨wbrk, whalf, wpart, wdaily, wreduced, wweekly, wbrief⟩ := w
  simp only [Wth.v] at e231 hf
  obtain ⟨now, acc, half, lie, dawn, day, longers, split, reduces, sabbath, brief, week, last, labour⟩ := m
  simp only [Mtr.v, Mtr.cs] at *
  refine den_pure (fn := Tryz.f208) (by rfl) (by rfl) (by rfl) (by rfl) (by simp [Tryz.f208]) (by simp) ?_
  rw [hBv] at e231 ⊢
  obtain ⟨f1, f2, f3⟩ := hf
  have hd3 : (if now - lie < dawn then now - lie else dawn) = if dawn ≤ now - lie then dawn else now - lie := by split <;> split <;> omega
  rw [hd3] at hd
  clear hd3
  by_cases hc : now - lie < dawn
  · rw [if_neg (by omega)] at hd
    subst hd
    cases wweekly with
    | true =>
      obtain ⟨rfl, rfl⟩ := f1 rfl
      obtain rfl := f2 rfl
      clear f1 f2 f3
      cases wbrief
      all_goals simp (maxSteps := 2000000) (disch := first | omega | (simp; done) | (simp; omega) | assumption) [Tryz.f208, argsE, isC, boxV, boxO, fresh_no, List.filter_cons, setB, aggN, op_build, List.set, n19, t19, f19, i9, e231, e8, e6, wrap64, wrapS0, riseM, endK, hc, Cl1_tup, Cl1_agg, Cl1_vs]
    | false =>
      clear f1
      cases wdaily with
      | true =>
        obtain rfl := f2 rfl
        clear f2 f3
        cases wreduced
        all_goals simp (maxSteps := 2000000) (disch := first | omega | (simp; done) | (simp; omega) | assumption) [Tryz.f208, argsE, isC, boxV, boxO, fresh_no, List.filter_cons, setB, aggN, op_build, List.set, n19, t19, f19, i9, e231, e8, e6, wrap64, wrapS0, riseM, endK, hc, Cl1_tup, Cl1_agg, Cl1_vs]
      | false =>
        obtain rfl : wreduced = false := by cases wreduced with | true => exact absurd (f3 rfl) (by simp) | false => rfl
        clear f2 f3
        cases wbrk <;> cases split
        all_goals simp (maxSteps := 2000000) (disch := first | omega | (simp; done) | (simp; omega) | assumption) [Tryz.f208, argsE, isC, boxV, boxO, fresh_no, List.filter_cons, setB, aggN, op_build, List.set, n19, t19, f19, i9, e231, e8, e6, wrap64, wrapS0, riseM, endK, hc, Cl1_tup, Cl1_agg, Cl1_vs]
  · rw [if_pos (by omega)] at hd
    subst hd
    cases wweekly with
    | true =>
      obtain ⟨rfl, rfl⟩ := f1 rfl
      obtain rfl := f2 rfl
      clear f1 f2 f3
      cases wbrief
      all_goals simp (maxSteps := 2000000) (disch := first | omega | (simp; done) | (simp; omega) | assumption) [Tryz.f208, argsE, isC, boxV, boxO, fresh_no, List.filter_cons, setB, aggN, op_build, List.set, n19, t19, f19, i9, e231, e8, e6, wrap64, wrapS0, riseM, endK, hc, Cl1_tup, Cl1_agg, Cl1_vs]
    | false =>
      clear f1
      cases wdaily with
      | true =>
        obtain rfl := f2 rfl
        clear f2 f3
        cases wreduced
        all_goals simp (maxSteps := 2000000) (disch := first | omega | (simp; done) | (simp; omega) | assumption) [Tryz.f208, argsE, isC, boxV, boxO, fresh_no, List.filter_cons, setB, aggN, op_build, List.set, n19, t19, f19, i9, e231, e8, e6, wrap64, wrapS0, riseM, endK, hc, Cl1_tup, Cl1_agg, Cl1_vs]
      | false =>
        obtain rfl : wreduced = false := by cases wreduced with | true => exact absurd (f3 rfl) (by simp) | false => rfl
        clear f2 f3
        cases wbrk <;> cases split
        all_goals simp (maxSteps := 2000000) (disch := first | omega | (simp; done) | (simp; omega) | assumption) [Tryz.f208, argsE, isC, boxV, boxO, fresh_no, List.filter_cons, setB, aggN, op_build, List.set, n19, t19, f19, i9, e231, e8, e6, wrap64, wrapS0, riseM, endK, hc, Cl1_tup, Cl1_agg, Cl1_vs]
end ZD
open Go Go.AM Go.Proofs Go.AM.Pl
set_option maxRecDepth 100000
set_option maxHeartbeats 4000000
namespace ZD
/-- Both sets, below a clause. -/
def orS (a b : Int) : Nat → Int
  | 0 => 0
  | n + 1 => orS a b n + (if a.tdiv ((2 ^ n : Nat) : Int) % 2 = 1 ∨ b.tdiv ((2 ^ n : Nat) : Int) % 2 = 1 then ((2 ^ n : Nat) : Int) else 0)
theorem orS_le {a b : Int} (n : Nat) : 0 ≤ orS a b n ∧ orS a b n < ((2 ^ n : Nat) : Int) := by
  induction n with
  | zero => simp [orS]
  | succ n ih =>
    simp only [orS]
    have h2 : ((2 ^ (n + 1) : Nat) : Int) = 2 * ((2 ^ n : Nat) : Int) := by rw [Nat.pow_succ]; simp [Int.mul_comm]
    rw [h2]
    generalize ((2 ^ n : Nat) : Int) = P at *
    split <;> omega
theorem orS_ge {a b : Nat} (n : Nat) : ((a % 2 ^ n : Nat) : Int) ≤ orS a b n ∧ ((b % 2 ^ n : Nat) : Int) ≤ orS a b n := by
  induction n with
  | zero => simp [orS, Nat.mod_one]
  | succ n ih =>
    simp only [orS]
    rw [Nat.mod_pow_succ, Nat.mod_pow_succ]
    have ha : ((a : Int).tdiv ((2 ^ n : Nat) : Int)) = ((a / 2 ^ n : Nat) : Int) := rfl
    have hb : ((b : Int).tdiv ((2 ^ n : Nat) : Int)) = ((b / 2 ^ n : Nat) : Int) := rfl
    rw [ha, hb]
    generalize 2 ^ n = P at *
    have h1 : a / P % 2 = 0 ∨ a / P % 2 = 1 := by omega
    have h2 : b / P % 2 = 0 ∨ b / P % 2 = 1 := by omega
    have z1 : ((a / P : Nat) : Int) % 2 = ((a / P % 2 : Nat) : Int) := by omega
    have z2 : ((b / P : Nat) : Int) % 2 = ((b / P % 2 : Nat) : Int) := by omega
    rw [z1, z2]
    rcases h1 with h1 | h1 <;> rcases h2 with h2 | h2 <;> rw [h1, h2] <;> simp <;> omega
theorem orS_zero (n : Nat) : orS 0 0 n = 0 := by
  induction n with
  | zero => rfl
  | succ n ih => simp [orS, ih]
/-- Something is in both sets together, if something is in one. -/
theorem orS_ne {a b : Int} (ha : 0 ≤ a ∧ a < 65536) (hb : 0 ≤ b ∧ b < 65536) : (orS a b 16 = 0) ↔ (a = 0 ∧ b = 0) := by
  constructor
  · intro h
    have := orS_ge (a := a.toNat) (b := b.toNat) 16
    rw [Int.toNat_of_nonneg ha.1, Int.toNat_of_nonneg hb.1, h] at this
    have e1 : a.toNat % 2 ^ 16 = a.toNat := Nat.mod_eq_of_lt (by omega)
    have e2 : b.toNat % 2 ^ 16 = b.toNat := Nat.mod_eq_of_lt (by omega)
    rw [e1, e2] at this; omega
  · rintro ⟨rfl, rfl⟩; exact orS_zero 16
@[simp] theorem quo3 {a c : Int} (h : c ≠ 0) : binOpV cx .quo 3 (.i a) (.i c) = some (.i (IntKind.i64.wrap (a.tdiv c))) := by
  have : binS (.i a) (.i c) .quo = some (.i (IntKind.i64.wrap (a.tdiv c))) := by simp [binS, bin, V.i, h]
  unfold binOpV; rw [this]
theorem s183 {lo : Nat} {a b : Int} {h : H} (ha : 0 ≤ a ∧ a < 65536) (hb : 0 ≤ b ∧ b < 65536) : den cx lo 183 [.i a, .i b] h = some (.i (orS a b 16), h) := by
  refine den_pure (fn := Tryz.f183) (by rfl) (by rfl) (by rfl) (by rfl) (by simp [Tryz.f183]) (by simp) ?_
  obtain ⟨R, hR⟩ : ∃ R, orS a b 16 = R := ⟨_, rfl⟩
  rw [hR]
  simp (maxSteps := 2000000) (disch := first | omega | (simp; done) | (simp; omega) | assumption) [Tryz.f183, argsE]
  obtain ⟨I, hI⟩ : ∃ I : Nat → List Ent → List (Nat × List V) → H → Prop, I = (fun n' vs lb g => ∃ j : Nat, n' + j = 16 ∧ vs = [.v (.i j), .v (.i (orS a b j))] ∧ lb = [] ∧ g = h) := ⟨_, rfl⟩
  refine Wp.loopQ I (n := 16) (by rw [hI]; exact ⟨0, by simp, by simp [orS], by simp, by simp⟩) ?_
  intro n' vs lb g hi Q hQ; rw [hI] at hi; obtain ⟨j, hj, rfl, rfl, rfl⟩ := hi
  have hp : 2 ^ j ≤ 2 ^ 16 := Nat.pow_le_pow_right (by omega) (by omega)
  have hpp : 0 < 2 ^ j := Nat.pow_pos (by omega)
  have hol := orS_le (a := a) (b := b) j
  by_cases hlt : j < 16
  · have e := fun lo => s209 (lo := lo) (n := j) (z := true) (h := g) (by omega)
    simp only [bz, if_true] at e
    have go : I (n' - 1) [.v (.i ((j : Int) + 1)), .v (.i (orS a b (j + 1)))] [] g := by
      rw [hI]; exact ⟨j + 1, by omega, by simp, rfl, rfl⟩
    clear hI
    simp only [orS] at go
    obtain ⟨P, hP⟩ : ∃ P, 2 ^ j = P := ⟨_, rfl⟩
    rw [hP] at hp hpp e hol
    rw [hP] at go
    clear hP
    have hlt' : (j : Int) < 16 := by omega
    have hP0 : (P : Int) ≠ 0 := by omega
    have hd1 : 0 ≤ a.tdiv P ∧ a.tdiv P ≤ a := ⟨Int.tdiv_nonneg ha.1 (by omega), Int.tdiv_le_self _ ha.1⟩
    have hd2 : 0 ≤ b.tdiv P ∧ b.tdiv P ≤ b := ⟨Int.tdiv_nonneg hb.1 (by omega), Int.tdiv_le_self _ hb.1⟩
    have m1 : (a.tdiv P).tmod 2 = a.tdiv P % 2 := Int.tmod_eq_emod_of_nonneg hd1.1
    have m2 : (b.tdiv P).tmod 2 = b.tdiv P % 2 := Int.tmod_eq_emod_of_nonneg hd2.1
    have w1 : IntKind.i64.wrap (a.tdiv P) = a.tdiv P := wrap64 (by omega) (by omega)
    have w2 : IntKind.i64.wrap (b.tdiv P) = b.tdiv P := wrap64 (by omega) (by omega)
    by_cases q1 : a.tdiv P % 2 = 1
    · rw [if_pos (.inl q1)] at go
      simp (maxSteps := 2000000) (disch := first | omega | (simp; done) | (simp; omega) | assumption) [isC, hlt', wrap64, e, w1, w2, m1, m2, q1, hP0]
      exact ⟨n' - 1, by omega, go⟩
    by_cases q2 : b.tdiv P % 2 = 1
    · rw [if_pos (.inr q2)] at go
      simp (maxSteps := 2000000) (disch := first | omega | (simp; done) | (simp; omega) | assumption) [isC, hlt', wrap64, e, w1, w2, m1, m2, q1, q2, hP0]
      exact ⟨n' - 1, by omega, go⟩
    · rw [if_neg (by rintro (z | z) <;> contradiction)] at go
      simp (maxSteps := 2000000) (disch := first | omega | (simp; done) | (simp; omega) | assumption) [isC, hlt', wrap64, e, w1, w2, m1, m2, q1, q2, hP0]
      exact ⟨n' - 1, by omega, by simpa using go⟩
  · obtain rfl : j = 16 := by omega
    clear hI
    rw [hR]
    simp (maxSteps := 2000000) (disch := first | omega | (simp; done) | (simp; omega) | assumption) []
    refine hQ _ _ ?_
    simp (maxSteps := 2000000) (disch := first | omega | (simp; done) | (simp; omega) | assumption) []
end ZD

/- What a minute makes of a meter, by the document. No condition. -/
import Derived.Test.YtieenbjncimikaaGreatDoorPE0
set_option linter.all false
open Go Go.AM Go.Proofs Go.AM.Pl
set_option maxRecDepth 100000
set_option maxHeartbeats 100000000
namespace ZD
def dawnS (b : List Int) (m : Mtr) (S : Int) : Int := S + bz 32 (decide (bk b 11 - bk b 8 ≤ m.now - m.dawn)) + bz 128 (decide (bk b 14 ≤ m.now - m.sabbath))
def drvS (b : List Int) (m : Mtr) (S : Int) : Int :=
  (if m.day = bk b 4 then S + bz 1 (decide (bk b 0 < m.acc + 1)) + bz 4 (decide (bk b 6 < m.longers + 1)) else S + bz 1 (decide (bk b 0 < m.acc + 1))) + bz 2 (decide (bk b 5 < m.day + 1)) + bz 8 (decide (bk b 15 < m.week + 1)) + bz 16 (decide (bk b 16 < m.week + 1 + m.last))
def premS (b : List Int) (m : Mtr) : Int := if 0 < (turnM b m).lie then endK b (turnM b m) (worM b (turnM b m)) else 0
/-- What a minute breaks. -/
def stepK (b : List Int) (m : Mtr) (kind : Int) : Int :=
  if kind = 0 then 0 else
  let S2 := dawnS b (premM b m) (premS b m)
  let S3 := if kind = 3 then drvS b (premM b m) S2 else S2
  if kind = 1 then S3 else S3 + bz 512 (decide (bk b 17 < (premM b m).labour + 1))
theorem drv_alt {b : List Int} {m : Mtr} : drvM b m = { m with acc := m.acc + 1, day := m.day + 1, week := m.week + 1, longers := if m.day = bk b 4 then m.longers + 1 else m.longers } := by
  unfold drvM
  by_cases q : m.day = bk b 4
  · rw [if_pos (by omega), if_pos q]
  · rw [if_neg (by omega), if_neg q]
theorem minM_alt {b : List Int} {m : Mtr} {kind : Int} (h0 : kind ≠ 0) : minM b m kind = (let m1 := premM b m
  let m2 := if kind = 3 then { m1 with acc := m1.acc + 1, day := m1.day + 1, week := m1.week + 1, longers := if m1.day = bk b 4 then m1.longers + 1 else m1.longers } else m1
  { m2 with labour := if kind = 1 then m2.labour else m2.labour + 1, now := m2.now + 1 }) := by
  unfold minM; rw [if_neg h0]; simp only [drv_alt]
@[simp] theorem fg_mtr (m : Mtr) : fg m.v = m.v := rfl
@[simp] theorem premS_Sm {b : List Int} {m : Mtr} {n : Nat} : Sm (n + 1) (premS b m) := by
  unfold premS; split
  · exact endK_Sm
  · exact Sm_0
@[simp] theorem SmA_0 {n : Nat} : Sm n 0 := Sm_0
@[simp] theorem SmA_b {n : Nat} {c : Int} {z : Bool} (hc : 0 ≤ c ∧ c ≤ 1000) : Sm (n + 1) (bz c z) := Sm_b hc
@[simp] theorem SmA_bz {n : Nat} {S c : Int} {z : Bool} (h : Sm n S) (hc : 0 ≤ c ∧ c ≤ 1000) : Sm (n + 1) (S + bz c z) := Sm_bz h hc
theorem s182 {lo : Nat} {b : List Int} {m : Mtr} {kind : Int} {h : H} (hb : b.length = 19) (ho : okB b = true) (hM : MB m) (hnow : m.now < 40320) (hk : 0 ≤ kind ∧ kind < 4) : den cx lo 182 [bkv b, m.v, .i kind] h = some (.tup [(minM b m kind).v, .i (stepK b m kind)], h) := by
  obtain ⟨_, hB, hz⟩ := okB_ord hb ho
  have hM0 := hM
  unfold MB at hM0
  have hMp := MC_prem (b := b) hM
  have hMt := MB_turn (b := b) hM
  have hpn := prem_now (b := b) (m := m)
  have htl := turn_lie (b := b) (m := m)
  have e208 := fun (q : 0 < (turnM b m).lie) lo => s208 (lo := lo) (h := h) hb ho hMt q
  have b4 := hB 4
  have b8 := hB 8
  have b11 := hB 11
  have E := fun lo z => s209k (lo := lo) (z := z) (h := h)
  have e0 := fun lo z => (E lo z).1
  have e1 := fun lo z => (E lo z).2.1
  have e2 := fun lo z => (E lo z).2.2.1
  have e3 := fun lo z => (E lo z).2.2.2.1
  have e4 := fun lo z => (E lo z).2.2.2.2.1
  have e5 := fun lo z => (E lo z).2.2.2.2.2.1
  have e7 := fun lo z => (E lo z).2.2.2.2.2.2.2.1
  have e9 := fun lo z => (E lo z).2.2.2.2.2.2.2.2.2
  clear E
  obtain ⟨B, hBv, n19, t19, f19, hBi⟩ := bks hb
  have i0 := hBi 0 (by omega)
  have i4 := hBi 4 (by omega)
  have i5 := hBi 5 (by omega)
  have i6 := hBi 6 (by omega)
  have i8 := hBi 8 (by omega)
  have i11 := hBi 11 (by omega)
  have i14 := hBi 14 (by omega)
  have i15 := hBi 15 (by omega)
  have i16 := hBi 16 (by omega)
  have i17 := hBi 17 (by omega)
  have i18 := hBi 18 (by omega)
  clear hBi hB
  have hz' : bk b 18 ≠ 0 := by omega
  refine den_pure (fn := Tryz.f182) (by rfl) (by rfl) (by rfl) (by rfl) (by simp [Tryz.f182]) (by simp) ?_
  by_cases h0 : kind = 0
  · subst h0
    have hs : stepK b m 0 = 0 := rfl
    have hm : minM b m 0 = { turnM b m with lie := (turnM b m).lie + 1, now := (turnM b m).now + 1 } := rfl
    rw [hs, hm, hBv]
    clear e208 hMp hMt hpn htl
    unfold turnM
    rw [show b.getD 18 0 = bk b 18 from rfl]
    by_cases q1 : 0 < m.now
    · by_cases q2 : m.now.tmod (bk b 18) = 0
      · rw [if_pos ⟨q1, q2⟩]
        simp (maxSteps := 2000000) (disch := first | omega | (simp; done) | (simp; omega) | assumption) [Tryz.f182, argsE, isC, boxV, boxO, fresh_no, List.filter_cons, setB, aggN, op_build, List.set, n19, t19, f19, i18, q1, q2, hz', wrap64, rem3, Cl1_tup, Cl1_agg, Cl1_vs, Mtr.v, Mtr.cs]
      · rw [if_neg fun z => q2 z.2]
        simp (maxSteps := 2000000) (disch := first | omega | (simp; done) | (simp; omega) | assumption) [Tryz.f182, argsE, isC, boxV, boxO, fresh_no, List.filter_cons, setB, aggN, op_build, List.set, n19, t19, f19, i18, q1, q2, hz', wrap64, rem3, Cl1_tup, Cl1_agg, Cl1_vs, Mtr.v, Mtr.cs]
    · rw [if_neg fun z => q1 z.1]
      simp (maxSteps := 2000000) (disch := first | omega | (simp; done) | (simp; omega) | assumption) [Tryz.f182, argsE, isC, boxV, boxO, fresh_no, List.filter_cons, setB, aggN, op_build, List.set, n19, t19, f19, i18, q1, wrap64, rem3, Cl1_tup, Cl1_agg, Cl1_vs, Mtr.v, Mtr.cs]
  rw [minM_alt h0]
  simp only [stepK, h0, if_false]
  by_cases hlie : 0 < (turnM b m).lie
  · have e208 := e208 hlie
    have hp1 : riseM (turnM b m) (worM b (turnM b m)) = premM b m := by unfold premM; rw [if_pos hlie]
    have hp2 : endK b (turnM b m) (worM b (turnM b m)) = premS b m := by unfold premS; rw [if_pos hlie]
    rw [hp1, hp2] at e208
    rw [htl] at hlie
    clear hp1 hp2 hMt htl
    rw [hBv] at e208 ⊢
    obtain ⟨m1, hm1⟩ : ∃ m1, premM b m = m1 := ⟨_, rfl⟩
    rw [hm1] at hMp hpn
    simp only [hm1] at e208 ⊢
    clear hm1
    unfold MC at hMp
    simp only [dawnS, drvS]
    by_cases q1 : 0 < m.now
    · by_cases q2 : m.now.tmod (bk b 18) = 0
      · have ht : turnM b m = { m with last := m.week, week := 0, labour := 0 } := by unfold turnM; exact if_pos ⟨q1, q2⟩
        rw [ht] at e208
        simp only [Mtr.v, Mtr.cs] at e208
        obtain rfl | rfl | rfl : kind = 1 ∨ kind = 2 ∨ kind = 3 := by omega
        · simp (maxSteps := 2000000) (disch := first | omega | (simp; done) | (simp; omega) | assumption) [Tryz.f182, argsE, isC, boxV, boxO, fresh_no, List.filter_cons, setB, aggN, op_build, List.set, n19, t19, f19, i0, i4, i5, i6, i8, i11, i14, i15, i16, i17, i18, q1, q2, hz', hlie, e208, e5, e7, e0, e2, e1, e3, e4, e9, wrap64, wrapS, wrapS0, Sm_bz, Sm_b, Sm_0, rem3, Cl1_tup, Cl1_agg, Cl1_vs, Mtr.v, Mtr.cs]
        · simp (maxSteps := 2000000) (disch := first | omega | (simp; done) | (simp; omega) | assumption) [Tryz.f182, argsE, isC, boxV, boxO, fresh_no, List.filter_cons, setB, aggN, op_build, List.set, n19, t19, f19, i0, i4, i5, i6, i8, i11, i14, i15, i16, i17, i18, q1, q2, hz', hlie, e208, e5, e7, e0, e2, e1, e3, e4, e9, wrap64, wrapS, wrapS0, Sm_bz, Sm_b, Sm_0, rem3, Cl1_tup, Cl1_agg, Cl1_vs, Mtr.v, Mtr.cs]
        · by_cases hd : m1.day = bk b 4
          · simp (maxSteps := 2000000) (disch := first | omega | (simp; done) | (simp; omega) | assumption) [Tryz.f182, argsE, isC, boxV, boxO, fresh_no, List.filter_cons, setB, aggN, op_build, List.set, n19, t19, f19, i0, i4, i5, i6, i8, i11, i14, i15, i16, i17, i18, q1, q2, hz', hlie, e208, e5, e7, e0, e2, e1, e3, e4, e9, wrap64, wrapS, wrapS0, Sm_bz, Sm_b, Sm_0, rem3, Cl1_tup, Cl1_agg, Cl1_vs, Mtr.v, Mtr.cs, hd, drvM]
            all_goals simp (maxDischargeDepth := 40) (disch := first | omega | (simp (maxDischargeDepth := 40); done)) only [wrapS, Sm_bz, premS_Sm]
          · simp (maxSteps := 2000000) (disch := first | omega | (simp; done) | (simp; omega) | assumption) [Tryz.f182, argsE, isC, boxV, boxO, fresh_no, List.filter_cons, setB, aggN, op_build, List.set, n19, t19, f19, i0, i4, i5, i6, i8, i11, i14, i15, i16, i17, i18, q1, q2, hz', hlie, e208, e5, e7, e0, e2, e1, e3, e4, e9, wrap64, wrapS, wrapS0, Sm_bz, Sm_b, Sm_0, rem3, Cl1_tup, Cl1_agg, Cl1_vs, Mtr.v, Mtr.cs, hd, drvM]
            all_goals simp (maxDischargeDepth := 40) (disch := first | omega | (simp (maxDischargeDepth := 40); done)) only [wrapS, Sm_bz, premS_Sm]
      · have ht : turnM b m = m := by unfold turnM; exact if_neg fun z => q2 z.2
        rw [ht] at e208
        simp only [Mtr.v, Mtr.cs] at e208
        obtain rfl | rfl | rfl : kind = 1 ∨ kind = 2 ∨ kind = 3 := by omega
        · simp (maxSteps := 2000000) (disch := first | omega | (simp; done) | (simp; omega) | assumption) [Tryz.f182, argsE, isC, boxV, boxO, fresh_no, List.filter_cons, setB, aggN, op_build, List.set, n19, t19, f19, i0, i4, i5, i6, i8, i11, i14, i15, i16, i17, i18, q1, q2, hz', hlie, e208, e5, e7, e0, e2, e1, e3, e4, e9, wrap64, wrapS, wrapS0, Sm_bz, Sm_b, Sm_0, rem3, Cl1_tup, Cl1_agg, Cl1_vs, Mtr.v, Mtr.cs]
        · simp (maxSteps := 2000000) (disch := first | omega | (simp; done) | (simp; omega) | assumption) [Tryz.f182, argsE, isC, boxV, boxO, fresh_no, List.filter_cons, setB, aggN, op_build, List.set, n19, t19, f19, i0, i4, i5, i6, i8, i11, i14, i15, i16, i17, i18, q1, q2, hz', hlie, e208, e5, e7, e0, e2, e1, e3, e4, e9, wrap64, wrapS, wrapS0, Sm_bz, Sm_b, Sm_0, rem3, Cl1_tup, Cl1_agg, Cl1_vs, Mtr.v, Mtr.cs]
        · by_cases hd : m1.day = bk b 4
          · simp (maxSteps := 2000000) (disch := first | omega | (simp; done) | (simp; omega) | assumption) [Tryz.f182, argsE, isC, boxV, boxO, fresh_no, List.filter_cons, setB, aggN, op_build, List.set, n19, t19, f19, i0, i4, i5, i6, i8, i11, i14, i15, i16, i17, i18, q1, q2, hz', hlie, e208, e5, e7, e0, e2, e1, e3, e4, e9, wrap64, wrapS, wrapS0, Sm_bz, Sm_b, Sm_0, rem3, Cl1_tup, Cl1_agg, Cl1_vs, Mtr.v, Mtr.cs, hd, drvM]
            all_goals simp (maxDischargeDepth := 40) (disch := first | omega | (simp (maxDischargeDepth := 40); done)) only [wrapS, Sm_bz, premS_Sm]
          · simp (maxSteps := 2000000) (disch := first | omega | (simp; done) | (simp; omega) | assumption) [Tryz.f182, argsE, isC, boxV, boxO, fresh_no, List.filter_cons, setB, aggN, op_build, List.set, n19, t19, f19, i0, i4, i5, i6, i8, i11, i14, i15, i16, i17, i18, q1, q2, hz', hlie, e208, e5, e7, e0, e2, e1, e3, e4, e9, wrap64, wrapS, wrapS0, Sm_bz, Sm_b, Sm_0, rem3, Cl1_tup, Cl1_agg, Cl1_vs, Mtr.v, Mtr.cs, hd, drvM]
            all_goals simp (maxDischargeDepth := 40) (disch := first | omega | (simp (maxDischargeDepth := 40); done)) only [wrapS, Sm_bz, premS_Sm]
    · exact absurd hlie (by omega)
  · have hp1 : premM b m = turnM b m := by unfold premM; rw [if_neg hlie]
    have hp2 : premS b m = 0 := by unfold premS; rw [if_neg hlie]
    rw [htl] at hlie
    clear e208
    rw [hp1] at hMp hpn
    rw [hp1, hp2, hBv]
    clear hp1 hp2
    simp only [dawnS, drvS]
    by_cases q1 : 0 < m.now
    · by_cases q2 : m.now.tmod (bk b 18) = 0
      · have ht : turnM b m = { m with last := m.week, week := 0, labour := 0 } := by unfold turnM; exact if_pos ⟨q1, q2⟩
        rw [ht] at hMp hpn ⊢
        unfold MC at hMp
        simp only at hMp hpn
        obtain rfl | rfl | rfl : kind = 1 ∨ kind = 2 ∨ kind = 3 := by omega
        · simp (maxSteps := 2000000) (disch := first | omega | (simp; done) | (simp; omega) | assumption) [Tryz.f182, argsE, isC, boxV, boxO, fresh_no, List.filter_cons, setB, aggN, op_build, List.set, n19, t19, f19, i0, i4, i5, i6, i8, i11, i14, i15, i16, i17, i18, q1, q2, hz', hlie, e5, e7, e0, e2, e1, e3, e4, e9, wrap64, wrapS, wrapS0, Sm_bz, Sm_b, Sm_0, rem3, Cl1_tup, Cl1_agg, Cl1_vs, Mtr.v, Mtr.cs]
        · simp (maxSteps := 2000000) (disch := first | omega | (simp; done) | (simp; omega) | assumption) [Tryz.f182, argsE, isC, boxV, boxO, fresh_no, List.filter_cons, setB, aggN, op_build, List.set, n19, t19, f19, i0, i4, i5, i6, i8, i11, i14, i15, i16, i17, i18, q1, q2, hz', hlie, e5, e7, e0, e2, e1, e3, e4, e9, wrap64, wrapS, wrapS0, Sm_bz, Sm_b, Sm_0, rem3, Cl1_tup, Cl1_agg, Cl1_vs, Mtr.v, Mtr.cs]
        · by_cases hd : m.day = bk b 4
          · simp (maxSteps := 2000000) (disch := first | omega | (simp; done) | (simp; omega) | assumption) [Tryz.f182, argsE, isC, boxV, boxO, fresh_no, List.filter_cons, setB, aggN, op_build, List.set, n19, t19, f19, i0, i4, i5, i6, i8, i11, i14, i15, i16, i17, i18, q1, q2, hz', hlie, e5, e7, e0, e2, e1, e3, e4, e9, wrap64, wrapS, wrapS0, Sm_bz, Sm_b, Sm_0, rem3, Cl1_tup, Cl1_agg, Cl1_vs, Mtr.v, Mtr.cs, hd, drvM]
            all_goals simp (maxDischargeDepth := 40) (disch := first | omega | (simp (maxDischargeDepth := 40); done)) only [wrapS, Sm_bz, premS_Sm]
          · simp (maxSteps := 2000000) (disch := first | omega | (simp; done) | (simp; omega) | assumption) [Tryz.f182, argsE, isC, boxV, boxO, fresh_no, List.filter_cons, setB, aggN, op_build, List.set, n19, t19, f19, i0, i4, i5, i6, i8, i11, i14, i15, i16, i17, i18, q1, q2, hz', hlie, e5, e7, e0, e2, e1, e3, e4, e9, wrap64, wrapS, wrapS0, Sm_bz, Sm_b, Sm_0, rem3, Cl1_tup, Cl1_agg, Cl1_vs, Mtr.v, Mtr.cs, hd, drvM]
            all_goals simp (maxDischargeDepth := 40) (disch := first | omega | (simp (maxDischargeDepth := 40); done)) only [wrapS, Sm_bz, premS_Sm]
      · have ht : turnM b m = m := by unfold turnM; exact if_neg fun z => q2 z.2
        rw [ht] at hMp hpn ⊢
        unfold MC at hMp
        obtain rfl | rfl | rfl : kind = 1 ∨ kind = 2 ∨ kind = 3 := by omega
        · simp (maxSteps := 2000000) (disch := first | omega | (simp; done) | (simp; omega) | assumption) [Tryz.f182, argsE, isC, boxV, boxO, fresh_no, List.filter_cons, setB, aggN, op_build, List.set, n19, t19, f19, i0, i4, i5, i6, i8, i11, i14, i15, i16, i17, i18, q1, q2, hz', hlie, e5, e7, e0, e2, e1, e3, e4, e9, wrap64, wrapS, wrapS0, Sm_bz, Sm_b, Sm_0, rem3, Cl1_tup, Cl1_agg, Cl1_vs, Mtr.v, Mtr.cs]
        · simp (maxSteps := 2000000) (disch := first | omega | (simp; done) | (simp; omega) | assumption) [Tryz.f182, argsE, isC, boxV, boxO, fresh_no, List.filter_cons, setB, aggN, op_build, List.set, n19, t19, f19, i0, i4, i5, i6, i8, i11, i14, i15, i16, i17, i18, q1, q2, hz', hlie, e5, e7, e0, e2, e1, e3, e4, e9, wrap64, wrapS, wrapS0, Sm_bz, Sm_b, Sm_0, rem3, Cl1_tup, Cl1_agg, Cl1_vs, Mtr.v, Mtr.cs]
        · by_cases hd : m.day = bk b 4
          · simp (maxSteps := 2000000) (disch := first | omega | (simp; done) | (simp; omega) | assumption) [Tryz.f182, argsE, isC, boxV, boxO, fresh_no, List.filter_cons, setB, aggN, op_build, List.set, n19, t19, f19, i0, i4, i5, i6, i8, i11, i14, i15, i16, i17, i18, q1, q2, hz', hlie, e5, e7, e0, e2, e1, e3, e4, e9, wrap64, wrapS, wrapS0, Sm_bz, Sm_b, Sm_0, rem3, Cl1_tup, Cl1_agg, Cl1_vs, Mtr.v, Mtr.cs, hd, drvM]
            all_goals simp (maxDischargeDepth := 40) (disch := first | omega | (simp (maxDischargeDepth := 40); done)) only [wrapS, Sm_bz, premS_Sm]
          · simp (maxSteps := 2000000) (disch := first | omega | (simp; done) | (simp; omega) | assumption) [Tryz.f182, argsE, isC, boxV, boxO, fresh_no, List.filter_cons, setB, aggN, op_build, List.set, n19, t19, f19, i0, i4, i5, i6, i8, i11, i14, i15, i16, i17, i18, q1, q2, hz', hlie, e5, e7, e0, e2, e1, e3, e4, e9, wrap64, wrapS, wrapS0, Sm_bz, Sm_b, Sm_0, rem3, Cl1_tup, Cl1_agg, Cl1_vs, Mtr.v, Mtr.cs, hd, drvM]
            all_goals simp (maxDischargeDepth := 40) (disch := first | omega | (simp (maxDischargeDepth := 40); done)) only [wrapS, Sm_bz, premS_Sm]
    · have ht : turnM b m = m := by unfold turnM; exact if_neg fun z => q1 z.1
      rw [ht] at hMp hpn ⊢
      unfold MC at hMp
      obtain rfl | rfl | rfl : kind = 1 ∨ kind = 2 ∨ kind = 3 := by omega
      · simp (maxSteps := 2000000) (disch := first | omega | (simp; done) | (simp; omega) | assumption) [Tryz.f182, argsE, isC, boxV, boxO, fresh_no, List.filter_cons, setB, aggN, op_build, List.set, n19, t19, f19, i0, i4, i5, i6, i8, i11, i14, i15, i16, i17, i18, q1, hlie, e5, e7, e0, e2, e1, e3, e4, e9, wrap64, wrapS, wrapS0, Sm_bz, Sm_b, Sm_0, rem3, Cl1_tup, Cl1_agg, Cl1_vs, Mtr.v, Mtr.cs]
      · simp (maxSteps := 2000000) (disch := first | omega | (simp; done) | (simp; omega) | assumption) [Tryz.f182, argsE, isC, boxV, boxO, fresh_no, List.filter_cons, setB, aggN, op_build, List.set, n19, t19, f19, i0, i4, i5, i6, i8, i11, i14, i15, i16, i17, i18, q1, hlie, e5, e7, e0, e2, e1, e3, e4, e9, wrap64, wrapS, wrapS0, Sm_bz, Sm_b, Sm_0, rem3, Cl1_tup, Cl1_agg, Cl1_vs, Mtr.v, Mtr.cs]
      · by_cases hd : m.day = bk b 4
        · simp (maxSteps := 2000000) (disch := first | omega | (simp; done) | (simp; omega) | assumption) [Tryz.f182, argsE, isC, boxV, boxO, fresh_no, List.filter_cons, setB, aggN, op_build, List.set, n19, t19, f19, i0, i4, i5, i6, i8, i11, i14, i15, i16, i17, i18, q1, hlie, e5, e7, e0, e2, e1, e3, e4, e9, wrap64, wrapS, wrapS0, Sm_bz, Sm_b, Sm_0, rem3, Cl1_tup, Cl1_agg, Cl1_vs, Mtr.v, Mtr.cs, hd, drvM]
          all_goals simp (maxDischargeDepth := 40) (disch := first | omega | (simp (maxDischargeDepth := 40); done)) only [wrapS, Sm_bz, premS_Sm]
        · simp (maxSteps := 2000000) (disch := first | omega | (simp; done) | (simp; omega) | assumption) [Tryz.f182, argsE, isC, boxV, boxO, fresh_no, List.filter_cons, setB, aggN, op_build, List.set, n19, t19, f19, i0, i4, i5, i6, i8, i11, i14, i15, i16, i17, i18, q1, hlie, e5, e7, e0, e2, e1, e3, e4, e9, wrap64, wrapS, wrapS0, Sm_bz, Sm_b, Sm_0, rem3, Cl1_tup, Cl1_agg, Cl1_vs, Mtr.v, Mtr.cs, hd, drvM]
          all_goals simp (maxDischargeDepth := 40) (disch := first | omega | (simp (maxDischargeDepth := 40); done)) only [wrapS, Sm_bz, premS_Sm]
end ZD

/- What the program's check of a depot tells. No condition. -/
import Derived.Test.YtieenbjncimikaaGreatDoorBPE0
set_option linter.all false
open Go Go.AM Go.Proofs Go.AM.Pl
set_option maxRecDepth 100000
set_option maxHeartbeats 4000000
namespace ZD
end ZD
open Go Go.AM Go.Proofs Go.AM.Pl
set_option maxRecDepth 100000
set_option maxHeartbeats 4000000
namespace ZD
/-- The meter ahead of all. -/
def mz : Mtr := ⟨0, 0, false, 0, 0, 0, 0, false, 0, 0, false, 0, 0, 0⟩
def stP (b : List Int) (x : Mtr × Int) (kind : Int) : Mtr × Int := (minM b x.1 kind, minK b x.1 x.2 kind)
theorem MB_mz : MB mz := by simp [MB, mz]
theorem min_now {b : List Int} {m : Mtr} {kind : Int} : (minM b m kind).now = m.now + 1 := by
  unfold minM; split
  · simp [turn_now]
  · simp only; split <;> simp [drvM, prem_now]
theorem MB_min {b : List Int} {m : Mtr} {kind : Int} (h : MB m) (hn : m.now < 40320) : MB (minM b m kind) := by
  have ht := MB_turn (b := b) h
  have hc := MC_prem (b := b) h
  have h1 := turn_now (b := b) (m := m)
  have h2 := prem_now (b := b) (m := m)
  unfold minM; split
  · unfold MB at *; simp only; omega
  · unfold MC at hc
    simp only
    split
    · unfold MB drvM; simp only
      split <;> split <;> omega
    · unfold MB; simp only
      split <;> omega
theorem fold_MB {b : List Int} : ∀ (ks : List Int) (x : Mtr × Int), MB x.1 → x.1.now + ks.length ≤ 40320 → MB (ks.foldl (stP b) x).1 ∧ (ks.foldl (stP b) x).1.now = x.1.now + ks.length
  | [], x, h, _ => ⟨h, by simp⟩
  | k :: r, x, h, hn => by
    have hl : x.1.now + (r.length + 1) ≤ 40320 := by simpa using hn
    have := fold_MB (b := b) r (stP b x k) (MB_min h (by omega)) (by simp only [stP]; rw [min_now]; omega)
    refine ⟨this.1, ?_⟩
    have e := this.2
    simp only [stP] at e
    rw [min_now] at e
    simp only [List.foldl_cons, List.length_cons]
    simp only [stP]
    rw [e]; simp; omega
theorem chn_len : ∀ (l : List Rec) (m : Int), Chn m l → m + (kindsR l).length ≤ max m 40320
  | [], m, _ => by simp [kindsR]; omega
  | x :: t, m, h => by
    obtain ⟨h1, h2, _, _, _, h5, h3⟩ := h
    have := chn_len t x.t h3
    have e : kindsR (x :: t) = List.replicate (x.t - x.f).toNat x.k ++ kindsR t := by simp [kindsR]
    rw [e]; simp; omega
theorem chn_kinds : ∀ (l : List Rec) (m : Int), Chn m l → ∀ r ∈ l, 0 ≤ r.k ∧ r.k < 4
  | [], _, _, r, hr => by simp at hr
  | x :: t, m, h, r, hr => by
    obtain ⟨_, _, h3, h4, _, _, h5⟩ := h
    rcases List.mem_cons.1 hr with rfl | hr
    · exact ⟨h3, h4⟩
    · exact chn_kinds t _ h5 r hr
def ofP (b : List Int) (l : List Rec) : Mtr × Int := (kindsR l).foldl (stP b) (mz, 0)
theorem chn_lt : ∀ (l : List Rec) (m : Int), Chn m l → ∀ r ∈ l, r.f < r.t
  | [], _, _, r, hr => by simp at hr
  | x :: t, m, h, r, hr => by
    obtain ⟨_, h3, _, _, _, _, h5⟩ := h
    rcases List.mem_cons.1 hr with rfl | hr
    · exact h3
    · exact chn_lt t _ h5 r hr
theorem kindsR_take_le {l : List Rec} (j : Nat) : (kindsR (l.take j)).length ≤ (kindsR l).length := by
  have : kindsR l = kindsR (l.take j) ++ kindsR (l.drop j) := by
    unfold kindsR; rw [← List.flatMap_append, List.take_append_drop]
  rw [this]; simp
theorem s170 {lo : Nat} {b : List Int} {l : List Rec} {h : H} (hb : b.length = 19) (ho : okB b = true) (hl : l.length ≤ 1000000) (hr : (recsC l).2 = 0) (h0 : begR l = 0) : den cx lo 170 [bkv b, AM.vs .dead 3 (recs l)] h = some (.tup [(ofP b l).1.v, .i (ofP b l).2, .i 0], h) := by
  have hch := recsC_chn hr
  rw [h0] at hch
  have hlen := chn_len l 0 hch
  have hkk := chn_kinds l 0 hch
  have hmem := chn_mem hch
  have hltm := chn_lt l 0 hch
  have e80 := fun lo => s80 (lo := lo) (h := h) hb
  simp only [ho, if_true] at e80
  have e145 := fun lo => s145g (lo := lo) (l := l) (h := h) (by omega)
  simp only [hr] at e145
  have hbu : buildV cx 227 [(0, .agg (ints b))] = some (.agg (runC b mz 0)) := by
    obtain ⟨b0, b1, b2, b3, b4, b5, b6, b7, b8, b9, b10, b11, b12, b13, b14, b15, b16, b17, b18, rfl⟩ := len19 hb
    rfl
  have hp1 : cellsAt (h ++ [.cells (runC b mz 0)]) h.length = some (runC b mz 0) := by simp
  have hH := h_same hp1
  have e195 := fun lo' m k kind (hM : MB m) (hn : m.now < 40320) (hk : 0 ≤ kind ∧ kind < 4) (hl' : lo' ≤ h.length) => s195 (lo := lo') (p := h.length) (b := b) (m := m) (k := k) (kind := kind) (h := h ++ [.cells (runC b mz 0)]) hb ho hM hn hk (by simp) hl'
  have hcs : ∀ X, cellsAt (List.set (h ++ [O.cells (runC b mz 0)]) h.length (.cells X)) h.length = some X := fun X => cellsAt_set (by simp)
  obtain ⟨H0, hH0⟩ : ∃ H0, h ++ [.cells (runC b mz 0)] = H0 := ⟨_, rfl⟩
  rw [hH0] at hH
  simp only [hH0] at e195 hcs
  have l33 : ∀ m k, (14 ≤ (runC b m k).length - 19) = True := fun m k => eq_true (by rw [runC_len hb]; omega)
  obtain ⟨B, hBv, n19, t19, f19, _⟩ := bks hb
  have hBi : ints b = B := by have : V.agg (ints b) = .agg B := hBv; exact V.agg.inj this
  rw [hBi] at hbu
  obtain ⟨R, hR⟩ : ∃ R, ofP b l = R := ⟨_, rfl⟩
  refine den_pure (fn := Tryz.f170) (by rfl) (by rfl) (by rfl) (by rfl) (by simp [Tryz.f170]) (by simp) ?_
  rw [hBv] at e80 ⊢
  rw [hR]
  have hl0 : ∀ hq : 0 < l.length, (l[0]'hq).f = 0 := by
    intro hq
    cases l with
    | nil => simp at hq
    | cons r t => exact h0
  by_cases hq : 0 < l.length
  · have hl0 := hl0 hq
    simp (maxSteps := 2000000) (disch := first | omega | (simp; done) | (simp; omega) | assumption) [Tryz.f170, argsE, isC, boxV, boxO, fresh_no, List.filter_cons, setB, aggN, op_build, List.set, n19, t19, f19, e80, e145, hq, hbu, push, hH0, hl0, Rec.v, -bu227]
    obtain ⟨I, hI⟩ : ∃ I : Nat → List Ent → List (Nat × List V) → H → Prop, I = (fun n vs lb g => ∃ j : Nat, n + j = l.length ∧ vs = [.v (.i j)] ∧ lb = [(4, mz.cs), (2, B)] ∧ g = H0.set h.length (.cells (runC b ((kindsR (l.take j)).foldl (stP b) (mz, 0)).1 ((kindsR (l.take j)).foldl (stP b) (mz, 0)).2))) := ⟨_, rfl⟩
    refine Wp.loopQ I (n := l.length) (by rw [hI]; exact ⟨0, by simp, by simp, by simp [mz, Mtr.cs], by simpa [kindsR] using hH.symm⟩) ?_
    intro n vs lb g hi Q hQ; rw [hI] at hi; obtain ⟨j, hj, rfl, rfl, rfl⟩ := hi
    by_cases hlt : j < l.length
    · have hkl := kindsR_take_le (l := l) (j + 1)
      have hxk := hkk _ (List.getElem_mem hlt)
      have hxm := hmem _ (List.getElem_mem hlt)
      have hxl := hltm _ (List.getElem_mem hlt)
      have go : I (n - 1) [.v (.i ((j : Int) + 1))] [(4, mz.cs), (2, B)] (H0.set h.length (.cells (runC b ((kindsR (l.take j) ++ List.replicate (l[j].t - l[j].f).toNat l[j].k).foldl (stP b) (mz, 0)).1 ((kindsR (l.take j) ++ List.replicate (l[j].t - l[j].f).toNat l[j].k).foldl (stP b) (mz, 0)).2))) := by
        rw [hI]; exact ⟨j + 1, by omega, by simp, rfl, by rw [kindsR_take hlt]⟩
      clear hI hQ
      rw [kindsR_take hlt] at hkl
      obtain ⟨K, hK⟩ : ∃ K, kindsR (l.take j) = K := ⟨_, rfl⟩
      rw [hK] at hkl go ⊢
      obtain ⟨x, hx⟩ : ∃ x, l[j] = x := ⟨_, rfl⟩
      rw [hx] at hkl go hxk hxm hxl
      have hw : IntKind.i64.wrap (x.t - x.f) = x.t - x.f := wrap64 (by omega) (by omega)
      simp only [List.length_append, List.length_replicate] at hkl
      obtain ⟨M, hM⟩ : ∃ M, K.foldl (stP b) (mz, 0) = M := ⟨_, rfl⟩
      rw [hM]
      simp (maxSteps := 2000000) (disch := first | omega | (simp; done) | (simp; omega) | assumption) [isC, boxV, boxO, fresh_no, List.filter_cons, setB, aggN, op_build, List.set, hlt, recs, hx, Rec.v, hw, mz, Mtr.cs]
      obtain ⟨J, hJ⟩ : ∃ J : Nat → List Ent → List (Nat × List V) → H → Prop, J = (fun n vs lb g => ∃ i : Nat, n + i = (x.t - x.f).toNat ∧ vs = [.v (.i i)] ∧ lb = [(12, [.i x.k, .i x.f, .i x.t]), (4, mz.cs), (2, B)] ∧ g = H0.set h.length (.cells (runC b ((K ++ List.replicate i x.k).foldl (stP b) (mz, 0)).1 ((K ++ List.replicate i x.k).foldl (stP b) (mz, 0)).2))) := ⟨_, rfl⟩
      refine Wp.loopQ J (n := (x.t - x.f).toNat) (by rw [hJ]; exact ⟨0, by simp, by simp, by simp [mz, Mtr.cs], by simp [hM]⟩) ?_
      clear hM
      intro n2 vs lb g hi Q2 hQ2; rw [hJ] at hi; obtain ⟨i, hi, rfl, rfl, rfl⟩ := hi
      by_cases hlt2 : i < (x.t - x.f).toNat
      · have go2 : J (n2 - 1) [.v (.i ((i : Int) + 1))] [(12, [.i x.k, .i x.f, .i x.t]), (4, mz.cs), (2, B)] (H0.set h.length (.cells (runC b ((K ++ List.replicate (i + 1) x.k).foldl (stP b) (mz, 0)).1 ((K ++ List.replicate (i + 1) x.k).foldl (stP b) (mz, 0)).2))) := by
          rw [hJ]; exact ⟨i + 1, by omega, by simp, rfl, rfl⟩
        clear hJ go hQ2
        have hmb := fold_MB (b := b) (K ++ List.replicate i x.k) (mz, 0) MB_mz (by simp [mz]; omega)
        rw [show K ++ List.replicate (i + 1) x.k = (K ++ List.replicate i x.k) ++ [x.k] by rw [List.replicate_succ', List.append_assoc], List.foldl_append] at go2
        simp only [List.foldl_cons, List.foldl_nil] at go2
        have hnow : ((K ++ List.replicate i x.k).foldl (stP b) (mz, 0)).1.now < 40320 := by rw [hmb.2]; simp [mz]; omega
        obtain ⟨M, hM⟩ : ∃ M, (K ++ List.replicate i x.k).foldl (stP b) (mz, 0) = M := ⟨_, rfl⟩
        rw [hM] at hmb hnow go2 ⊢
        have e := fun lo' hl' => e195 lo' M.1 M.2 x.k hmb.1 hnow hxk hl'
        have hc : (i : Int) < x.t - x.f := by omega
        simp only [stP] at go2
        simp (maxSteps := 2000000) (disch := first | omega | (simp; done) | (simp; omega) | assumption) [isC, boxV, boxO, fresh_no, List.filter_cons, setB, aggN, op_build, List.set, wrap64, hc, e]
        exact ⟨n2 - 1, by omega, go2⟩
      · have hc : ¬ ((i : Int) < x.t - x.f) := by omega
        have hi' : (x.t - x.f).toNat = i := by omega
        rw [hi'] at go
        clear hJ
        obtain ⟨M, hM⟩ : ∃ M, (K ++ List.replicate i x.k).foldl (stP b) (mz, 0) = M := ⟨_, rfl⟩
        rw [hM] at go ⊢
        simp (maxSteps := 2000000) (disch := first | omega | (simp; done) | (simp; omega) | assumption) [hc]
        refine hQ2 _ _ ?_
        clear hQ2
        simp (maxSteps := 2000000) (disch := first | omega | (simp; done) | (simp; omega) | assumption) [wrap64]
        exact ⟨n - 1, by omega, go⟩
    · have hf : (kindsR (l.take j)).foldl (stP b) (mz, 0) = R := by rw [List.take_of_length_le (by omega)]; exact hR
      rw [hf]
      clear hI
      have hlt' : ¬ ((j : Int) < l.length) := by omega
      simp (maxSteps := 2000000) (disch := first | omega | (simp; done) | (simp; omega) | assumption) [hlt, hlt']
      refine hQ _ _ ?_
      clear hQ
      simp (maxSteps := 2000000) (disch := first | omega | (simp; done) | (simp; omega) | assumption) [isC, boxV, boxO, fresh_no, List.filter_cons, setB, aggN, op_build, List.set, hcs, rt33 hb, rg33 hb, l33, mz, Mtr.cs, Mtr.v, foot, Op.operands, opTmps, Cl1_tup, Cl1_agg, Cl1_vs]
      exact indep_of bf170_18 (by rfl)
  · simp (maxSteps := 2000000) (disch := first | omega | (simp; done) | (simp; omega) | assumption) [Tryz.f170, argsE, isC, boxV, boxO, fresh_no, List.filter_cons, setB, aggN, op_build, List.set, n19, t19, f19, e80, e145, hq, hbu, push, hH0, -bu227]
    obtain ⟨I, hI⟩ : ∃ I : Nat → List Ent → List (Nat × List V) → H → Prop, I = (fun n vs lb g => ∃ j : Nat, n + j = l.length ∧ vs = [.v (.i j)] ∧ lb = [(4, mz.cs), (2, B)] ∧ g = H0.set h.length (.cells (runC b ((kindsR (l.take j)).foldl (stP b) (mz, 0)).1 ((kindsR (l.take j)).foldl (stP b) (mz, 0)).2))) := ⟨_, rfl⟩
    refine Wp.loopQ I (n := l.length) (by rw [hI]; exact ⟨0, by simp, by simp, by simp [mz, Mtr.cs], by simpa [kindsR] using hH.symm⟩) ?_
    intro n vs lb g hi Q hQ; rw [hI] at hi; obtain ⟨j, hj, rfl, rfl, rfl⟩ := hi
    by_cases hlt : j < l.length
    · exact absurd hlt (by omega)
    · have hf : (kindsR (l.take j)).foldl (stP b) (mz, 0) = R := by rw [List.take_of_length_le (by omega)]; exact hR
      rw [hf]
      clear hI
      have hlt' : ¬ ((j : Int) < l.length) := by omega
      simp (maxSteps := 2000000) (disch := first | omega | (simp; done) | (simp; omega) | assumption) [hlt, hlt']
      refine hQ _ _ ?_
      clear hQ
      simp (maxSteps := 2000000) (disch := first | omega | (simp; done) | (simp; omega) | assumption) [isC, boxV, boxO, fresh_no, List.filter_cons, setB, aggN, op_build, List.set, hcs, rt33 hb, rg33 hb, l33, mz, Mtr.cs, Mtr.v, foot, Op.operands, opTmps, Cl1_tup, Cl1_agg, Cl1_vs]
      exact indep_of bf170_18 (by rfl)
end ZD
open Go Go.AM Go.Proofs Go.AM.Pl
set_option maxRecDepth 100000
set_option maxHeartbeats 4000000
namespace ZD
theorem pastC_beg {l : List Rec} (h : pastC l = 0) : begR l = 0 := by
  have h1 := pastC_recs h
  unfold pastC at h; rw [if_neg (by simpa using h1)] at h
  cases l with
  | nil => rfl
  | cons r t => simp only at h; split at h
                · assumption
                · simp at h
def metR (b : List Int) (l : List Rec) : Mtr × Int := if (ofP b l).2 = 0 then ((ofP b l).1, 0) else (mz, 16)
theorem s139 {lo : Nat} {b : List Int} {t : Trk} {h : H} (hb : b.length = 19) (ho : okB b = true) (hl : t.past.length ≤ 1000000) (hp : pastC t.past = 0) : den cx lo 139 [bkv b, t.v] h = some (.tup [(metR b t.past).1.v, .i (metR b t.past).2], h) := by
  have e80 := fun lo => s80 (lo := lo) (h := h) hb
  simp only [ho, if_true] at e80
  have e168 := fun lo => s168 (lo := lo) (l := t.past) (h := h) (by omega)
  simp only [hp] at e168
  have e170 := fun lo => s170 (lo := lo) (h := h) hb ho hl (pastC_recs hp) (pastC_beg hp)
  obtain ⟨B, hBv, n19, t19, f19, _⟩ := bks hb
  obtain ⟨a1, a2, a3, a4, a5, rs⟩ := t
  simp only at *
  unfold metR
  obtain ⟨⟨m, k⟩, hR⟩ : ∃ R, ofP b rs = R := ⟨_, rfl⟩
  rw [hR] at e170 ⊢
  simp only at e170 ⊢
  refine den_pure (fn := Tryz.f139) (by rfl) (by rfl) (by rfl) (by rfl) (by simp [Tryz.f139]) (by simp) ?_
  rw [hBv] at e80 e170 ⊢
  by_cases q : k = 0
  · rw [if_pos q]
    subst q
    simp only [Mtr.v, Mtr.cs] at e170 ⊢
    simp (maxSteps := 2000000) (disch := first | omega | (simp; done) | (simp; omega) | assumption) [Tryz.f139, argsE, isC, boxV, boxO, fresh_no, List.filter_cons, setB, aggN, op_build, List.set, n19, t19, f19, e80, e168, e170, Trk.v, Cl1_tup, Cl1_agg, Cl1_vs]
  · rw [if_neg q]
    simp only [Mtr.v, Mtr.cs] at e170 ⊢
    simp (maxSteps := 2000000) (disch := first | omega | (simp; done) | (simp; omega) | assumption) [Tryz.f139, argsE, isC, boxV, boxO, fresh_no, List.filter_cons, setB, aggN, op_build, List.set, n19, t19, f19, e80, e168, e170, Trk.v, Cl1_tup, Cl1_agg, Cl1_vs, q, mz]
structure Dep where
  bk : List Int
  ways : List (List Int)
  ords : List Ord
  trks : List Trk
def Dep.cs (d : Dep) : List V := ints d.bk ++ [AM.vs .dead 1 (rowsV d.ways), AM.vs .dead 5 (ordsV d.ords), AM.vs .dead 6 (trksV d.trks)]
def Dep.v (d : Dep) : V := .agg d.cs
theorem fgL_app' (a b : List V) : fgL (a ++ b) = fgL a ++ fgL b := by induction a with
  | nil => rfl
  | cons x t ih => simp [fgL, ih]
@[simp] theorem fgL_dep (d : Dep) : fgL d.cs = d.cs := by
  simp only [Dep.cs, fgL_app', fgL_ints]; simp [fgL]
@[simp] theorem fg_dep (d : Dep) : fg d.v = d.v := by simp [Dep.v, fg]
theorem deps {d : Dep} (hb : d.bk.length = 19) : ∃ D, d.v = .agg D ∧ (22 ≤ D.length) = True ∧ (19 ≤ D.length) = True ∧ D.take 22 = D ∧ (V.agg (D.take 19)) = bkv d.bk ∧ fgL D = D ∧ D[19]? = some (AM.vs .dead 1 (rowsV d.ways)) ∧ D[20]? = some (AM.vs .dead 5 (ordsV d.ords)) ∧ D[21]? = some (AM.vs .dead 6 (trksV d.trks)) := by
  have hi : (ints d.bk).length = 19 := by simp [ints, hb]
  refine ⟨d.cs, rfl, eq_true (by simp [Dep.cs, hi]), eq_true (by simp [Dep.cs, hi]), List.take_of_length_le (by simp [Dep.cs, hi]), ?_, by simp, ?_, ?_, ?_⟩
  · simp only [Dep.cs, bkv]; rw [List.take_append_of_le_length (by omega), List.take_of_length_le (by omega)]
  all_goals simp only [Dep.cs]; rw [List.getElem?_append_right (by omega), hi]; rfl
def trkM (b : List Int) (j : Nat) (t : Trk) : Option (Int × Int) := if (ofP b t.past).2 = 0 then none else some (j, 16)
def mtrsV (l : List Mtr) : List V := l.map Mtr.v
@[simp] theorem fgL_mtrsV (l : List Mtr) : fgL (mtrsV l) = mtrsV l := fgL_mapE _ (fun _ => rfl) l
@[simp] theorem mtrsV_len (l : List Mtr) : (mtrsV l).length = l.length := by simp [mtrsV]
@[simp] theorem clo_mtrsV (k : Nat) (l : List Mtr) : (mtrsV l).all (clo (k + 2)) = true := by simp [mtrsV, Mtr.v, Mtr.cs]
theorem mtrs_snoc {l : List Mtr} {x : Mtr} : mtrsV (l ++ [x]) = mtrsV l ++ [Mtr.v x] := by simp [mtrsV]
def metsR (b : List Int) (l : List Trk) : V := match scan (trkM b) 0 l with
  | some e => .tup [AM.vs .dead 14 (mtrsV []), .i e.1, .i e.2]
  | none => .tup [AM.vs .dead 14 (mtrsV (l.map fun (t : Trk) => (ofP b t.past).1)), .i 0, .i 0]
theorem s84 {lo : Nat} {d : Dep} {h : H} (hb : d.bk.length = 19) (ho : okB d.bk = true) (hn : d.trks.length ≤ 1000000) (hl : ∀ t ∈ d.trks, t.past.length ≤ 1000000 ∧ pastC t.past = 0) : den cx lo 84 [d.v] h = some (metsR d.bk d.trks, h) := by
  obtain ⟨D, hDv, n22, n19, t22, t19, fD, _, _, d21⟩ := deps hb
  obtain ⟨B, hBv, _, _, f19, _⟩ := bks hb
  rw [hBv] at t19
  obtain ⟨b, w, os, l⟩ := d
  simp only at *
  obtain ⟨v, hv⟩ : ∃ v, scan (trkM b) 0 l = v := ⟨_, rfl⟩
  unfold metsR
  rw [hv]
  obtain ⟨R, hR⟩ : ∃ R, (match v with
    | some e => V.tup [AM.vs .dead 14 (mtrsV []), .i e.1, .i e.2]
    | none => .tup [AM.vs .dead 14 (mtrsV (l.map fun (t : Trk) => (ofP b t.past).1)), .i 0, .i 0]) = R := ⟨_, rfl⟩
  rw [hR]
  refine den_pure (fn := Tryz.f84) (by rfl) (by rfl) (by rfl) (by rfl) (by simp [Tryz.f84]) (by simp) ?_
  rw [hDv]
  simp (maxSteps := 2000000) (disch := first | omega | (simp; done) | (simp; omega) | assumption) [Tryz.f84, argsE, isC, boxV, boxO, fresh_no, List.filter_cons, setB, aggN, op_build, List.set, n22, t22, fD, d21]
  obtain ⟨I, hI⟩ : ∃ I : Nat → List Ent → List (Nat × List V) → H → Prop, I = (fun n vs lb g => ∃ (j : Nat) (t : Tk), n + j = l.length ∧ Apd h.length g t ∧ h.length ≤ g.length ∧ scan (trkM b) j (l.drop j) = v ∧ vs = [.v (.i j), .v (AM.vs t 14 (mtrsV ((l.take j).map fun (t : Trk) => (ofP b t.past).1)))] ∧ lb = [(1, D)]) := ⟨_, rfl⟩
  refine Wp.loopQ I (n := l.length) (by rw [hI]; exact ⟨0, .nil, by simp, by simp, by simp, hv, by simp [mtrsV], by simp⟩) ?_
  intro n vs lb g hi Q hQ; rw [hI] at hi; obtain ⟨j, t, hj, ha, hg, hs, rfl, rfl⟩ := hi
  by_cases hlt : j < l.length
  · have hx1 := hl _ (List.getElem_mem hlt)
    have go : ∀ g' t', Apd h.length g' t' → h.length ≤ g'.length → scan (trkM b) (j + 1) (l.drop (j + 1)) = v → I (n - 1) [.v (.i ((j : Int) + 1)), .v (AM.vs t' 14 (mtrsV ((l.take j).map fun (t : Trk) => (ofP b t.past).1) ++ [(ofP b l[j].past).1.v]))] [(1, D)] g' := by
      intro g' t' h1 h2 h3; rw [hI]; exact ⟨j + 1, t', by omega, h1, h2, h3, by rw [List.take_succ_eq_append_getElem hlt, List.map_append, List.map_cons, List.map_nil, mtrs_snoc]; simp, rfl⟩
    clear hI
    have hol : (mtrsV ((l.take j).map fun (t : Trk) => (ofP b t.past).1)).length = j := by simp; omega
    obtain ⟨O1, hO⟩ : ∃ O1, mtrsV ((l.take j).map fun (t : Trk) => (ofP b t.past).1) = O1 := ⟨_, rfl⟩
    rw [hO] at go hol ⊢
    clear hO
    have e139 := fun lo => s139 (lo := lo) (b := b) (t := l[j]) (h := g) hb ho hx1.1 hx1.2
    obtain ⟨x, hx⟩ : ∃ x, l[j] = x := ⟨_, rfl⟩
    rw [hx] at go
    simp only [hx] at e139
    rw [hBv] at e139
    obtain ⟨a1, a2, a3, a4, a5, rs⟩ := x
    simp only [Trk.v] at e139
    unfold metR at e139
    by_cases q : (ofP b rs).2 = 0
    · rw [if_pos q] at e139
      have go := go (apH g t) (.tip g.length) (Apd_ap hg) (by simp; omega) (scan_go (f := trkM b) hlt (by rw [hx]; simp [trkM, q]) hs)
      clear hs hR hQ
      obtain ⟨m, hm⟩ : ∃ m, (ofP b rs).1 = m := ⟨_, rfl⟩
      rw [hm] at go e139
      simp only [Mtr.v, Mtr.cs] at go e139
      simp (maxSteps := 2000000) (disch := first | omega | (simp; done) | (simp; omega) | assumption) [isC, boxV, boxO, fresh_no, List.filter_cons, setB, aggN, op_build, List.set, hlt, n19, t19, f19, trksV, hx, Trk.v, e139, wrap64, elemsV, hol]
      exact ⟨n - 1, by omega, go⟩
    · rw [if_neg q] at e139
      have e0 := scan_hit (f := trkM b) (e := (j, 16)) hlt (by rw [hx]; simp [trkM, q]) hs
      subst e0
      simp only at hR
      subst hR
      simp only [Mtr.v, Mtr.cs, mz] at e139
      clear hs go
      simp (maxSteps := 2000000) (disch := first | omega | (simp; done) | (simp; omega) | assumption) [isC, boxV, boxO, fresh_no, List.filter_cons, setB, aggN, op_build, List.set, hlt, n19, t19, f19, trksV, hx, Trk.v, e139, wrap64, elemsV, hol]
      refine hQ _ _ ?_
      simp (maxSteps := 2000000) (disch := first | omega | (simp; done) | (simp; omega) | assumption) [Cl1_tup, Cl1_agg, Cl1_vs, mtrsV]
      done
  · have e0 := scan_end (by omega) hs
    subst e0
    simp only at hR
    subst hR
    rw [List.take_of_length_le (by omega)]
    clear hI hs
    have hlt' : ¬ ((j : Int) < l.length) := by omega
    simp (maxSteps := 2000000) (disch := first | omega | (simp; done) | (simp; omega) | assumption) [hlt, hlt']
    refine hQ _ _ ?_
    simp (maxSteps := 2000000) (disch := first | omega | (simp; done) | (simp; omega) | assumption) [Cl1_tup, Cl1_agg, Cl1_vs]
    done
end ZD
open Go Go.AM Go.Proofs Go.AM.Pl
set_option maxRecDepth 100000
set_option maxHeartbeats 4000000
namespace ZD
def trkT : Option (Int × Int) → Int × Int × Int
  | some e => (5, e.1, e.2)
  | none => (0, 0, 0)
/-- What is wrong first with a depot. -/
def depC (d : Dep) : Int × Int × Int :=
  if okB d.bk = false then (1, 0, 14)
  else if (chkW d.ways).2.2 ≠ 0 then (2, (chkW d.ways).1, (chkW d.ways).2.2)
  else if (ordsC d.ords d.ways.length).2 ≠ 0 then (3, (ordsC d.ords d.ways.length).1, (ordsC d.ords d.ways.length).2)
  else if (trksC d.trks d.ways.length).2 ≠ 0 then (4, (trksC d.trks d.ways.length).1, (trksC d.trks d.ways.length).2)
  else trkT (scan (trkM d.bk) 0 d.trks)
/-- A depot that is not too large. -/
def Dep.sm (d : Dep) : Prop := d.bk.length = 19 ∧ d.ways.length ≤ 1000000 ∧ (∀ l ∈ d.ways, l.length ≤ 1000000) ∧ d.ords.length ≤ 1000000 ∧ (∀ o ∈ d.ords, o.os.length ≤ 1000000) ∧ d.trks.length ≤ 1000000 ∧ (∀ t ∈ d.trks, t.past.length ≤ 1000000)
theorem trkF_ne {l : List Trk} {n : Int} {j : Nat} {r : Trk} {e : Int × Int} (h : trkF l n j r = some e) : e.2 ≠ 0 := by
  unfold trkF at h
  split at h
  · cases h; assumption
  split at h
  · cases h; simp
  split at h
  · cases h; simp
  · simp at h
theorem trksC_past {l : List Trk} {n : Int} (h : (trksC l n).2 = 0) : ∀ t ∈ l, pastC t.past = 0 := by
  unfold trksC at h
  split at h
  · simp at h
  cases hs : scan (trkF l n) 0 l with
  | some e =>
    obtain ⟨i, x, h1, _⟩ := scan_some l 0 hs
    rw [hs] at h; exact absurd h (trkF_ne h1)
  | none =>
    intro t ht
    obtain ⟨i, hi, rfl⟩ := List.mem_iff_getElem.1 ht
    have := scan_all l 0 hs i hi
    unfold trkF at this
    split at this
    · simp at this
    rename_i q
    simp only [ne_eq, Decidable.not_not] at q
    unfold trkC at q
    split at q
    · simp at q
    split at q
    · simp at q
    split at q
    · simp at q
    split at q
    · exact q
    · rename_i z; simpa using z
theorem s27 {lo : Nat} {d : Dep} {h : H} (hs : d.sm) : den cx lo 27 [d.v] h = some (tup3 (depC d), h) := by
  obtain ⟨hb, h1, h2, h3, h4, h5, h6⟩ := hs
  have e80 := fun lo => s80 (lo := lo) (h := h) hb
  have e81 := fun lo => s81 (lo := lo) (w := d.ways) (h := h) (by omega) (fun l hl => by have := h2 l hl; omega)
  have e82 := fun lo => s82 (lo := lo) (l := d.ords) (n := d.ways.length) (h := h) (by omega) (fun l hl => by have := h4 l hl; omega)
  have e83 := fun lo => s83 (lo := lo) (l := d.trks) (n := d.ways.length) (h := h) (by omega) (fun l hl => by have := h6 l hl; omega)
  obtain ⟨D, hDv, n22, n19, t22, t19, fD, d19, d20, d21⟩ := deps hb
  obtain ⟨B, hBv, _, _, f19, _⟩ := bks hb
  have e84 := fun (ho : okB d.bk = true) (q : (trksC d.trks d.ways.length).2 = 0) lo => s84 (lo := lo) (h := h) hb ho h5 (fun t ht => ⟨h6 t ht, trksC_past q t ht⟩)
  rw [hDv] at e84
  rw [hBv] at t19
  rw [hBv] at e80
  have t19' : D.take 19 = B := V.agg.inj t19
  have hbu : (aggN 19 D) = some (.agg B) := by simp [aggN, n19, t19]
  unfold tup3 depC
  refine den_pure (fn := Tryz.f27) (by rfl) (by rfl) (by rfl) (by rfl) (by simp [Tryz.f27]) (by simp) ?_
  rw [hDv]
  cases q1 : okB d.bk with
  | false =>
    simp only [q1] at e80
    simp (maxSteps := 2000000) (disch := first | omega | (simp; done) | (simp; omega) | assumption) [Tryz.f27, argsE, isC, boxV, boxO, fresh_no, List.filter_cons, setB, aggN, op_build, List.set, n22, n19, t22, t19', fD, f19, d19, d20, d21, e80, Cl1_tup, Cl1_agg, Cl1_vs]
    done
  | true =>
    simp only [q1, if_true] at e80
    rw [if_neg (by simp)]
    unfold tup3 at e81
    by_cases q2 : (chkW d.ways).2.2 = 0
    case neg =>
      rw [if_pos q2]
      simp (maxSteps := 2000000) (disch := first | omega | (simp; done) | (simp; omega) | assumption) [Tryz.f27, argsE, isC, boxV, boxO, fresh_no, List.filter_cons, setB, aggN, op_build, List.set, n22, n19, t22, t19', fD, f19, d19, d20, d21, e80, e81, q2, Cl1_tup, Cl1_agg, Cl1_vs]
      done
    rw [if_neg (by simpa using q2)]
    by_cases q3 : (ordsC d.ords d.ways.length).2 = 0
    case neg =>
      rw [if_pos q3]
      simp (maxSteps := 2000000) (disch := first | omega | (simp; done) | (simp; omega) | assumption) [Tryz.f27, argsE, isC, boxV, boxO, fresh_no, List.filter_cons, setB, aggN, op_build, List.set, n22, n19, t22, t19', fD, f19, d19, d20, d21, e80, e81, q2, e82, q3, Cl1_tup, Cl1_agg, Cl1_vs]
      done
    rw [if_neg (by simpa using q3)]
    by_cases q4 : (trksC d.trks d.ways.length).2 = 0
    case neg =>
      rw [if_pos q4]
      simp (maxSteps := 2000000) (disch := first | omega | (simp; done) | (simp; omega) | assumption) [Tryz.f27, argsE, isC, boxV, boxO, fresh_no, List.filter_cons, setB, aggN, op_build, List.set, n22, n19, t22, t19', fD, f19, d19, d20, d21, e80, e81, q2, e82, q3, e83, q4, Cl1_tup, Cl1_agg, Cl1_vs]
      done
    rw [if_neg (by simpa using q4)]
    have e84 := e84 q1 q4
    unfold metsR at e84
    cases hv : scan (trkM d.bk) 0 d.trks with
    | some e =>
      rw [hv] at e84
      simp only at e84
      have he : e.2 = 16 := by
        obtain ⟨i, x, hx, _⟩ := scan_some _ _ hv
        unfold trkM at hx; split at hx
        · simp at hx
        · cases hx; rfl
      rw [he] at e84
      simp (maxSteps := 2000000) (disch := first | omega | (simp; done) | (simp; omega) | assumption) [Tryz.f27, argsE, isC, boxV, boxO, fresh_no, List.filter_cons, setB, aggN, op_build, List.set, n22, n19, t22, t19', fD, f19, d19, d20, d21, e80, e81, q2, e82, q3, e83, q4, e84, he, trkT, Cl1_tup, Cl1_agg, Cl1_vs]
      done
    | none =>
      rw [hv] at e84
      simp only at e84
      simp (maxSteps := 2000000) (disch := first | omega | (simp; done) | (simp; omega) | assumption) [Tryz.f27, argsE, isC, boxV, boxO, fresh_no, List.filter_cons, setB, aggN, op_build, List.set, n22, n19, t22, t19', fD, f19, d19, d20, d21, e80, e81, q2, e82, q3, e83, q4, e84, trkT, Cl1_tup, Cl1_agg, Cl1_vs]
      done
end ZD

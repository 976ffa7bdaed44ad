/- What the reader makes of ways, orders, trucks, the end; its check. No condition. -/
import Derived.Test.YtieenbjncimikaaGreatDoorBQC
set_option linter.all false
open Go Go.AM Go.Proofs Go.AM.Pl
set_option maxRecDepth 100000
set_option maxHeartbeats 4000000
namespace ZD
theorem s73 {lo p : Nat} {g : H} {A : V} {x : Rdr} (z : Rsz x) (hl : lo ≤ p) (h : RdS lo g p A x) : ∃ g', den cx lo 73 [.ptr p 0] g = some (.tup [], g') ∧ RdS lo g' p A (endX x) ∧ g.length ≤ g'.length := by
  obtain ⟨t1, t2, t3, t4, W, O, T, hp, hT, hW, hO, hTr⟩ := h
  have hcs : ∀ X, cellsAt (g.set p (.cells X)) p = some X := fun X => cellsAt_set (cellsAt_lt hp)
  obtain ⟨P, hP⟩ : ∃ P : H → Prop, P = fun g' => RdS lo g' p A (endX x) ∧ g.length ≤ g'.length := ⟨_, rfl⟩
  suffices hh : ∃ g', den cx lo 73 [.ptr p 0] g = some (.tup [], g') ∧ P g' by rw [hP] at hh; exact hh
  have hPi : ∀ x', endX x = x' → x'.d = x.d → P (g.set p (.cells (rcOf x' A (AM.vs t1 1 W) (AM.vs t2 5 O) (AM.vs t3 6 T) (AM.vs t4 1 (ints x'.truck))).cs)) := by
    intro x' hx h1; rw [hP, hx]; exact ⟨RdS.keep hp hT hW hO hTr (by rw [h1]) (by rw [h1]) (by rw [h1]), by simp⟩
  clear hP
  have e124 := fun lo' (hl' : lo' ≤ p) => s124 (lo := lo') (f := endW) (n := 0) z.bk hp hl' rfl z.i.1 (by omega) z.w9
  unfold endX at hPi
  rw [lineW_eq] at hPi
  obtain ⟨C, hC⟩ : ∃ C, rcOf x A (AM.vs t1 1 W) (AM.vs t2 5 O) (AM.vs t3 6 T) (AM.vs t4 1 (ints x.truck)) = C := ⟨_, rfl⟩
  have hbk : C.bk.length = 19 := by rw [← hC]; exact z.bk
  have hci : C.i = x.i := by rw [← hC]; rfl
  have hce : C.e = x.e := by rw [← hC]; rfl
  have hcl : C.ls = AM.vs .dead 1 (strs x.ls) := by rw [← hC]; rfl
  have hg0 : ∀ i e, ({ C with i := i, e := e } : RC).cs[0]? = some (AM.vs .dead 1 (strs x.ls)) := fun i e => by rw [rc_g0]; exact congrArg some hcl
  have hz := z.i; have hz2 := z.tx.2
  have hup : ∀ i e, rcOf { x with i := i, e := e } A (AM.vs t1 1 W) (AM.vs t2 5 O) (AM.vs t3 6 T) (AM.vs t4 1 (ints x.truck)) = { C with i := i, e := e } := fun i e => by rw [← hC]; rfl
  rw [hC] at e124 hp
  rw [← hce, ← hci] at hPi
  have hlw : (lineW x.ls C.i C.e endW 0).2 = 0 → _ := lineW_ok
  obtain ⟨⟨ws, e'⟩, hL⟩ : ∃ L, lineW x.ls C.i C.e endW 0 = L := ⟨_, rfl⟩
  rw [hL] at e124 hPi hlw
  simp only [endW] at e124
  simp only at hPi hlw
  refine den_openE (fn := Tryz.f73) (by rfl) (by rfl) (by rfl) (by rfl) (by simp [Tryz.f73]) ?_
  by_cases q : e' = 0
  case neg =>
    have hPi := hPi { x with i := C.i, e := e' } (by rw [if_neg q]) rfl
    rw [hup] at hPi
    simp only [lineV, if_neg q] at e124
    simp (maxSteps := 2000000) (disch := first | omega | (simp; done) | (simp; omega) | assumption) [Tryz.f73, argsE, isC, boxV, boxO, fresh_no, List.filter_cons, setB, aggN, op_build, List.set, e124, hl]
    exact hPi
  subst q
  obtain ⟨hx0, hx1, _, _⟩ := hlw rfl
  simp only [lineV, if_true] at e124 hPi
  by_cases q1 : C.i + 1 < (x.ls.length : Int)
  · have hPi := hPi { x with i := C.i + 1, e := 7 } (by rw [if_pos q1]) rfl
    rw [hup] at hPi
    have e125 := fun lo' (hl' : lo' ≤ p) => s125 (lo := lo') (n := 7) (x := { C with i := C.i + 1, e := 0 }) (g := g.set p (.cells { C with i := C.i + 1, e := 0 }.cs)) hbk (hcs _) hl'
    simp only [if_true, List.set_set] at e125
    simp (maxSteps := 2000000) (disch := first | omega | (simp; done) | (simp; omega) | assumption) [Tryz.f73, argsE, isC, boxV, boxO, fresh_no, List.filter_cons, setB, aggN, op_build, List.set, e124, hl, hcs, rc_le, hbk, hg0, rc_g2, rc_s2, wrap64, q1, e125, foot, Op.operands, opTmps]
    exact ⟨indep_of bf73_3 (by rfl), hPi⟩
  · have hPi := hPi { x with i := C.i + 1, e := C.e } (by rw [if_neg q1]) rfl
    rw [hup, hx0] at hPi
    simp (maxSteps := 2000000) (disch := first | omega | (simp; done) | (simp; omega) | assumption) [Tryz.f73, argsE, isC, boxV, boxO, fresh_no, List.filter_cons, setB, aggN, op_build, List.set, e124, hl, hcs, rc_le, hbk, hg0, rc_g2, rc_s2, wrap64, q1, foot, Op.operands, opTmps]
    exact ⟨indep_of bf73_3 (by rfl), hPi⟩
theorem s74 {lo p : Nat} {g : H} {A : V} {x : Rdr} (z : Rsz x) (hs : x.d.sm) (hw : x.e = 0 → 0 < x.d.ways.length ∧ x.truck.length = x.d.trks.length ∧ -1000000 ≤ x.rows ∧ x.rows ≤ 1000000 ∧ -1000000 ≤ x.fr ∧ x.fr ≤ 1000000) (hl : lo ≤ p) (h : RdS lo g p A x) : ∃ g', den cx lo 74 [.ptr p 0] g = some (.tup [], g') ∧ RdS lo g' p A (checkX x) ∧ g.length ≤ g'.length := by
  obtain ⟨t1, t2, t3, t4, W, O, T, hp, hT, hW, hO, hTr⟩ := h
  have hcs : ∀ X, cellsAt (g.set p (.cells X)) p = some X := fun X => cellsAt_set (cellsAt_lt hp)
  have hsame := h_same hp
  obtain ⟨P, hP⟩ : ∃ P : H → Prop, P = fun g' => RdS lo g' p A (checkX x) ∧ g.length ≤ g'.length := ⟨_, rfl⟩
  suffices hh : ∃ g', den cx lo 74 [.ptr p 0] g = some (.tup [], g') ∧ P g' by rw [hP] at hh; exact hh
  have hPi : ∀ x', checkX x = x' → x'.d = x.d → P (g.set p (.cells (rcOf x' A (AM.vs t1 1 W) (AM.vs t2 5 O) (AM.vs t3 6 T) (AM.vs t4 1 (ints x'.truck))).cs)) := by
    intro x' hx h1; rw [hP, hx]; exact ⟨RdS.keep hp hT hW hO hTr (by rw [h1]) (by rw [h1]) (by rw [h1]), by simp⟩
  clear hP
  have e27 := fun lo g => s27 (lo := lo) (h := g) hs
  have hdep : fgL (ints x.d.bk ++ [AM.vs t1 1 W, AM.vs t2 5 O, AM.vs t3 6 T]) = x.d.cs := by
    simp only [fgL_app', fgL_ints]
    simp [fgL, hW, hO, hTr, Dep.cs]
  obtain ⟨C, hC⟩ : ∃ C, rcOf x A (AM.vs t1 1 W) (AM.vs t2 5 O) (AM.vs t3 6 T) (AM.vs t4 1 (ints x.truck)) = C := ⟨_, rfl⟩
  have hbk : C.bk.length = 19 := by rw [← hC]; exact z.bk
  have hce : C.e = x.e := by rw [← hC]; rfl
  have hcd := rc_dep hbk
  have hcd2 : fgL ((C.cs.drop 4).take 22) = x.d.cs := by rw [hcd, ← hdep, ← hC]; rfl
  have hK : C.K = AM.vs t4 1 (ints x.truck) := by rw [← hC]; rfl
  have hrb : C.book = x.book := by rw [← hC]; rfl
  have hrr : C.rows = x.rows := by rw [← hC]; rfl
  have hrf : C.fr = x.fr := by rw [← hC]; rfl
  have hup : ∀ i e, rcOf { x with i := i, e := e } A (AM.vs t1 1 W) (AM.vs t2 5 O) (AM.vs t3 6 T) (AM.vs t4 1 (ints x.truck)) = { C with i := i, e := e } := fun i e => by rw [← hC]; rfl
  rw [hC] at hp hsame
  have g29 := rc_g29 hbk
  rw [hK] at g29
  have e125 := fun lo' n (hl' : lo' ≤ p) => s125 (lo := lo') (n := n) hbk hp hl'
  unfold checkX at hPi
  obtain ⟨D, hD⟩ : ∃ D, x.d.cs = D := ⟨_, rfl⟩
  have e27 : ∀ lo g, den cx lo 27 [.agg D] g = some (tup3 (depC x.d), g) := by rw [← hD]; exact e27
  rw [hD] at hcd2
  refine den_openE (fn := Tryz.f74) (by rfl) (by rfl) (by rfl) (by rfl) (by simp [Tryz.f74]) ?_
  by_cases q : C.e = 0
  case neg =>
    have hPi := hPi x (by rw [if_neg (by rw [← hce]; exact q)]) rfl
    rw [hC, hsame] at hPi
    simp (maxSteps := 2000000) (disch := first | omega | (simp; done) | (simp; omega) | assumption) [Tryz.f74, argsE, isC, boxV, boxO, fresh_no, List.filter_cons, setB, aggN, op_build, List.set, hp, hl, q, rc_g3]
    exact hPi
  have hxe : x.e = 0 := by rw [← hce]; exact q
  rw [if_pos hxe] at hPi
  simp only [q, if_true] at e125
  have hag : (22 ≤ C.cs.length - 4) = True := eq_true (by rw [rdc_len hbk]; omega)
  by_cases q2 : (depC x.d).2.2 = 0
  · rw [if_pos q2] at hPi
    have hPi := hPi x rfl rfl
    rw [hC] at hPi
    have he0 : ({ C with e := 0 } : RC) = C := by rw [← q]
    simp only [tup3, q2] at e27
    have e125 := fun lo' (hl' : lo' ≤ p) => e125 lo' 0 hl'
    simp only [he0] at e125
    simp (maxSteps := 2000000) (disch := first | omega | (simp; done) | (simp; omega) | assumption) [Tryz.f74, argsE, isC, boxV, boxO, fresh_no, List.filter_cons, setB, aggN, op_build, List.set, hp, hl, q, rc_g3, hag, hcd2, e27, e125]
    exact hPi
  obtain ⟨w1, w2, w3⟩ := hw hxe
  have hix := depC_ix q2 w1
  rw [if_neg q2] at hPi
  obtain ⟨⟨c1, c2, c3⟩, hc⟩ : ∃ c, depC x.d = c := ⟨_, rfl⟩
  rw [hc] at hPi hix q2 e27
  simp only at hPi hix q2
  simp only [tup3] at e27
  have hgs := fun i (hi : i ≤ 30) => rc_le (x := { C with e := c3 }) hbk hi
  have k26 : ({ C with e := c3 } : RC).cs[26]? = some (.i x.book) := by rw [rc_g26 (x := { C with e := c3 }) hbk]; exact congrArg (fun z => some (V.i z)) hrb
  have k27 : ({ C with e := c3 } : RC).cs[27]? = some (.i x.rows) := by rw [rc_g27 (x := { C with e := c3 }) hbk]; exact congrArg (fun z => some (V.i z)) hrr
  have k28 : ({ C with e := c3 } : RC).cs[28]? = some (.i x.fr) := by rw [rc_g28 (x := { C with e := c3 }) hbk]; exact congrArg (fun z => some (V.i z)) hrf
  have k29 : ({ C with e := c3 } : RC).cs[29]? = some (AM.vs t4 1 (ints x.truck)) := by rw [rc_g29 (x := { C with e := c3 }) hbk]; exact congrArg some hK
  have k2 := fun n => rc_s2 (x := { C with e := c3 }) (n := n)
  have hPi := fun (i : Int) (hi : (if c1 = 1 then x.book else if c1 = 2 then x.rows + c2 else if c1 = 3 then x.fr + c2 else x.truck.getD c2.toNat 0) = i) => hPi { x with e := c3, i := i } (by rw [hi]) rfl
  simp only [hup] at hPi
  rcases hix with h1 | ⟨h1, i, h2, h3⟩ | ⟨h1, i, h2, h3⟩ | ⟨h1, i, h2, h3⟩
  · subst h1
    have hPi := hPi x.book (by simp)
    simp (maxSteps := 2000000) (disch := first | omega | (simp; done) | (simp; omega) | assumption) [Tryz.f74, argsE, isC, boxV, boxO, fresh_no, List.filter_cons, setB, aggN, op_build, List.set, hp, hl, q, rc_g3, hag, hcd2, e27, e125, q2, hcs, hgs, k26, k2]
    exact hPi
  · subst h1
    have hPi := hPi (x.rows + c2) (by simp)
    have := hs.2.1
    simp (maxSteps := 2000000) (disch := first | omega | (simp; done) | (simp; omega) | assumption) [Tryz.f74, argsE, isC, boxV, boxO, fresh_no, List.filter_cons, setB, aggN, op_build, List.set, hp, hl, q, rc_g3, hag, hcd2, e27, e125, q2, hcs, hgs, k27, k2, wrap64]
    exact hPi
  · subst h1
    have hPi := hPi (x.fr + c2) (by simp)
    have := hs.2.2.2.1
    simp (maxSteps := 2000000) (disch := first | omega | (simp; done) | (simp; omega) | assumption) [Tryz.f74, argsE, isC, boxV, boxO, fresh_no, List.filter_cons, setB, aggN, op_build, List.set, hp, hl, q, rc_g3, hag, hcd2, e27, e125, q2, hcs, hgs, k28, k2, wrap64]
    exact hPi
  · have n1 : ¬ c1 = 1 := by omega
    have n2 : ¬ c1 = 2 := by omega
    have n3 : ¬ c1 = 3 := by omega
    have hPi := hPi (x.truck.getD c2.toNat 0) (by simp [n1, n2, n3])
    subst h2
    have hit : i < x.truck.length := by omega
    have hge : x.truck.getD (i : Int).toNat 0 = x.truck[i] := by simp [List.getD, hit]
    rw [hge] at hPi
    simp (maxSteps := 2000000) (disch := first | omega | (simp; done) | (simp; omega) | assumption) [Tryz.f74, argsE, isC, boxV, boxO, fresh_no, List.filter_cons, setB, aggN, op_build, List.set, hp, hl, q, rc_g3, hag, hcd2, e27, e125, q2, hcs, hgs, k29, k2, n1, n2, n3, hit, ints]
    exact hPi
end ZD
open Go Go.AM Go.Proofs Go.AM.Pl
set_option maxRecDepth 100000
set_option maxHeartbeats 4000000
namespace ZD
theorem rowX_sz {x : Rdr} {f : Ln} {n : Int} (hn : 0 ≤ n) (z : Rsz x) : Rsz (rowX x f n).2 ∧ (rowX x f n).2.d = x.d ∧ (rowX x f n).2.truck = x.truck ∧ (rowX x f n).2.fr = x.fr ∧ (rowX x f n).2.rows = x.rows := by
  rw [rowE_eq]
  refine ⟨⟨z.tx, ?_, z.bk⟩, rfl, rfl, rfl, rfl⟩
  have hz := z.i
  simp only
  split
  · rename_i q
    obtain ⟨_, b, _⟩ := rowE_ok hn q
    omega
  · exact hz
theorem s70 {lo p : Nat} {g : H} {A : V} {x : Rdr} (z : Rsz x) (hl : lo ≤ p) (hlg : lo ≤ g.length) (hwz : x.d.ways.length ≤ 100) (h : RdS lo g p A x) : ∃ g', den cx lo 70 [.ptr p 0] g = some (.tup [], g') ∧ RdS lo g' p A (waysX x) ∧ g.length ≤ g'.length := by
  have h0 := h
  obtain ⟨t1, t2, t3, t4, W, O, T, hp, hT, hW, hO, hTr⟩ := h
  have hcs : ∀ X, cellsAt (g.set p (.cells X)) p = some X := fun X => cellsAt_set (cellsAt_lt hp)
  obtain ⟨P, hP⟩ : ∃ P : H → Prop, P = fun g' => RdS lo g' p A (waysX x) ∧ g.length ≤ g'.length := ⟨_, rfl⟩
  suffices hh : ∃ g', den cx lo 70 [.ptr p 0] g = some (.tup [], g') ∧ P g' by rw [hP] at hh; exact hh
  have hPg : ∀ x' g', waysX x = x' → RdS lo g' p A x' → g.length ≤ g'.length → P g' := by intro x' g' hx a b; rw [hP, hx]; exact ⟨a, b⟩
  have hPi : ∀ x', waysX x = x' → x'.d = x.d → P (g.set p (.cells (rcOf x' A (AM.vs t1 1 W) (AM.vs t2 5 O) (AM.vs t3 6 T) (AM.vs t4 1 (ints x'.truck))).cs)) := by
    intro x' hx h1; rw [hP, hx]; exact ⟨RdS.keep hp hT hW hO hTr (by rw [h1]) (by rw [h1]) (by rw [h1]), by simp⟩
  clear hP
  obtain ⟨C, hC⟩ : ∃ C, rcOf x A (AM.vs t1 1 W) (AM.vs t2 5 O) (AM.vs t3 6 T) (AM.vs t4 1 (ints x.truck)) = C := ⟨_, rfl⟩
  have hbk : C.bk.length = 19 := by rw [← hC]; exact z.bk
  have hci : C.i = x.i := by rw [← hC]; rfl
  have hce : C.e = x.e := by rw [← hC]; rfl
  have hz := z.i; have hz2 := z.tx.2
  have hup : ∀ i e, rcOf { x with i := i, e := e } A (AM.vs t1 1 W) (AM.vs t2 5 O) (AM.vs t3 6 T) (AM.vs t4 1 (ints x.truck)) = { C with i := i, e := e } := fun i e => by rw [← hC]; rfl
  have hup2 : ∀ i e r, rcOf { x with i := i, e := e, rows := r } A (AM.vs t1 1 W) (AM.vs t2 5 O) (AM.vs t3 6 T) (AM.vs t4 1 (ints x.truck)) = { C with i := i, e := e, rows := r } := fun i e r => by rw [← hC]; rfl
  have e126 := fun lo' (hl' : lo' ≤ p) => s126 (lo := lo') (x := C) (ls := x.ls) (f := placesW) (n := 1) (g := g) hbk (by rw [← hC]; exact hp) hl' (by rw [← hC]; rfl) (by rw [hci]; omega) (by omega) z.w7
  rw [hC] at hp
  have hro : (rowE x.ls C.i C.e placesW 1).2 = 0 → _ := rowE_ok (by decide)
  have hbd : ∀ m ∈ (rowE x.ls C.i C.e placesW 1).1, 0 ≤ m ∧ m ≤ M9 := by
    unfold rowE; split
    · split
      · exact allR_bound _
      · simp
    · simp
  unfold waysX at hPi hPg
  rw [rowE_eq, ← hci, ← hce] at hPi hPg
  obtain ⟨⟨l, e'⟩, hL⟩ : ∃ L, rowE x.ls C.i C.e placesW 1 = L := ⟨_, rfl⟩
  rw [hL] at hPi hPg hro e126 hbd
  simp only at hPi hPg hro hbd
  simp only [placesW] at e126
  refine den_openE (fn := Tryz.f70) (by rfl) (by rfl) (by rfl) (by rfl) (by simp [Tryz.f70]) ?_
  by_cases q : e' = 0
  case neg =>
    rw [if_neg q] at hPi
    have hPi := hPi { x with i := C.i, e := e' } (by rw [if_neg q]) rfl
    rw [hup] at hPi
    simp only [rowVv, if_neg q] at e126
    simp (maxSteps := 2000000) (disch := first | omega | (simp; done) | (simp; omega) | assumption) [Tryz.f70, argsE, isC, boxV, boxO, fresh_no, List.filter_cons, setB, aggN, op_build, List.set, hp, hl, e126]
    exact hPi
  subst q
  obtain ⟨hx0, hx1, hx2⟩ := hro rfl
  simp only [if_true] at hPi hPg
  obtain ⟨n, rfl⟩ := List.length_eq_one_iff.1 (show l.length = 1 by omega)
  have hnb := hbd n (by simp)
  simp only [List.getD_cons_zero] at hPi hPg
  simp only [rowVv, if_true, ints, List.map_cons, List.map_nil] at e126
  have e125 := fun lo' n (hl' : lo' ≤ p) => s125 (lo := lo') (n := n) (x := { C with i := C.i, e := 0 }) (g := g.set p (.cells { C with i := C.i, e := 0 }.cs)) hbk (hcs _) hl'
  simp only [if_true, List.set_set] at e125
  by_cases q1 : n < 1
  · have hPi := hPi { x with i := C.i, e := 4 } (by rw [if_pos (.inl q1)]) rfl
    rw [hup] at hPi
    have he : C.i + 1 - 1 = C.i := by omega
    simp (maxSteps := 2000000) (disch := first | omega | (simp; done) | (simp; omega) | assumption) [Tryz.f70, argsE, isC, boxV, boxO, fresh_no, List.filter_cons, setB, aggN, op_build, List.set, hp, hl, e126, q1, hcs, rc_le, hbk, rc_g2, rc_s2, wrap64, he, e125]
    exact hPi
  by_cases q2 : 200 < n
  · have hPi := hPi { x with i := C.i, e := 4 } (by rw [if_pos (.inr q2)]) rfl
    rw [hup] at hPi
    have he : C.i + 1 - 1 = C.i := by omega
    simp (maxSteps := 2000000) (disch := first | omega | (simp; done) | (simp; omega) | assumption) [Tryz.f70, argsE, isC, boxV, boxO, fresh_no, List.filter_cons, setB, aggN, op_build, List.set, hp, hl, e126, q1, q2, hcs, rc_le, hbk, rc_g2, rc_s2, wrap64, he, e125]
    exact hPi
  clear hPi e125
  rw [if_neg (by omega)] at hPg
  obtain ⟨m0, rfl⟩ : ∃ m0 : Nat, n = m0 := ⟨n.toNat, by omega⟩
  simp only [Int.toNat_natCast] at hPg
  obtain ⟨XF, hXF⟩ : ∃ XF, waysGo (m0 : Int) m0 { x with i := C.i + 1, e := 0, rows := C.i + 1 } = XF := ⟨_, rfl⟩
  have hst : RdS lo (g.set p (.cells { C with i := C.i + 1, e := 0, rows := C.i + 1 }.cs)) p A { x with i := C.i + 1, e := 0, rows := C.i + 1 } := by
    have := RdS.keep (lo := lo) (A := A) (x := x) (x' := { x with i := C.i + 1, e := 0, rows := C.i + 1 }) (by rw [hC]; exact hp) hT hW hO hTr rfl rfl rfl
    rw [hup2] at this; exact this
  have hPg := fun g' => hPg XF g' hXF
  simp (maxSteps := 2000000) (disch := first | omega | (simp; done) | (simp; omega) | assumption) [Tryz.f70, argsE, isC, boxV, boxO, fresh_no, List.filter_cons, setB, aggN, op_build, List.set, hp, hl, e126, q1, q2, hcs, rc_le, hbk, rc_g2, rc_s2, wrap64, rc_s27]
  clear e126 hp hT hW hO hTr hbd h0 hro hL
  obtain ⟨I, hI⟩ : ∃ I : Nat → List Ent → List (Nat × List V) → H → Prop, I = (fun k vs lb g' => ∃ x' : Rdr, k ≤ m0 ∧ RdS lo g' p A x' ∧ g.length ≤ g'.length ∧ Rsz x' ∧ x'.ls = x.ls ∧ x'.d.ways.length + k ≤ 400 ∧ waysGo (m0 : Int) k x' = XF ∧ vs = [.v (.i ((m0 : Int) - k))] ∧ lb = []) := ⟨_, rfl⟩
  refine Wp.loopQ I (n := m0) (by rw [hI]; exact ⟨{ x with i := C.i + 1, e := 0, rows := C.i + 1 }, Nat.le_refl _, hst, by simp, ⟨z.tx, by simp only; omega, z.bk⟩, rfl, by simp only; omega, hXF, by simp, by simp⟩) ?_
  clear hst hXF
  intro k vs lb g1 hi Q hQ; rw [hI] at hi; obtain ⟨y, hk, hs, hg, zy, hls, hwy, hgo, rfl, rfl⟩ := hi
  cases k with
  | zero =>
    simp only [waysGo] at hgo
    subst hgo
    have hf := hPg g1 hs hg
    clear hI
    simp (maxSteps := 2000000) (disch := first | omega | (simp; done) | (simp; omega) | assumption) []
    refine hQ _ _ ?_
    simp (maxSteps := 2000000) (disch := first | omega | (simp; done) | (simp; omega) | assumption) [hf]
  | succ k =>
    have hlt : (m0 : Int) - ((k : Int) + 1) < m0 := by omega
    simp only [waysGo] at hgo
    have hsz := rowX_sz (f := rowW) (n := (m0 : Int)) (by omega) zy
    rw [rowE_eq] at hgo hsz
    simp only at hgo hsz
    obtain ⟨t1, t2, t3, t4, W, O, T, hp, hT, hW, hO, hTr⟩ := hs
    obtain ⟨C, hC⟩ : ∃ C, rcOf y A (AM.vs t1 1 W) (AM.vs t2 5 O) (AM.vs t3 6 T) (AM.vs t4 1 (ints y.truck)) = C := ⟨_, rfl⟩
    have hbk : C.bk.length = 19 := by rw [← hC]; exact zy.bk
    have hci : C.i = y.i := by rw [← hC]; rfl
    have hce : C.e = y.e := by rw [← hC]; rfl
    have hCW : C.W = AM.vs t1 1 W := by rw [← hC]; rfl
    have hz := zy.i; have hz2 := zy.tx.2
    have hup : ∀ i e d W', rcOf { y with i := i, e := e, d := { y.d with ways := d } } A W' (AM.vs t2 5 O) (AM.vs t3 6 T) (AM.vs t4 1 (ints y.truck)) = { C with i := i, e := e, W := W' } := fun i e d W' => by rw [← hC]; rfl
    have hls' := congrArg List.length hls
    have e126 := fun lo' (hl' : lo' ≤ p) => s126 (lo := lo') (x := C) (ls := y.ls) (f := rowW) (n := (m0 : Int)) (g := g1) hbk (by rw [← hC]; exact hp) hl' (by rw [← hC]; rfl) (by rw [hci]; omega) (by omega) zy.w7
    rw [hC] at hp
    have hcs : ∀ X, cellsAt (g1.set p (.cells X)) p = some X := fun X => cellsAt_set (cellsAt_lt hp)
    have hWl : W.length = y.d.ways.length := by
      have := congrArg List.length hW
      rw [fgL_len] at this; simpa [rowsV] using this
    rw [← hci, ← hce] at hgo hsz
    obtain ⟨⟨r, e'⟩, hL⟩ : ∃ L, rowE y.ls C.i C.e rowW (m0 : Int) = L := ⟨_, rfl⟩
    rw [hL] at hgo e126 hsz
    simp only at hgo hsz
    obtain ⟨i', hi'⟩ : ∃ i', (if e' = 0 then C.i + 1 else C.i) = i' := ⟨_, rfl⟩
    rw [hi'] at hgo hsz
    simp only [hi'] at e126
    have hra : e' ≠ 0 → r = [] := by
      intro q
      have h1 := congrArg Prod.fst hL
      have h2 := congrArg Prod.snd hL
      unfold rowE at h1 h2
      split at h1
      · rename_i a
        rw [if_pos a] at h2
        split at h1
        · rename_i b; rw [if_pos b] at h2; exact absurd h2.symm q
        · exact h1.symm
      · exact h1.symm
    -- behind the row
    have hT1 := hT.updc (o' := .cells { C with i := i', e := e' }.cs) hp
    have ha1 := hT1.get (i := 0) rfl
    have hp1 := ap_cells ha1 (hcs { C with i := i', e := e' }.cs)
    have hpl : p < (apH (g1.set p (.cells { C with i := i', e := e' }.cs)) t1).length := by have := cellsAt_lt hp; simp; omega
    have hT2 := (hT1.ap (i := 0) rfl (by simp; omega)).updc (o' := .cells { C with i := i', e := e', W := AM.vs (.tip (g1.set p (.cells { C with i := i', e := e' }.cs)).length) 1 (W ++ [if e' = 0 then AM.vs .dead 1 (ints r) else AM.vs .nil 0 []]) }.cs) hp1
    have hfg : fgL (W ++ [if e' = 0 then AM.vs .dead 1 (ints r) else AM.vs .nil 0 []]) = rowsV (y.d.ways ++ [r]) := by
      rw [fgL_app', hW]
      by_cases q : e' = 0
      · rw [if_pos q]; simp [rowsV, rowV, fgL]
      · rw [if_neg q, hra q]; simp [rowsV, rowV, fgL, ints]
    have hst : RdS lo ((apH (g1.set p (.cells { C with i := i', e := e' }.cs)) t1).set p (.cells { C with i := i', e := e', W := AM.vs (.tip (g1.set p (.cells { C with i := i', e := e' }.cs)).length) 1 (W ++ [if e' = 0 then AM.vs .dead 1 (ints r) else AM.vs .nil 0 []]) }.cs)) p A { y with i := i', e := e', d := { y.d with ways := y.d.ways ++ [r] } } := by
      refine ⟨_, t2, t3, t4, _, O, T, ?_, hT2, hfg, hO, hTr⟩
      rw [cellsAt_set hpl]
      exact congrArg (fun c => some (RC.cs c)) (hup i' e' (y.d.ways ++ [r]) _).symm
    obtain ⟨g2, hg2⟩ : ∃ g2, (apH (g1.set p (.cells { C with i := i', e := e' }.cs)) t1).set p (.cells { C with i := i', e := e', W := AM.vs (.tip (g1.set p (.cells { C with i := i', e := e' }.cs)).length) 1 (W ++ [if e' = 0 then AM.vs .dead 1 (ints r) else AM.vs .nil 0 []]) }.cs) = g2 := ⟨_, rfl⟩
    have hgl : g1.length ≤ g2.length := by rw [← hg2]; simp
    rw [hg2] at hst
    have go : I k [.v (.i ((m0 : Int) - (k : Int)))] [] g2 := by
      rw [hI]
      exact ⟨_, by omega, hst, by omega, ⟨zy.tx, hsz.1.i, hsz.1.bk⟩, hls, by simp; omega, hgo, by simp, rfl⟩
    clear hI hQ hgo hst hT2 hT1 hT hfg hPg hsz hgl
    subst hg2
    have hj : (m0 : Int) - ((k : Int) + 1) + 1 = (m0 : Int) - (k : Int) := by omega
    have h23 := rc_g23 (x := { C with i := i', e := e' }) hbk
    have h23' : ({ C with i := i', e := e' } : RC).cs[23]? = some (AM.vs t1 1 W) := by rw [h23]; exact congrArg some hCW
    have s23 := fun v => rc_s23 (x := { C with i := i', e := e' }) (v := v) hbk
    simp only [rowW] at e126
    by_cases q : e' = 0
    · simp only [if_pos q, List.length_set] at go
      simp only [rowVv, if_pos q] at e126
      simp (maxSteps := 2000000) (disch := first | omega | (simp; done) | (simp; omega) | assumption) [isC, boxV, boxO, fresh_no, List.filter_cons, setB, aggN, op_build, List.set, hp, hl, e126, hlt, hcs, rc_le, hbk, h23', s23, wrap64, hj, elemsV, hp1]
      exact ⟨k, by omega, go⟩
    · simp only [if_neg q, List.length_set] at go
      simp only [rowVv, if_neg q] at e126
      simp (maxSteps := 2000000) (disch := first | omega | (simp; done) | (simp; omega) | assumption) [isC, boxV, boxO, fresh_no, List.filter_cons, setB, aggN, op_build, List.set, hp, hl, e126, hlt, hcs, rc_le, hbk, h23', s23, wrap64, hj, elemsV, hp1]
      exact ⟨k, by omega, go⟩
end ZD
open Go Go.AM Go.Proofs Go.AM.Pl
set_option maxRecDepth 100000
set_option maxHeartbeats 4000000
namespace ZD
theorem nextX_some {y : Rdr} {f : Ln} (hf : f ≠ []) (h : nextX y = f) : y.e = 0 ∧ y.i < y.ls.length ∧ (wrds y.cur).headD [] = f := by
  unfold nextX at h
  split at h
  · rename_i q; exact ⟨q.1, q.2, h⟩
  · exact absurd h.symm hf
theorem lineW_next {y : Rdr} {f : Ln} (hf : f ≠ []) (h : nextX y = f) : lineW y.ls y.i y.e f (-1) = (wdsR y.cur, 0) := by
  obtain ⟨h1, h2, h3⟩ := nextX_some hf h
  unfold lineW
  rw [if_pos h1, if_pos h2, if_pos]
  · rfl
  · rw [wrds_eq] at h3
    refine ⟨?_, h3, .inl (by omega)⟩
    intro z
    unfold Rdr.cur at h3
    rw [z] at h3; exact hf h3.symm
theorem cur_small {y : Rdr} (z : Rsz y) : y.cur.length ≤ 900000 := by
  unfold Rdr.cur
  simp only [List.getD]
  cases h : y.ls[y.i.toNat]? with
  | none => simp
  | some l => simpa using z.tx.1 l (List.mem_of_getElem? h)
@[simp] theorem sh71 : shuts cx 71 = false := by rfl
theorem s71 {lo p : Nat} {g : H} {A : V} {x : Rdr} (z : Rsz x) (hl : lo ≤ p) (hlg : lo ≤ g.length) (hoz : (x.d.ords.length : Int) ≤ x.i) (h : RdS lo g p A x) : ∃ g', den cx lo 71 [.ptr p 0] g = some (.tup [], g') ∧ RdS lo g' p A (ordersX x) ∧ g.length ≤ g'.length := by
  obtain ⟨t1, t2, t3, t4, W, O, T, hp, hT, hW, hO, hTr⟩ := h
  obtain ⟨P, hP⟩ : ∃ P : H → Prop, P = fun g' => RdS lo g' p A (ordersX x) ∧ g.length ≤ g'.length := ⟨_, rfl⟩
  suffices hh : ∃ g', den cx lo 71 [.ptr p 0] g = some (.tup [], g') ∧ P g' by rw [hP] at hh; exact hh
  obtain ⟨XF, hXF⟩ : ∃ XF, ordsGo x.left { x with fr := x.i } = XF := ⟨_, rfl⟩
  have hPg : ∀ g', RdS lo g' p A XF → g.length ≤ g'.length → P g' := by intro g' a b; rw [hP]; unfold ordersX; rw [hXF]; exact ⟨a, b⟩
  clear hP
  have hst := RdS.keep (lo := lo) (A := A) (x := x) (x' := { x with fr := x.i }) hp hT hW hO hTr rfl rfl rfl
  obtain ⟨C, hC⟩ : ∃ C, rcOf x A (AM.vs t1 1 W) (AM.vs t2 5 O) (AM.vs t3 6 T) (AM.vs t4 1 (ints x.truck)) = C := ⟨_, rfl⟩
  have hbk : C.bk.length = 19 := by rw [← hC]; exact z.bk
  have hci : C.i = x.i := by rw [← hC]; rfl
  have hup : rcOf { x with fr := x.i } A (AM.vs t1 1 W) (AM.vs t2 5 O) (AM.vs t3 6 T) (AM.vs t4 1 (ints x.truck)) = { C with fr := C.i } := by rw [← hC]; rfl
  rw [hup] at hst
  rw [hC] at hp
  have hz := z.i; have hz2 := z.tx.2
  refine den_openE (fn := Tryz.f71) (by rfl) (by rfl) (by rfl) (by rfl) (by simp [Tryz.f71]) ?_
  simp (maxSteps := 2000000) (disch := first | omega | (simp; done) | (simp; omega) | assumption) [Tryz.f71, argsE, isC, boxV, boxO, fresh_no, List.filter_cons, setB, aggN, op_build, List.set, hp, hl, rc_le, hbk, rc_g2, rc_s28]
  clear hp hT hW hO hTr
  obtain ⟨I, hI⟩ : ∃ I : Nat → List Ent → List (Nat × List V) → H → Prop, I = (fun k vs lb g' => ∃ x' : Rdr, RdS lo g' p A x' ∧ g.length ≤ g'.length ∧ Rsz x' ∧ x'.ls = x.ls ∧ x.ls.length ≤ x'.i.toNat + k ∧ (x'.d.ords.length : Int) ≤ x'.i ∧ ordsGo k x' = XF ∧ vs = [] ∧ lb = []) := ⟨_, rfl⟩
  refine Wp.loopQ I (n := x.left) (by rw [hI]; exact ⟨{ x with fr := x.i }, hst, by simp, ⟨z.tx, z.i, z.bk⟩, rfl, by unfold Rdr.left; simp only; omega, hoz, hXF, by simp, by simp⟩) ?_
  clear hst hXF
  intro k vs lb g1 hi Q hQ; rw [hI] at hi; obtain ⟨y, hs, hg, zy, hls, hfu, hoy, hgo, rfl, rfl⟩ := hi
  have hs0 := hs
  obtain ⟨t1, t2, t3, t4, W, O, T, hp, hT, hW, hO, hTr⟩ := hs
  obtain ⟨C, hC⟩ : ∃ C, rcOf y A (AM.vs t1 1 W) (AM.vs t2 5 O) (AM.vs t3 6 T) (AM.vs t4 1 (ints y.truck)) = C := ⟨_, rfl⟩
  have hbk : C.bk.length = 19 := by rw [← hC]; exact zy.bk
  have hci : C.i = y.i := by rw [← hC]; rfl
  have hce : C.e = y.e := by rw [← hC]; rfl
  have hCO : C.O = AM.vs t2 5 O := by rw [← hC]; rfl
  have hz := zy.i; have hz2 := zy.tx.2
  have hls' := congrArg List.length hls
  have hcur := cur_small zy
  have e127 : ∀ lo', den cx lo' 127 [.ptr p 0] g1 = some (.t (nextX y), g1) := fun lo' => by
    have := s127 (lo := lo') hp (ls := y.ls) rfl zy.i.1 zy.w9
    exact this
  by_cases q : nextX y = ordW
  case neg =>
    have hgo' : y = XF := by
      cases k with
      | zero => exact hgo
      | succ k => simp only [ordsGo, if_neg q] at hgo; exact hgo
    subst hgo'
    have hf := hPg g1 hs0 hg
    simp only [ordW] at q
    clear hI
    simp (maxSteps := 2000000) (disch := first | omega | (simp; done) | (simp; omega) | assumption) [e127, q]
    refine hQ _ _ ?_
    simp (maxSteps := 2000000) (disch := first | omega | (simp; done) | (simp; omega) | assumption) [hf]
  obtain ⟨hy1, hy2, hy3⟩ := nextX_some (by decide) q
  have hlw := lineW_next (by decide) q
  cases k with
  | zero => omega
  | succ k =>
    simp only [ordsGo, if_pos q] at hgo
    have e124 := fun lo' (hl' : lo' ≤ p) => s124 (lo := lo') (f := ordW) (n := -1) zy.bk hp hl' (ls := y.ls) rfl zy.i.1 (by omega) zy.w9
    have hre : ({ (rcOf y A (AM.vs t1 1 W) (AM.vs t2 5 O) (AM.vs t3 6 T) (AM.vs t4 1 (ints y.truck))) with e := 0 } : RC) = rcOf y A (AM.vs t1 1 W) (AM.vs t2 5 O) (AM.vs t3 6 T) (AM.vs t4 1 (ints y.truck)) := by
      rw [← hy1]; rfl
    have hlw2 : lineW y.ls (rcOf y A (AM.vs t1 1 W) (AM.vs t2 5 O) (AM.vs t3 6 T) (AM.vs t4 1 (ints y.truck))).i (rcOf y A (AM.vs t1 1 W) (AM.vs t2 5 O) (AM.vs t3 6 T) (AM.vs t4 1 (ints y.truck))).e ordW (-1) = (wdsR y.cur, 0) := hlw
    rw [hlw2] at e124
    simp only at e124
    rw [hre] at e124
    have hsame := h_same hp
    rw [hsame] at e124
    simp only [lineV, if_true] at e124
    have hwl := wdsR_len y.cur
    have hww := wdsR_wl y.cur
    have e91 := fun lo g => s91 (lo := lo) (h := g) (ws := wdsR y.cur) (by omega) (fun x hx => by have := hww x hx; omega)
    rw [← wrds_eq] at e91
    have hup : ∀ i e os O', rcOf { y with i := i, e := e, d := { y.d with ords := os } } A (AM.vs t1 1 W) O' (AM.vs t3 6 T) (AM.vs t4 1 (ints y.truck)) = { C with i := i, e := e, O := O' } := fun i e os O' => by rw [← hC]; rfl
    rw [hC] at hp hsame
    have hcs : ∀ X, cellsAt (g1.set p (.cells X)) p = some X := fun X => cellsAt_set (cellsAt_lt hp)
    have e125 := fun lo' n (hl' : lo' ≤ p) => s125 (lo := lo') (n := n) (x := C) hbk hp hl'
    have hC0 : C.e = 0 := by rw [hce]; exact hy1
    simp only [hC0, if_true] at e125
    obtain ⟨⟨ws, hws⟩, hwr⟩ : ∃ ws : { w // w = wdsR y.cur }, True := ⟨⟨_, rfl⟩, trivial⟩
    simp only [← hws] at e124 e91
    obtain ⟨R, hR⟩ : ∃ R, ordR (wrds y.cur) = R := ⟨_, rfl⟩
    rw [hR] at hgo e91
    simp only [ordV] at e91
    simp only [ordW] at e124
    have hOl : O.length = y.d.ords.length := by
      have := congrArg List.length hO
      rw [fgL_len] at this; simpa [ordsV] using this
    by_cases qe : OrdR.e R = 0
    case neg =>
      rw [if_neg qe] at hgo
      have hst := RdS.keep (lo := lo) (A := A) (x := y) (x' := { y with e := OrdR.e R }) (by rw [hC]; exact hp) hT hW hO hTr rfl rfl rfl
      have hu := hup y.i (OrdR.e R) y.d.ords (AM.vs t2 5 O)
      have hu2 : ({ C with i := y.i, e := OrdR.e R, O := AM.vs t2 5 O } : RC) = { C with e := OrdR.e R } := by rw [← hci, ← hCO]
      rw [hu2] at hu
      have hst : RdS lo (g1.set p (.cells { C with e := OrdR.e R }.cs)) p A { y with e := OrdR.e R } := by rw [← hu]; exact hst
      rw [hgo] at hst
      have hf := hPg _ hst (by simp; omega)
      simp only [ordW] at q
      clear hI hgo hst
      obtain ⟨e', he'⟩ : ∃ e', OrdR.e R = e' := ⟨_, rfl⟩
      rw [he'] at e91 hf qe
      obtain ⟨⟨o1, o2, o3, o4, os⟩, ho⟩ : ∃ o, OrdR.o R = o := ⟨_, rfl⟩
      rw [ho] at e91
      simp only [Ord.v, Ord.cs] at e91
      simp (maxSteps := 2000000) (disch := first | omega | (simp; done) | (simp; omega) | assumption) [e127, q, isC, boxV, boxO, fresh_no, List.filter_cons, setB, aggN, op_build, List.set, hl, e124, e91, e125, qe]
      refine hQ _ _ ?_
      simp (maxSteps := 2000000) (disch := first | omega | (simp; done) | (simp; omega) | assumption) [hf]
    rw [if_pos qe] at hgo
    have hCe : ({ C with e := 0 } : RC) = C := by rw [← hC0]
    have e125 := fun lo' (hl' : lo' ≤ p) => e125 lo' 0 hl'
    simp only [hCe, hsame] at e125
    rw [qe] at e91
    have ha1 := hT.get (i := 1) rfl
    have hp1 := ap_cells ha1 hp
    have hpl : p < (apH g1 t2).length := by have := cellsAt_lt hp; simp; omega
    have hT2 := (hT.ap (i := 1) rfl (by omega)).updc (o' := .cells { C with i := C.i + 1, O := AM.vs (.tip g1.length) 5 (O ++ [(OrdR.o R).v]) }.cs) hp1
    have hfg : fgL (O ++ [(OrdR.o R).v]) = ordsV (y.d.ords ++ [OrdR.o R]) := by rw [fgL_app', hO]; simp [ordsV, fgL]
    have hst : RdS lo ((apH g1 t2).set p (.cells { C with i := C.i + 1, O := AM.vs (.tip g1.length) 5 (O ++ [(OrdR.o R).v]) }.cs)) p A { y with i := C.i + 1, d := { y.d with ords := y.d.ords ++ [OrdR.o R] } } := by
      refine ⟨t1, _, t3, t4, W, _, T, ?_, hT2, hW, hfg, hTr⟩
      rw [cellsAt_set hpl]
      have := hup (C.i + 1) y.e (y.d.ords ++ [OrdR.o R]) (AM.vs (.tip g1.length) 5 (O ++ [(OrdR.o R).v]))
      have hu2 : ({ C with i := C.i + 1, e := y.e, O := AM.vs (.tip g1.length) 5 (O ++ [(OrdR.o R).v]) } : RC) = { C with i := C.i + 1, O := AM.vs (.tip g1.length) 5 (O ++ [(OrdR.o R).v]) } := by rw [← hce]
      rw [hu2] at this
      exact congrArg (fun c => some (RC.cs c)) this.symm
    obtain ⟨g2, hg2⟩ : ∃ g2, (apH g1 t2).set p (.cells { C with i := C.i + 1, O := AM.vs (.tip g1.length) 5 (O ++ [(OrdR.o R).v]) }.cs) = g2 := ⟨_, rfl⟩
    have hgl : g1.length ≤ g2.length := by rw [← hg2]; simp
    rw [hg2] at hst
    rw [← hci] at hgo
    have go : I k [] [] g2 := by
      rw [hI]
      exact ⟨_, hst, by omega, ⟨zy.tx, by simp only; omega, zy.bk⟩, hls, by simp only; omega, by simp; omega, hgo, rfl, rfl⟩
    clear hI hQ hgo hst hT2 hT hfg hPg hgl
    subst hg2
    have h24 : C.cs[24]? = some (AM.vs t2 5 O) := by rw [rc_g24 hbk, hCO]
    have hge : ∀ O', ({ C with O := O' } : RC).cs[2]? = some (.i C.i) := fun O' => rfl
    have s24 := fun v => rc_s24 (x := C) (v := v) hbk
    obtain ⟨⟨o1, o2, o3, o4, os⟩, ho⟩ : ∃ o, OrdR.o R = o := ⟨_, rfl⟩
    rw [ho] at e91 go
    simp only [Ord.v, Ord.cs] at e91 go
    simp only [ordW] at q
    have hpl' : p < g1.length + 1 := by have := cellsAt_lt hp; omega
    have hcs2 : ∀ X, cellsAt ((apH g1 t2).set p (.cells X)) p = some X := fun X => cellsAt_set hpl
    simp (maxSteps := 2000000) (disch := first | omega | (simp; done) | (simp; omega) | assumption) [e127, q, isC, boxV, boxO, fresh_no, List.filter_cons, setB, aggN, op_build, List.set, hl, e124, e91, e125, hp, rc_le, hbk, h24, s24, wrap64, elemsV, hp1, hcs2, hge, rc_s2, foot, Op.operands, opTmps, indep_of bf71_5]
    exact ⟨indep_of bf71_5 (by rfl), k, by omega, go⟩
end ZD
open Go Go.AM Go.Proofs Go.AM.Pl
set_option maxRecDepth 100000
set_option maxHeartbeats 4000000
namespace ZD
/-- A record as it is handed back. -/
def recY (w : List Ln) : Rec × Int :=
  match w with
  | [_, a, b] => if (kndL a).2 = true then (⟨(kndL a).1, (spanR b).1, (spanR b).2.1⟩, (spanR b).2.2) else (⟨0, 0, 0⟩, 2)
  | _ => (⟨0, 0, 0⟩, 7)
theorem recY_eq (w : List Ln) : (recY w).2 = (recW3 w).2 ∧ ((recW3 w).2 = 0 → (recY w).1 = (recW3 w).1) := by
  match w with
  | [x, a, b] =>
    simp only [recY, recW3]
    by_cases h1 : (kndL a).2 = true
    · by_cases h2 : (spanR b).2.2 = 0
      · simp [h1, h2]
      · simp [h1, h2]
    · simp [h1]
  | [] => simp [recY, recW3]
  | [_] => simp [recY, recW3]
  | [_, _] => simp [recY, recW3]
  | _ :: _ :: _ :: _ :: _ => simp [recY, recW3]
theorem lineW_past {y : Rdr} {f : Ln} {n : Int} (hn : 0 ≤ n) (hf : f ≠ []) (h : nextX y = f) : lineW y.ls y.i y.e f n = if ((wdsR y.cur).length : Int) = n + 1 then (wdsR y.cur, 0) else ([], 7) := by
  obtain ⟨h1, h2, h3⟩ := nextX_some hf h
  unfold lineW
  rw [if_pos h1, if_pos h2]
  rw [wrds_eq] at h3
  have hne : wdsR y.cur ≠ [] := by intro z; rw [z] at h3; exact hf h3.symm
  by_cases q : ((wdsR y.cur).length : Int) = n + 1
  · rw [if_pos q, if_pos ⟨hne, h3, .inr q⟩]; rfl
  · rw [if_neg q, if_neg (fun z => z.2.2.elim (fun a => by omega) q)]
@[simp] theorem sh128 : shuts cx 128 = false := by rfl
theorem s128 {lo p : Nat} {g : H} {A W O T K : V} {y : Rdr} (zy : Rsz y) (hl : lo ≤ p) (hp : cellsAt g p = some (rcOf y A W O T K).cs) (h : nextX y = pastW) :
    den cx lo 128 [.ptr p 0] g = some (.tup [(recY (wrds y.cur)).1.v, .i (recY (wrds y.cur)).2], g.set p (.cells (rcOf { y with e := if (wdsR y.cur).length = 3 then 0 else 7 } A W O T K).cs)) := by
  obtain ⟨hy1, hy2, hy3⟩ := nextX_some (by decide) h
  have hlw := lineW_past (n := 2) (by decide) (by decide) h
  have e124 := fun lo' (hl' : lo' ≤ p) => s124 (lo := lo') (f := pastW) (n := 2) zy.bk hp hl' (ls := y.ls) rfl zy.i.1 (by omega) zy.w9
  have hlw2 : lineW y.ls (rcOf y A W O T K).i (rcOf y A W O T K).e pastW 2 = _ := hlw
  rw [hlw2] at e124
  have hcs : ∀ X, cellsAt (g.set p (.cells X)) p = some X := fun X => cellsAt_set (cellsAt_lt hp)
  have hup : ∀ e, ({ rcOf y A W O T K with e := e } : RC) = rcOf { y with e := e } A W O T K := fun _ => rfl
  simp only [hup] at e124
  have hww := wdsR_wl y.cur
  have hcur := cur_small zy
  rw [wrds_eq]
  obtain ⟨ws, hws⟩ : ∃ ws, wdsR y.cur = ws := ⟨_, rfl⟩
  rw [hws] at e124 hww ⊢
  clear hlw hlw2 hy3
  refine den_open (fn := Tryz.f128) (by rfl) (by rfl) (by rfl) (by rfl) (by simp [Tryz.f128]) ?_
  by_cases q : ws.length = 3
  case neg =>
    have hr : recY (ws.map (·.2)) = (⟨0, 0, 0⟩, 7) := by
      unfold recY; split
      · rename_i a b c he
        have := congrArg List.length he
        simp at this; exact absurd this q
      · rfl
    rw [if_neg (show ¬ ((ws.length : Int) = 2 + 1) by omega)] at e124
    simp only [lineV, show ¬ ((7 : Int) = 0) by decide, if_false, pastW] at e124
    rw [hr, if_neg q]
    have hC : ∀ x : Rdr, (rcOf x A W O T K).bk = x.d.bk := fun _ => rfl
    have h3 : (rcOf { y with e := 7 } A W O T K).cs[3]? = some (.i 7) := rfl
    obtain ⟨C, hCC⟩ : ∃ C, rcOf { y with e := 7 } A W O T K = C := ⟨_, rfl⟩
    rw [hCC] at e124 h3 ⊢
    simp (maxSteps := 2000000) (disch := first | omega | (simp; done) | (simp; omega) | assumption) [Tryz.f128, argsE, isC, boxV, boxO, fresh_no, List.filter_cons, setB, aggN, op_build, List.set, hl, e124, hcs, h3, Rec.v, foot, Op.operands, opTmps]
    exact indep_of bf128_3 (by rfl)
  rw [if_pos (show ((ws.length : Int) = 2 + 1) by omega)] at e124
  simp only [lineV, if_true, pastW] at e124
  rw [if_pos q]
  match ws, q with
  | [w0, w1, w2], _ =>
    have hw1 := hww w1 (by simp)
    have hw2 := hww w2 (by simp)
    obtain ⟨C, hCC⟩ : ∃ C, rcOf { y with e := 0 } A W O T K = C := ⟨_, rfl⟩
    rw [hCC] at e124 ⊢
    simp only [List.map_cons, List.map_nil, recY]
    obtain ⟨n1, a1⟩ := w1
    obtain ⟨n2, a2⟩ := w2
    have e107 := fun lo g => s107 (lo := lo) (l := a2) (h := g) (by simp only at hw2; omega)
    simp only [wds, List.map_cons, List.map_nil, wdv] at e124
    simp only at hw1 ⊢
    by_cases qa : a1.length = 1
    · obtain ⟨c, rfl⟩ := List.length_eq_one_iff.1 qa
      have e106 := fun lo g => s106 (lo := lo) (c := c) (h := g)
      simp only [kndL]
      obtain ⟨⟨kk, kb⟩, hk⟩ : ∃ K, kindR c = K := ⟨_, rfl⟩
      simp only [hk] at e106 ⊢
      cases kb with
      | false =>
        simp (maxSteps := 2000000) (disch := first | omega | (simp; done) | (simp; omega) | assumption) [Tryz.f128, argsE, isC, boxV, boxO, fresh_no, List.filter_cons, setB, aggN, op_build, List.set, hl, e124, e106, Rec.v]
      | true =>
        obtain ⟨⟨s0, s1, se⟩, hse⟩ : ∃ S, spanR a2 = S := ⟨_, rfl⟩
        simp only [hse] at e107 ⊢
        simp (maxSteps := 2000000) (disch := first | omega | (simp; done) | (simp; omega) | assumption) [Tryz.f128, argsE, isC, boxV, boxO, fresh_no, List.filter_cons, setB, aggN, op_build, List.set, hl, e124, e106, e107, Rec.v]
    · have hk : kndL a1 = (0, false) := by
        unfold kndL; split
        · simp at qa
        · rfl
      simp only [hk]
      have qa' : ¬ ((a1.length : Int) = 1) := by omega
      simp (maxSteps := 2000000) (disch := first | omega | (simp; done) | (simp; omega) | assumption) [Tryz.f128, argsE, isC, boxV, boxO, fresh_no, List.filter_cons, setB, aggN, op_build, List.set, hl, e124, Rec.v, qa, qa']
end ZD
open Go Go.AM Go.Proofs Go.AM.Pl
set_option maxRecDepth 100000
set_option maxHeartbeats 4000000
namespace ZD
/-- A reader in memory, beside a row that is under way. -/
def RdT (lo : Nat) (g : H) (p : Nat) (A : V) (x : Rdr) (t5 : Tk) : Prop := ∃ t1 t2 t3 t4 W O T, cellsAt g p = some (rcOf x A (AM.vs t1 1 W) (AM.vs t2 5 O) (AM.vs t3 6 T) (AM.vs t4 1 (ints x.truck))).cs ∧ Tks lo g [t5, t1, t2, t3, t4] ∧ fgL W = rowsV x.d.ways ∧ fgL O = ordsV x.d.ords ∧ fgL T = trksV x.d.trks
theorem RdT.s {lo : Nat} {g : H} {p : Nat} {A : V} {x : Rdr} {t5 : Tk} (h : RdT lo g p A x t5) : RdS lo g p A x := by
  obtain ⟨t1, t2, t3, t4, W, O, T, h1, h2, h3⟩ := h
  exact ⟨t1, t2, t3, t4, W, O, T, h1, h2.tail, h3⟩
theorem RdS.t {lo : Nat} {g : H} {p : Nat} {A : V} {x : Rdr} (h : RdS lo g p A x) : RdT lo g p A x .nil := by
  obtain ⟨t1, t2, t3, t4, W, O, T, h1, h2, h3⟩ := h
  exact ⟨t1, t2, t3, t4, W, O, T, h1, h2.cons_nil, h3⟩
theorem aggN5 {a b c d e f : V} : aggN 6 [a, b, c, d, e, f] = some (.agg [a, b, c, d, e, f]) := rfl
theorem s72 {lo p : Nat} {g : H} {A : V} {x : Rdr} (z : Rsz x) (hl : lo ≤ p) (hlg : lo ≤ g.length) (htz : (x.d.trks.length : Int) ≤ x.i ∧ (x.truck.length : Int) ≤ x.i) (h : RdS lo g p A x) : ∃ g', den cx lo 72 [.ptr p 0] g = some (.tup [], g') ∧ RdS lo g' p A (trucksX x) ∧ g.length ≤ g'.length := by
  obtain ⟨P, hP⟩ : ∃ P : H → Prop, P = fun g' => RdS lo g' p A (trucksX x) ∧ g.length ≤ g'.length := ⟨_, rfl⟩
  suffices hh : ∃ g', den cx lo 72 [.ptr p 0] g = some (.tup [], g') ∧ P g' by rw [hP] at hh; exact hh
  obtain ⟨XF, hXF⟩ : ∃ XF, trksGo x.left x = XF := ⟨_, rfl⟩
  have hPg : ∀ g', RdS lo g' p A XF → g.length ≤ g'.length → P g' := by intro g' a b; rw [hP]; unfold trucksX; rw [hXF]; exact ⟨a, b⟩
  clear hP
  have hz := z.i; have hz2 := z.tx.2
  refine den_openE (fn := Tryz.f72) (by rfl) (by rfl) (by rfl) (by rfl) (by simp [Tryz.f72]) ?_
  simp (maxSteps := 2000000) (disch := first | omega | (simp; done) | (simp; omega) | assumption) [Tryz.f72, argsE]
  obtain ⟨I, hI⟩ : ∃ I : Nat → List Ent → List (Nat × List V) → H → Prop, I = (fun k vs lb g' => ∃ x' : Rdr, RdS lo g' p A x' ∧ g.length ≤ g'.length ∧ Rsz x' ∧ x'.ls = x.ls ∧ x.ls.length ≤ x'.i.toNat + k ∧ (x'.d.trks.length : Int) ≤ x'.i ∧ (x'.truck.length : Int) ≤ x'.i ∧ trksGo k x' = XF ∧ vs = [] ∧ lb = []) := ⟨_, rfl⟩
  refine Wp.loopQ I (n := x.left) (by rw [hI]; exact ⟨x, h, by simp, z, rfl, by unfold Rdr.left; omega, htz.1, htz.2, hXF, by simp, by simp⟩) ?_
  clear h hXF htz
  intro k vs lb g1 hi Q hQ; rw [hI] at hi; obtain ⟨y, hs, hg, zy, hls, hfu, hty, hky, hgo, rfl, rfl⟩ := hi
  have hs0 := hs
  obtain ⟨t1, t2, t3, t4, W, O, T, hp, hT, hW, hO, hTr⟩ := hs
  have hz := zy.i; have hz2 := zy.tx.2
  have hls' := congrArg List.length hls
  have e127 : ∀ lo', den cx lo' 127 [.ptr p 0] g1 = some (.t (nextX y), g1) := fun lo' => s127 (lo := lo') hp (ls := y.ls) rfl zy.i.1 zy.w9
  by_cases q : nextX y = truckW
  case neg =>
    have hgo' : y = XF := by
      cases k with
      | zero => exact hgo
      | succ k => simp only [trksGo, if_neg q] at hgo; exact hgo
    subst hgo'
    have hf := hPg g1 hs0 hg
    simp only [truckW] at q
    clear hI
    simp (maxSteps := 2000000) (disch := first | omega | (simp; done) | (simp; omega) | assumption) [e127, q]
    refine hQ _ _ ?_
    simp (maxSteps := 2000000) (disch := first | omega | (simp; done) | (simp; omega) | assumption) [hf]
  obtain ⟨hy1, hy2, hy3⟩ := nextX_some (by decide) q
  cases k with
  | zero => omega
  | succ k =>
    simp only [trksGo, if_pos q] at hgo
    -- the truck's line is noted
    obtain ⟨C, hC⟩ : ∃ C, rcOf y A (AM.vs t1 1 W) (AM.vs t2 5 O) (AM.vs t3 6 T) (AM.vs t4 1 (ints y.truck)) = C := ⟨_, rfl⟩
    have hbk : C.bk.length = 19 := by rw [← hC]; exact zy.bk
    have hci : C.i = y.i := by rw [← hC]; rfl
    have hCK : C.K = AM.vs t4 1 (ints y.truck) := by rw [← hC]; rfl
    have hup : rcOf { y with truck := y.truck ++ [y.i] } A (AM.vs t1 1 W) (AM.vs t2 5 O) (AM.vs t3 6 T) (AM.vs (.tip g1.length) 1 (ints (y.truck ++ [y.i]))) = { C with K := AM.vs (.tip g1.length) 1 (ints y.truck ++ [V.i C.i]) } := by rw [← hC, ints_snoc]; rfl
    rw [hC] at hp
    have ha1 := hT.get (i := 3) rfl
    have hp1 := ap_cells ha1 hp
    have hpl : p < (apH g1 t4).length := by have := cellsAt_lt hp; simp; omega
    have hT2 := (hT.ap (i := 3) rfl (by omega)).updc (o' := .cells { C with K := AM.vs (.tip g1.length) 1 (ints y.truck ++ [V.i C.i]) }.cs) hp1
    have hst : RdS lo ((apH g1 t4).set p (.cells { C with K := AM.vs (.tip g1.length) 1 (ints y.truck ++ [V.i C.i]) }.cs)) p A { y with truck := y.truck ++ [y.i] } := by
      refine ⟨t1, t2, t3, _, W, O, T, ?_, hT2, hW, hO, hTr⟩
      rw [cellsAt_set hpl]
      exact congrArg (fun c => some (RC.cs c)) hup.symm
    have h29 : C.cs[29]? = some (AM.vs t4 1 (ints y.truck)) := by rw [rc_g29 hbk, hCK]
    have s29 := fun v => rc_s29 (x := C) (v := v) hbk
    obtain ⟨g2, hg2⟩ : ∃ g2, (apH g1 t4).set p (.cells { C with K := AM.vs (.tip g1.length) 1 (ints y.truck ++ [V.i C.i]) }.cs) = g2 := ⟨_, rfl⟩
    have hgl : g1.length ≤ g2.length := by rw [← hg2]; simp
    rw [hg2] at hst
    have h2 : (rc_g2 (x := C)) = rc_g2 := rfl
    clear h2
    simp only [truckW] at q
    have q' : nextX y = truckW := q
    -- the row
    obtain ⟨x1, hx1⟩ : ∃ x1 : Rdr, { y with truck := y.truck ++ [y.i] } = x1 := ⟨_, rfl⟩
    rw [hx1] at hst hgo
    have z1 : Rsz x1 := by rw [← hx1]; exact ⟨zy.tx, zy.i, zy.bk⟩
    have hi1 : x1.i = y.i := by rw [← hx1]
    have he1 : x1.e = 0 := by rw [← hx1]; exact hy1
    have hl1 : x1.ls = y.ls := by rw [← hx1]
    have hd1 : x1.d = y.d := by rw [← hx1]
    have hk1 : x1.truck.length = y.truck.length + 1 := by rw [← hx1]; simp
    have hsz := rowX_sz (f := truckW) (n := 5) (by decide) z1
    obtain ⟨u1, u2, u3, u4, W, O, T, hp2, hT2', hW, hO, hTr⟩ := hst
    have e126 := fun lo' (hl' : lo' ≤ p) => s126 (lo := lo') (f := truckW) (n := 5) z1.bk hp2 hl' (ls := x1.ls) rfl (by show 0 ≤ x1.i ∧ x1.i ≤ 1000000000; have := z1.i; have := z1.tx.2; omega) (by omega) z1.w7
    rw [rowE_eq] at hgo hsz
    simp only at hgo hsz
    have hce' : (rcOf x1 A (AM.vs u1 1 W) (AM.vs u2 5 O) (AM.vs u3 6 T) (AM.vs u4 1 (ints x1.truck))).i = x1.i := rfl
    have hce2 : (rcOf x1 A (AM.vs u1 1 W) (AM.vs u2 5 O) (AM.vs u3 6 T) (AM.vs u4 1 (ints x1.truck))).e = x1.e := rfl
    have hro : (rowE x1.ls x1.i x1.e truckW 5).2 = 0 → _ := rowE_ok (by decide)
    simp only [hce', hce2] at e126
    clear hce' hce2
    obtain ⟨⟨l, e'⟩, hL⟩ : ∃ L, rowE x1.ls x1.i x1.e truckW 5 = L := ⟨_, rfl⟩
    rw [hL] at hgo hsz e126 hro
    simp only at hgo hsz hro
    have hcs2 : ∀ X, cellsAt (g2.set p (.cells X)) p = some X := fun X => cellsAt_set (cellsAt_lt hp2)
    simp only [truckW] at e126
    have ei : 5 = 5 := rfl
    by_cases qe : e' = 0
    case neg =>
      simp only [if_neg qe] at hgo e126
      have hst := RdS.keep (lo := lo) (A := A) (x := x1) (x' := { x1 with i := x1.i, e := e' }) hp2 hT2' hW hO hTr rfl rfl rfl
      rw [hgo] at hst
      have hf := hPg _ hst (by simp; omega)
      simp only [rowVv, if_neg qe] at e126
      have hf : P (g2.set p (.cells { rcOf x1 A (AM.vs u1 1 W) (AM.vs u2 5 O) (AM.vs u3 6 T) (AM.vs u4 1 (ints x1.truck)) with i := x1.i, e := e' }.cs)) := by rw [← hgo] at hf; exact hf
      clear hI hgo hst
      simp (maxSteps := 2000000) (disch := first | omega | (simp; done) | (simp; omega) | assumption) [e127, q, isC, boxV, boxO, fresh_no, List.filter_cons, setB, aggN, op_build, List.set, hl, hp, rc_le, hbk, rc_g2, h29, s29, elemsV, hp1, hg2, e126, foot, Op.operands, opTmps]
      refine ⟨indep_of bf72_1 (by rfl), hQ _ _ ?_⟩
      simp (maxSteps := 2000000) (disch := first | omega | (simp; done) | (simp; omega) | assumption) [hf]
    subst qe
    obtain ⟨_, hx1lt, hl5⟩ := hro rfl
    simp only [if_true] at hgo e126
    have hst := RdS.keep (lo := lo) (A := A) (x := x1) (x' := { x1 with i := x1.i + 1, e := 0 }) hp2 hT2' hW hO hTr rfl rfl rfl
    obtain ⟨x2, hx2⟩ : ∃ x2 : Rdr, { x1 with i := x1.i + 1, e := 0 } = x2 := ⟨_, rfl⟩
    obtain ⟨g3, hg3⟩ : ∃ g3, g2.set p (.cells (rcOf { x1 with i := x1.i + 1, e := 0 } A (AM.vs u1 1 W) (AM.vs u2 5 O) (AM.vs u3 6 T) (AM.vs u4 1 (ints ({ x1 with i := x1.i + 1, e := 0 } : Rdr).truck))).cs) = g3 := ⟨_, rfl⟩
    have hg3l : g2.length = g3.length := by rw [← hg3]; simp
    have hg3' : g2.set p (.cells { rcOf x1 A (AM.vs u1 1 W) (AM.vs u2 5 O) (AM.vs u3 6 T) (AM.vs u4 1 (ints x1.truck)) with i := x1.i + 1, e := 0 }.cs) = g3 := hg3
    rw [hg3] at hst
    rw [hg3'] at e126
    rw [hx2] at hst hgo
    have z2 : Rsz x2 := by
      refine ⟨by rw [← hx2]; exact z1.tx, ?_, by rw [← hx2]; exact z1.bk⟩
      rw [← hx2]; simp only; have := z1.i; omega
    have hi2 : x2.i = y.i + 1 := by rw [← hx2]; simp only; omega
    have he2 : x2.e = 0 := by rw [← hx2]
    have hl2 : x2.ls = x.ls := by rw [← hx2]; simp only; rw [hl1, hls]
    have hd2 : x2.d = y.d := by rw [← hx2]; exact hd1
    have hk2 : x2.truck.length = y.truck.length + 1 := by rw [← hx2]; exact hk1
    have hl2' := congrArg List.length hl2
    simp only [rowVv, if_true] at e126
    obtain ⟨a1, a2, a3, a4, a5, rfl⟩ : ∃ a1 a2 a3 a4 a5, l = [a1, a2, a3, a4, a5] := by
      have : l.length = 5 := by omega
      match l, this with
      | [a1, a2, a3, a4, a5], _ => exact ⟨a1, a2, a3, a4, a5, rfl⟩
    have htk : trkOf [a1, a2, a3, a4, a5] = ⟨a1, a2, a3, a4, a5, []⟩ := rfl
    simp only [htk, he2, if_true] at hgo
    obtain ⟨Z, hZ⟩ : ∃ Z, pastGo x2.left [] x2 = Z := ⟨_, rfl⟩
    rw [hZ] at hgo
    have hst := hst.t
    clear hsz hp2 hT2' hW hO hTr hcs2 hg3 hg3' hx2 hx1 hro hL hT2
    simp only [ints, List.map_cons, List.map_nil] at e126
    simp (maxSteps := 2000000) (disch := first | omega | (simp; done) | (simp; omega) | assumption) [e127, q, isC, boxV, boxO, fresh_no, List.filter_cons, setB, aggN, op_build, List.set, hl, hp, rc_le, hbk, rc_g2, h29, s29, elemsV, hp1, hg2, e126, foot, Op.operands, opTmps]
    refine ⟨indep_of bf72_1 (by rfl), indep_of bf72_4 (by rfl), ?_⟩
    clear ha1 e127 q e126 hp hp1 h29 s29 hbk hs0 hg2 hup hpl hC hci hCK
    have hIr : ∀ (w : Rdr) g', RdS lo g' p A w → g.length ≤ g'.length → Rsz w → w.ls = x.ls → x.ls.length ≤ w.i.toNat + k → (w.d.trks.length : Int) ≤ w.i → (w.truck.length : Int) ≤ w.i → trksGo k w = XF → I k [] [] g' := by
      intro w g' b1 b2 b3 b4 b5 b6 b7 b8; rw [hI]; exact ⟨w, b1, b2, b3, b4, b5, b6, b7, b8, rfl, rfl⟩
    clear hI
    obtain ⟨J, hJ⟩ : ∃ J : Nat → List Ent → List (Nat × List V) → H → Prop, J = (fun k2 vs lb g' => ∃ (w : Rdr) (acc : List Rec) (t5 : Tk), RdT lo g' p A w t5 ∧ g.length ≤ g'.length ∧ Rsz w ∧ w.ls = x.ls ∧ w.e = 0 ∧ x.ls.length ≤ w.i.toNat + k2 ∧ x.ls.length ≤ w.i.toNat + k ∧ (w.d.trks.length : Int) + 1 ≤ w.i ∧ (w.truck.length : Int) ≤ w.i ∧ (acc.length : Int) ≤ w.i ∧ pastGo k2 acc w = Z ∧ vs = [] ∧ lb = [(4, [V.i a1, V.i a2, V.i a3, V.i a4, V.i a5, AM.vs t5 3 (recs acc)])]) := ⟨_, rfl⟩
    refine Wp.loopQ J (n := x2.left) (by rw [hJ]; exact ⟨x2, [], .nil, hst, by show g.length ≤ g3.length; omega, z2, hl2, he2, by unfold Rdr.left; omega, by omega, by rw [hd2, hi2]; omega, by rw [hk2, hi2]; omega, by simp only [List.length_nil]; omega, hZ, by simp, by simp [recs]⟩) ?_
    clear hst hZ z2 hi2 he2 hl2 hd2 hk2 hl2' hfu hty hky hg hg3l hgl
    clear hz hz2 hls' hy1 hy2 hy3 q' z1 hi1 he1 hl1 hd1 hk1 hx1lt hl5 zy hls hT hW hO hTr
    intro k2 vs lb g4 hi Q2 hQ2; rw [hJ] at hi; obtain ⟨w, acc, t5, hs, hg, zw, hls, hwe, hfu, hfk, hty, hky, hac, hgo2, rfl, rfl⟩ := hi
    have hs0 := hs
    obtain ⟨t1, t2, t3, t4, W, O, T, hp, hT, hW, hO, hTr⟩ := hs
    have hz := zw.i; have hz2 := zw.tx.2
    have hls' := congrArg List.length hls
    have e127 : ∀ lo', den cx lo' 127 [.ptr p 0] g4 = some (.t (nextX w), g4) := fun lo' => s127 (lo := lo') hp (ls := w.ls) rfl zw.i.1 zw.w9
    by_cases q : nextX w = pastW
    case neg =>
      have hgo' : (acc, w) = Z := by
        cases k2 with
        | zero => exact hgo2
        | succ k2 => simp only [pastGo, if_neg q] at hgo2; exact hgo2
      subst hgo'
      rw [if_pos (show ((acc, w) : List Rec × Rdr).2.e = 0 from hwe)] at hgo
      obtain ⟨C, hC⟩ : ∃ C, rcOf w A (AM.vs t1 1 W) (AM.vs t2 5 O) (AM.vs t3 6 T) (AM.vs t4 1 (ints w.truck)) = C := ⟨_, rfl⟩
      have hbk : C.bk.length = 19 := by rw [← hC]; exact zw.bk
      have hCT : C.T = AM.vs t3 6 T := by rw [← hC]; rfl
      have hup : ∀ l T', rcOf { w with d := { w.d with trks := l } } A (AM.vs t1 1 W) (AM.vs t2 5 O) T' (AM.vs t4 1 (ints w.truck)) = { C with T := T' } := fun l T' => by rw [← hC]; rfl
      rw [hC] at hp
      have ha1 := hT.get (i := 3) rfl
      have hp1 := ap_cells ha1 hp
      have hpl : p < (apH g4 t3).length := by have := cellsAt_lt hp; simp; omega
      obtain ⟨e, he⟩ : ∃ e, V.agg [V.i a1, V.i a2, V.i a3, V.i a4, V.i a5, AM.vs t5 3 (recs acc)] = e := ⟨_, rfl⟩
      have hT2 := (hT.ap (i := 3) rfl (by omega)).updc (o' := .cells { C with T := AM.vs (.tip g4.length) 6 (T ++ [e]) }.cs) hp1
      have hfg : fgL (T ++ [e]) = trksV (w.d.trks ++ [⟨a1, a2, a3, a4, a5, acc⟩]) := by rw [fgL_app', hTr, ← he]; simp [trksV, Trk.v, fgL]
      have hst : RdS lo ((apH g4 t3).set p (.cells { C with T := AM.vs (.tip g4.length) 6 (T ++ [e]) }.cs)) p A { w with d := { w.d with trks := w.d.trks ++ [⟨a1, a2, a3, a4, a5, acc⟩] } } := by
        refine ⟨t1, t2, _, t4, W, O, _, ?_, hT2.tail, hW, hO, hfg⟩
        rw [cellsAt_set hpl]
        exact congrArg (fun c => some (RC.cs c)) (hup _ _).symm
      have hTl : T.length = w.d.trks.length := by
        have := congrArg List.length hTr
        rw [fgL_len] at this; simpa [trksV] using this
      have go := hIr _ _ hst (by simp; omega) ⟨zw.tx, zw.i, zw.bk⟩ hls hfk (by simp; omega) hky hgo
      have h25 : C.cs[25]? = some (AM.vs t3 6 T) := by rw [rc_g25 hbk, hCT]
      have s25 := fun v => rc_s25 (x := C) (v := v) hbk
      rw [← he] at go
      clear hJ hIr hPg hst hT2 hT hfg hQ hgo hgo2
      simp only [pastW] at q
      simp (maxSteps := 2000000) (disch := first | omega | (simp; done) | (simp; omega) | assumption) [e127, q]
      refine hQ2 _ _ ?_
      simp (maxSteps := 2000000) (disch := first | omega | (simp; done) | (simp; omega) | assumption) [boxV, boxO, fresh_no, List.filter_cons, setB, aggN, op_build, List.set, hp, hl, rc_le, hbk, h25, s25, elemsV, hp1, foot, Op.operands, opTmps, aggN5]
      exact ⟨indep_of bf72_10 (by rfl), k, by omega, go⟩
    obtain ⟨hy1, hy2, hy3⟩ := nextX_some (by decide) q
    cases k2 with
    | zero => omega
    | succ k2 =>
      simp only [pastGo, if_pos q] at hgo2
      have e128 := fun lo' (hl' : lo' ≤ p) => s128 (lo := lo') zw hl' hp q
      have hcs : ∀ X, cellsAt (g4.set p (.cells X)) p = some X := fun X => cellsAt_set (cellsAt_lt hp)
      have hR := recY_eq (wrds w.cur)
      have hbad : (wdsR w.cur).length ≠ 3 → (recY (wrds w.cur)).2 = 7 := by
        intro z3
        rw [hR.1, recW3_len (by rw [wrds_eq]; simpa using z3)]
      obtain ⟨⟨r, e'⟩, hY⟩ : ∃ Y, recY (wrds w.cur) = Y := ⟨_, rfl⟩
      rw [hY] at e128 hR hbad
      simp only at e128 hR hbad
      rw [← hR.1] at hgo2 hR
      obtain ⟨e1, he1⟩ : ∃ e1 : Int, (if (wdsR w.cur).length = 3 then 0 else 7) = e1 := ⟨_, rfl⟩
      rw [he1] at e128
      have hee : (if e1 = 0 then e' else e1) = e' := by
        by_cases z3 : (wdsR w.cur).length = 3
        · rw [if_pos z3] at he1; rw [← he1, if_pos rfl]
        · rw [if_neg z3] at he1; rw [← he1, if_neg (by decide), hbad z3]
      have e125 := fun lo' (hl' : lo' ≤ p) => s125 (lo := lo') (n := e') (x := rcOf { w with e := e1 } A (AM.vs t1 1 W) (AM.vs t2 5 O) (AM.vs t3 6 T) (AM.vs t4 1 (ints w.truck))) zw.bk (hcs _) hl'
      have hre : (rcOf { w with e := e1 } A (AM.vs t1 1 W) (AM.vs t2 5 O) (AM.vs t3 6 T) (AM.vs t4 1 (ints w.truck))).e = e1 := rfl
      simp only [hre, hee, List.set_set] at e125
      obtain ⟨gA, hgA⟩ : ∃ gA, g4.set p (.cells (rcOf { w with e := e1 } A (AM.vs t1 1 W) (AM.vs t2 5 O) (AM.vs t3 6 T) (AM.vs t4 1 (ints w.truck))).cs) = gA := ⟨_, rfl⟩
      rw [hgA] at e128 e125
      by_cases qe : e' = 0
      case neg =>
        rw [if_neg qe] at hgo2
        have hst := RdS.keep (lo := lo) (A := A) (x := w) (x' := { w with e := e' }) hp hT.tail hW hO hTr rfl rfl rfl
        subst hgo2
        simp only [if_neg qe] at hgo
        rw [hgo] at hst
        have hf := hPg _ hst (by simp; omega)
        have hf : P (g4.set p (.cells { rcOf { w with e := e1 } A (AM.vs t1 1 W) (AM.vs t2 5 O) (AM.vs t3 6 T) (AM.vs t4 1 (ints w.truck)) with e := e' }.cs)) := by rw [← hgo] at hf; exact hf
        clear hJ hIr hPg hst hgo
        simp only [pastW] at q
        obtain ⟨r1, r2, r3⟩ := r
        simp only [Rec.v] at e128
        simp (maxSteps := 2000000) (disch := first | omega | (simp; done) | (simp; omega) | assumption) [e127, q, isC, boxV, boxO, fresh_no, List.filter_cons, setB, aggN, op_build, List.set, hl, e128, e125, qe]
        refine hQ2 _ _ (hQ _ _ ?_)
        simp (maxSteps := 2000000) (disch := first | omega | (simp; done) | (simp; omega) | assumption) [hf]
      rw [if_pos qe] at hgo2
      have hr2 : r = (recW3 (wrds w.cur)).1 := hR.2 qe
      rw [← hr2] at hgo2
      subst qe
      obtain ⟨C, hC⟩ : ∃ C, rcOf w A (AM.vs t1 1 W) (AM.vs t2 5 O) (AM.vs t3 6 T) (AM.vs t4 1 (ints w.truck)) = C := ⟨_, rfl⟩
      have hbk : C.bk.length = 19 := by rw [← hC]; exact zw.bk
      have hci : C.i = w.i := by rw [← hC]; rfl
      have hce0 : C.e = 0 := by rw [← hC]; exact hwe
      have hup : ∀ i, rcOf { w with i := i } A (AM.vs t1 1 W) (AM.vs t2 5 O) (AM.vs t3 6 T) (AM.vs t4 1 (ints w.truck)) = { C with i := i } := fun i => by rw [← hC]; rfl
      have hCe : ({ rcOf { w with e := e1 } A (AM.vs t1 1 W) (AM.vs t2 5 O) (AM.vs t3 6 T) (AM.vs t4 1 (ints w.truck)) with e := 0 } : RC) = C := by rw [← hC, ← hwe]; rfl
      rw [hC] at hp
      have hsame := h_same hp
      rw [hCe, hsame] at e125
      have ha1 := hT.get (i := 0) rfl
      have hp1 := ap_cells ha1 hp
      have hpl : p < (apH g4 t5).length := by have := cellsAt_lt hp; simp; omega
      have hT2 := (hT.ap (i := 0) rfl (by omega)).updc (o' := .cells { C with i := C.i + 1 }.cs) hp1
      have hst : RdT lo ((apH g4 t5).set p (.cells { C with i := C.i + 1 }.cs)) p A { w with i := C.i + 1 } (.tip g4.length) := by
        refine ⟨t1, t2, t3, t4, W, O, T, ?_, hT2, hW, hO, hTr⟩
        rw [cellsAt_set hpl]
        exact congrArg (fun c => some (RC.cs c)) (hup _).symm
      rw [← hci] at hgo2
      have go : J k2 [] [(4, [V.i a1, V.i a2, V.i a3, V.i a4, V.i a5, AM.vs (.tip g4.length) 3 (recs acc ++ [r.v])])] ((apH g4 t5).set p (.cells { C with i := C.i + 1 }.cs)) := by
        rw [hJ]
        exact ⟨_, acc ++ [r], _, hst, by simp; omega, ⟨zw.tx, by simp only; omega, zw.bk⟩, hls, hwe, by simp only; omega, by simp only; omega, by simp only; omega, by simp only; omega, by simp; omega, hgo2, rfl, by simp [recs]⟩
      clear hJ hIr hPg hst hT2 hT hgo hgo2 hQ hQ2
      obtain ⟨r1, r2, r3⟩ := r
      simp only [Rec.v] at e128 go
      simp only [pastW] at q
      have hrl : (recs acc).length = acc.length := by simp [recs]
      simp (maxSteps := 2000000) (disch := first | omega | (simp; done) | (simp; omega) | assumption) [e127, q, isC, boxV, boxO, fresh_no, List.filter_cons, setB, aggN, op_build, List.set, hl, e128, e125, hp, rc_le, hbk, rc_g2, rc_s2, wrap64, elemsV, hp1, aggN5]
      exact ⟨k2, by omega, go⟩
end ZD

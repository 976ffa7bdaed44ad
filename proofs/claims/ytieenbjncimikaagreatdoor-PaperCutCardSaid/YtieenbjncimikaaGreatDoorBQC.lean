/- What the reader makes of the book. No condition. -/
import Derived.Test.YtieenbjncimikaaGreatDoorBQB
set_option linter.all false
open Go Go.AM Go.Proofs Go.AM.Pl
set_option maxRecDepth 100000
set_option maxHeartbeats 4000000
namespace ZD
section
variable {lo p : Nat} {g : H} {A : V} {x : Rdr}
theorem RdS.keep {t1 t2 t3 t4 : Tk} {W O T : List V} {x' : Rdr} (hp : cellsAt g p = some (rcOf x A (AM.vs t1 1 W) (AM.vs t2 5 O) (AM.vs t3 6 T) (AM.vs t4 1 (ints x.truck))).cs) (hT : Tks lo g [t1, t2, t3, t4]) (hW : fgL W = rowsV x.d.ways) (hO : fgL O = ordsV x.d.ords) (hTr : fgL T = trksV x.d.trks)
    (h1 : x'.d.ways = x.d.ways) (h2 : x'.d.ords = x.d.ords) (h3 : x'.d.trks = x.d.trks) : RdS lo (g.set p (.cells (rcOf x' A (AM.vs t1 1 W) (AM.vs t2 5 O) (AM.vs t3 6 T) (AM.vs t4 1 (ints x'.truck))).cs)) p A x' :=
  ⟨t1, t2, t3, t4, W, O, T, cellsAt_set (cellsAt_lt hp), hT.updc hp, by rw [h1]; exact hW, by rw [h2]; exact hO, by rw [h3]; exact hTr⟩
end
theorem build50 {a b c d e f g i j k m n o p q r s t u : Int} : buildV cx 50 [(0, .i a), (1, .i b), (2, .i c), (3, .i d), (4, .i e), (5, .i f), (6, .i g), (7, .i i), (8, .i j), (9, .i k), (10, .i m), (11, .i n), (12, .i o), (13, .i p), (14, .i q), (15, .i r), (16, .i s), (17, .i t), (18, .i u)] = some (bkv [a, b, c, d, e, f, g, i, j, k, m, n, o, p, q, r, s, t, u]) := by rfl
theorem s69 {lo p : Nat} {g : H} {A : V} {x : Rdr} (z : Rsz x) (hl : lo ≤ p) (h : RdS lo g p A x) : ∃ g', den cx lo 69 [.ptr p 0] g = some (.tup [], g') ∧ RdS lo g' p A (rulesX x) ∧ g.length ≤ g'.length := by
  obtain ⟨t1, t2, t3, t4, W, O, T, hp, hT, hW, hO, hTr⟩ := h
  have hcs : ∀ X, cellsAt (g.set p (.cells X)) p = some X := fun X => cellsAt_set (cellsAt_lt hp)
  obtain ⟨P, hP⟩ : ∃ P : H → Prop, P = fun g' => RdS lo g' p A (rulesX x) ∧ g.length ≤ g'.length := ⟨_, rfl⟩
  suffices hh : ∃ g', den cx lo 69 [.ptr p 0] g = some (.tup [], g') ∧ P g' by rw [hP] at hh; exact hh
  have hPi : ∀ x', rulesX x = x' → x'.d.ways = x.d.ways → x'.d.ords = x.d.ords → x'.d.trks = x.d.trks → P (g.set p (.cells (rcOf x' A (AM.vs t1 1 W) (AM.vs t2 5 O) (AM.vs t3 6 T) (AM.vs t4 1 (ints x'.truck))).cs)) := by
    intro x' hx h1 h2 h3; rw [hP, hx]; exact ⟨RdS.keep hp hT hW hO hTr h1 h2 h3, by simp⟩
  clear hP
  obtain ⟨C, hC⟩ : ∃ C, rcOf x A (AM.vs t1 1 W) (AM.vs t2 5 O) (AM.vs t3 6 T) (AM.vs t4 1 (ints x.truck)) = C := ⟨_, rfl⟩
  have hbk : C.bk.length = 19 := by rw [← hC]; exact z.bk
  have hci : C.i = x.i := by rw [← hC]; rfl
  have hce : C.e = x.e := by rw [← hC]; rfl
  have hz := z.i; have hz2 := z.tx.2
  have e126 := fun lo' (hl' : lo' ≤ p) => s126 (lo := lo') (x := { C with book := C.i }) (ls := x.ls) (f := bookW) (n := 19) (g := g.set p (.cells { C with book := C.i }.cs)) hbk (hcs _) hl' (by rw [← hC]; rfl) (by show 0 ≤ C.i ∧ C.i ≤ 1000000000; rw [hci]; omega) (by omega) z.w7
  rw [hC] at hp
  simp only [List.set_set, bookW] at e126
  have hro : (rowE x.ls C.i C.e bookW 19).2 = 0 → _ := rowE_ok (by decide)
  unfold rulesX at hPi
  simp only at hPi
  rw [rowE_eq] at hPi
  simp only at hPi
  rw [← hci, ← hce] at hPi
  obtain ⟨⟨l, e'⟩, hL⟩ : ∃ L, rowE x.ls C.i C.e bookW 19 = L := ⟨_, rfl⟩
  rw [hL] at hPi hro
  simp only [bookW] at hL
  simp only [hL] at e126
  simp only at hPi hro
  refine den_openE (fn := Tryz.f69) (by rfl) (by rfl) (by rfl) (by rfl) (by simp [Tryz.f69]) ?_
  by_cases q : e' = 0
  case neg =>
    rw [if_neg q] at hPi
    have hPi := hPi _ rfl rfl rfl rfl
    have hrc : rcOf { x with book := C.i, i := C.i, e := e' } A (AM.vs t1 1 W) (AM.vs t2 5 O) (AM.vs t3 6 T) (AM.vs t4 1 (ints x.truck)) = { C with book := C.i, i := C.i, e := e' } := by rw [← hC]; rfl
    simp only [if_neg q] at hPi
    rw [hrc] at hPi
    simp only [rowVv, if_neg q] at e126
    simp (maxSteps := 2000000) (disch := first | omega | (simp; done) | (simp; omega) | assumption) [Tryz.f69, argsE, isC, boxV, boxO, fresh_no, List.filter_cons, setB, aggN, op_build, List.set, hp, hl, e126, rc_le hbk, rc_g2, rc_s26 hbk, foot, Op.operands, opTmps]
    exact hPi
  subst q
  obtain ⟨hx0, hx1, hx2⟩ := hro rfl
  have hl19 : l.length = 19 := by omega
  simp only [if_true] at hPi
  have hPi := hPi _ rfl rfl rfl rfl
  have hrc : rcOf { x with book := C.i, i := C.i + 1, e := 0, d := { x.d with bk := l } } A (AM.vs t1 1 W) (AM.vs t2 5 O) (AM.vs t3 6 T) (AM.vs t4 1 (ints x.truck)) = { C with book := C.i, i := C.i + 1, e := 0, bk := l } := by rw [← hC]; rfl
  rw [hrc] at hPi
  simp only [rowVv, if_true] at e126
  have hsb := rc_sb (x := { C with book := C.i, i := C.i + 1, e := 0 }) (l := l) hbk
  have hle := fun i (hi : i ≤ 30) => rc_le (x := { C with book := C.i, i := C.i + 1, e := 0 }) hbk hi
  obtain ⟨b0, b1, b2, b3, b4, b5, b6, b7, b8, b9, b10, b11, b12, b13, b14, b15, b16, b17, b18, rfl⟩ := len19 hl19
  simp only [ints, List.map_cons, List.map_nil] at e126 hsb
  simp (maxSteps := 2000000) (disch := first | omega | (simp; done) | (simp; omega) | assumption) [Tryz.f69, argsE, -bu50, build50, bkv, ints, isC, boxV, boxO, fresh_no, List.filter_cons, setB, aggN, op_build, List.set, hp, hl, e126, rc_le hbk, rc_g2, rc_s26 hbk, foot, Op.operands, opTmps, hcs, hsb, hle]
  exact ⟨indep_of bf69_3 (by rfl), hPi⟩
end ZD

/- What the document's reading makes of a line. No condition. -/
import Derived.Test.YtieenbjncimikaaGreatDoorQE
set_option linter.all false
open Go Go.AM Go.Proofs Go.AM.Pl
set_option maxRecDepth 100000
set_option maxHeartbeats 4000000
namespace ZD
theorem s162 {lo : Nat} {l : List Int} {h : H} (hl : l.length = 19) : den cx lo 162 [AM.vs .dead 1 (ints l)] h = some (bkv l, h) := by
  obtain ⟨a, b, c, d, e, f, g, i, j, k, m, n, o, p, q, r, s, t, u, rfl⟩ := len19 hl
  exact den_iff.2 ⟨2, by kernel_rfl⟩
theorem s130 {lo : Nat} {D : List V} {w : List Ln} {name : Ln} {n : Int} {h : H} (hD : D.length = 28) (hf : fgL D = D) (hw : w ≠ []) (hw1 : w.length ≤ 1000000) (hw2 : ∀ x ∈ w, x.length ≤ 1000000) (hn : 0 ≤ n ∧ n ≤ 1000000) :
    den cx lo 130 [.agg D, AM.vs .dead 1 (strs w), .t name, .i n] h = some (numV (rowR w name n), h) := by
  obtain ⟨w0, r, rfl⟩ : ∃ w0 r, w = w0 :: r := by
    cases w with
    | nil => exact absurd rfl hw
    | cons a b => exact ⟨a, b, rfl⟩
  have e52 := fun lo => s52 (lo := lo) (ls := r) (load := -1) (h := h) (by simp at hw1; omega) (fun x hx => by have := hw2 x (by simp [hx]); omega)
  have hR1 : w0 = name → (r.length : Int) = n → rowR (w0 :: r) name n = allR r := by
    intro a b; unfold rowR; rw [if_pos ⟨a, by simp; omega⟩]; rfl
  have hR2 : ¬ (w0 = name ∧ (r.length : Int) = n) → rowR (w0 :: r) name n = ([], 7) := by
    intro a; unfold rowR; rw [if_neg (fun z => a ⟨z.1, by have := z.2; simp at this; omega⟩)]
  refine den_pure (fn := Tryz.f130) (by rfl) (by rfl) (by rfl) (by rfl) (by simp [Tryz.f130]) (by simp [hf]) ?_
  by_cases q1 : w0 = name
  · by_cases q2 : (r.length : Int) = n
    · rw [hR1 q1 q2]
      unfold allR
      have e52 : ∀ lo, den cx lo 52 [AM.vs .dead 1 (List.map V.t r), .i (-1)] h = some (numV (numsR (-1) 0 r []), h) := e52
      obtain ⟨R, hR⟩ : ∃ R, numsR (-1) 0 r [] = R := ⟨_, rfl⟩
      rw [hR] at e52 ⊢
      simp only [numV] at e52 ⊢
      have hfg : fgL (List.map V.t r) = List.map V.t r := fgL_strs r
      simp (maxSteps := 2000000) (disch := first | omega | (simp; done) | (simp; omega) | assumption) [Tryz.f130, argsE, isC, boxV, boxO, fresh_no, List.filter_cons, setB, aggN, op_build, List.set, strs, q1, q2, wrap64, hfg, e52, Cl1_tup, Cl1_agg, Cl1_vs]
    · rw [hR2 (fun z => q2 z.2)]
      simp (maxSteps := 2000000) (disch := first | omega | (simp; done) | (simp; omega) | assumption) [Tryz.f130, argsE, isC, boxV, boxO, fresh_no, List.filter_cons, setB, aggN, op_build, List.set, strs, q1, q2, wrap64, Cl1_tup, Cl1_agg, Cl1_vs, numV, ints]
  · rw [hR2 (fun z => q1 z.1)]
    simp (maxSteps := 2000000) (disch := first | omega | (simp; done) | (simp; omega) | assumption) [Tryz.f130, argsE, isC, boxV, boxO, fresh_no, List.filter_cons, setB, aggN, op_build, List.set, strs, q1, Cl1_tup, Cl1_agg, Cl1_vs, numV, ints]
end ZD
open Go Go.AM Go.Proofs Go.AM.Pl
set_option maxRecDepth 100000
set_option maxHeartbeats 4000000
namespace ZD
/-- What the document's reading has, as cells. -/
structure RG where
  bk : List Int
  W : V
  O : V
  X : V
  next : Int
  places : Int
  book : Int
  R : V
  Or : V
  Tk : V
def RG.cs (x : RG) : List V := ints x.bk ++ [x.W, x.O, x.X, .i x.next, .i x.places, .i x.book, x.R, x.Or, x.Tk]
section
variable {x : RG} {v : V} {n : Int}
theorem rgl (hb : x.bk.length = 19) : x.cs.length = 28 := by simp [RG.cs, ints, hb]
theorem rg_19 (hb : x.bk.length = 19) : x.cs[19]? = some x.W := by simp [RG.cs, ints, hb]
theorem rg_20 (hb : x.bk.length = 19) : x.cs[20]? = some x.O := by simp [RG.cs, ints, hb]
theorem rg_21 (hb : x.bk.length = 19) : x.cs[21]? = some x.X := by simp [RG.cs, ints, hb]
theorem rg_22 (hb : x.bk.length = 19) : x.cs[22]? = some (.i x.next) := by simp [RG.cs, ints, hb]
theorem rg_23 (hb : x.bk.length = 19) : x.cs[23]? = some (.i x.places) := by simp [RG.cs, ints, hb]
theorem rg_24 (hb : x.bk.length = 19) : x.cs[24]? = some (.i x.book) := by simp [RG.cs, ints, hb]
theorem rg_25 (hb : x.bk.length = 19) : x.cs[25]? = some x.R := by simp [RG.cs, ints, hb]
theorem rg_26 (hb : x.bk.length = 19) : x.cs[26]? = some x.Or := by simp [RG.cs, ints, hb]
theorem rg_27 (hb : x.bk.length = 19) : x.cs[27]? = some x.Tk := by simp [RG.cs, ints, hb]
theorem rgs_19 (hb : x.bk.length = 19) : x.cs.set 19 v = { x with W := v }.cs := by
  obtain ⟨b, _, _, _, _, _, _, _, _, _⟩ := x
  obtain ⟨b0, b1, b2, b3, b4, b5, b6, b7, b8, b9, b10, b11, b12, b13, b14, b15, b16, b17, b18, rfl⟩ := len19 hb
  rfl
theorem rgs_20 (hb : x.bk.length = 19) : x.cs.set 20 v = { x with O := v }.cs := by
  obtain ⟨b, _, _, _, _, _, _, _, _, _⟩ := x
  obtain ⟨b0, b1, b2, b3, b4, b5, b6, b7, b8, b9, b10, b11, b12, b13, b14, b15, b16, b17, b18, rfl⟩ := len19 hb
  rfl
theorem rgs_21 (hb : x.bk.length = 19) : x.cs.set 21 v = { x with X := v }.cs := by
  obtain ⟨b, _, _, _, _, _, _, _, _, _⟩ := x
  obtain ⟨b0, b1, b2, b3, b4, b5, b6, b7, b8, b9, b10, b11, b12, b13, b14, b15, b16, b17, b18, rfl⟩ := len19 hb
  rfl
theorem rgs_22 (hb : x.bk.length = 19) : x.cs.set 22 (.i n) = { x with next := n }.cs := by
  obtain ⟨b, _, _, _, _, _, _, _, _, _⟩ := x
  obtain ⟨b0, b1, b2, b3, b4, b5, b6, b7, b8, b9, b10, b11, b12, b13, b14, b15, b16, b17, b18, rfl⟩ := len19 hb
  rfl
theorem rgs_23 (hb : x.bk.length = 19) : x.cs.set 23 (.i n) = { x with places := n }.cs := by
  obtain ⟨b, _, _, _, _, _, _, _, _, _⟩ := x
  obtain ⟨b0, b1, b2, b3, b4, b5, b6, b7, b8, b9, b10, b11, b12, b13, b14, b15, b16, b17, b18, rfl⟩ := len19 hb
  rfl
theorem rgs_24 (hb : x.bk.length = 19) : x.cs.set 24 (.i n) = { x with book := n }.cs := by
  obtain ⟨b, _, _, _, _, _, _, _, _, _⟩ := x
  obtain ⟨b0, b1, b2, b3, b4, b5, b6, b7, b8, b9, b10, b11, b12, b13, b14, b15, b16, b17, b18, rfl⟩ := len19 hb
  rfl
theorem rgs_25 (hb : x.bk.length = 19) : x.cs.set 25 v = { x with R := v }.cs := by
  obtain ⟨b, _, _, _, _, _, _, _, _, _⟩ := x
  obtain ⟨b0, b1, b2, b3, b4, b5, b6, b7, b8, b9, b10, b11, b12, b13, b14, b15, b16, b17, b18, rfl⟩ := len19 hb
  rfl
theorem rgs_26 (hb : x.bk.length = 19) : x.cs.set 26 v = { x with Or := v }.cs := by
  obtain ⟨b, _, _, _, _, _, _, _, _, _⟩ := x
  obtain ⟨b0, b1, b2, b3, b4, b5, b6, b7, b8, b9, b10, b11, b12, b13, b14, b15, b16, b17, b18, rfl⟩ := len19 hb
  rfl
theorem rgs_27 (hb : x.bk.length = 19) : x.cs.set 27 v = { x with Tk := v }.cs := by
  obtain ⟨b, _, _, _, _, _, _, _, _, _⟩ := x
  obtain ⟨b0, b1, b2, b3, b4, b5, b6, b7, b8, b9, b10, b11, b12, b13, b14, b15, b16, b17, b18, rfl⟩ := len19 hb
  rfl
theorem rgs_b (hb : x.bk.length = 19) {l : List Int} (hl : l.length = 19) : AM.wr x.cs 0 (ints l) = some { x with bk := l }.cs := by
  obtain ⟨b, _, _, _, _, _, _, _, _, _⟩ := x
  obtain ⟨b0, b1, b2, b3, b4, b5, b6, b7, b8, b9, b10, b11, b12, b13, b14, b15, b16, b17, b18, rfl⟩ := len19 hb
  obtain ⟨c0, c1, c2, c3, c4, c5, c6, c7, c8, c9, c10, c11, c12, c13, c14, c15, c16, c17, c18, rfl⟩ := len19 hl
  rfl
theorem rg_tk (hb : x.bk.length = 19) : x.cs.take 28 = x.cs := List.take_of_length_le (by rw [rgl hb]; omega)
end
/-- Trucks, with the room of their pasts, as cells. -/
def trC (l : List (Trk × AM.Tk)) : List V := l.flatMap fun x => [.i x.1.id, .i x.1.home, .i x.1.room, .i x.1.fixed, .i x.1.rate, AM.vs x.2 3 (recs x.1.past)]
def lastTk (l : List (Trk × AM.Tk)) : AM.Tk := match l.getLast? with
  | some x => x.2
  | none => .nil
def TrX (lo : Nat) (g : H) (X : V) (tp : AM.Tk) (l : List Trk) : Prop := (l = [] ∧ X = AM.vs .nil 0 [] ∧ tp = .nil) ∨ ∃ b TT, l = TT.map (·.1) ∧ TT ≠ [] ∧ X = .msl b 0 l.length 6 ∧ lo ≤ b ∧ cellsAt g b = some (trC TT) ∧ tp = lastTk TT
/-- The document's reading in memory. -/
def RgS (lo : Nat) (g : H) (D : List V) (y : Rdg) : Prop := ∃ t1 t2 t3 t4 t5 tp X, D = (RG.cs ⟨y.d.bk, AM.vs t1 1 (rowsV y.d.ways), AM.vs t2 5 (ordsV y.d.ords), X, y.next, y.places, y.book, AM.vs t3 1 (ints y.rows), AM.vs t4 1 (ints y.orders), AM.vs t5 1 (ints y.trucks)⟩) ∧ Tks lo g [t1, t2, t3, t4, t5, tp] ∧ y.d.bk.length = 19 ∧ TrX lo g X tp y.d.trks
theorem TrX.keep {lo : Nat} {g g' : H} {X : V} {tp : AM.Tk} {l : List Trk} (h : TrX lo g X tp l) (hk : ∀ b C, cellsAt g b = some C → lo ≤ b → cellsAt g' b = some C) : TrX lo g' X tp l := by
  rcases h with h | ⟨b, TT, h1, h2, h3, h4, h5, h6⟩
  · exact .inl h
  · exact .inr ⟨b, TT, h1, h2, h3, h4, hk b _ h5 h4, h6⟩
theorem trC_len (l : List (Trk × AM.Tk)) : (trC l).length = l.length * 6 := by
  induction l with
  | nil => rfl
  | cons x l ih =>
    have : trC (x :: l) = [.i x.1.id, .i x.1.home, .i x.1.room, .i x.1.fixed, .i x.1.rate, AM.vs x.2 3 (recs x.1.past)] ++ trC l := rfl
    rw [this, List.length_append, ih]; simp; omega
theorem trC_app (a b : List (Trk × AM.Tk)) : trC (a ++ b) = trC a ++ trC b := by simp [trC]
/-- Sizes. -/
structure Ysz (y : Rdg) : Prop where
  w : y.d.ways.length ≤ 1000000
  o : y.d.ords.length ≤ 1000000
  t : y.d.trks.length ≤ 1000000
  r : y.rows.length ≤ 1000000
  q : y.orders.length ≤ 1000000
  k : y.trucks.length ≤ 1000000
  p : ∀ t ∈ y.d.trks, t.past.length ≤ 1000000
@[simp] theorem sh129 : shuts cx 129 = false := by rfl
@[simp] theorem sh131 : shuts cx 131 = false := by rfl
@[simp] theorem sh76 : shuts cx 76 = false := by rfl
def z123 : List V := ints (List.replicate 19 0) ++ [AM.vs .nil 0 [], AM.vs .nil 0 [], AM.vs .nil 0 [], .i 0, .i 0, .i 0, AM.vs .nil 0 [], AM.vs .nil 0 [], AM.vs .nil 0 []]
theorem z123_len : z123.length = 28 := rfl
theorem get_of {D : List V} {i : Nat} {v : V} (h : D[i]? = some v) : ∀ hq, D[i]'hq = v := fun _ => (List.getElem?_eq_some_iff.1 h).2
theorem s129 {lo : Nat} {g : H} {D : List V} {y : Rdg} {w : List Ln} {at_ : Int} (hlg : lo ≤ g.length) (h : RgS lo g D y) (z : Ysz y) (hw : w ≠ []) (hw1 : w.length ≤ 1000000) (hw2 : ∀ x ∈ w, x.length ≤ 1000000) (hp : 0 ≤ y.places ∧ y.places ≤ 1000000) :
    ∃ D' g', den cx lo 129 [.agg D, AM.vs .dead 1 (strs w), .i at_] g = some (.tup [.agg D', .i (firstR y w at_).2], g') ∧ RgS lo g' D' (firstR y w at_).1 ∧ g.length ≤ g'.length := by
  have h0 := h
  obtain ⟨t1, t2, t3, t4, t5, tp, X, hD, hT, hb, hX⟩ := h
  obtain ⟨C, hC⟩ : ∃ C : RG, (⟨y.d.bk, AM.vs t1 1 (rowsV y.d.ways), AM.vs t2 5 (ordsV y.d.ords), X, y.next, y.places, y.book, AM.vs t3 1 (ints y.rows), AM.vs t4 1 (ints y.orders), AM.vs t5 1 (ints y.trucks)⟩ : RG) = C := ⟨_, rfl⟩
  rw [hC] at hD
  have hbk : C.bk.length = 19 := by rw [← hC]; exact hb
  have hCn : C.next = y.next := by rw [← hC]
  have hCp : C.places = y.places := by rw [← hC]
  have hCW : C.W = AM.vs t1 1 (rowsV y.d.ways) := by rw [← hC]
  have hCR : C.R = AM.vs t3 1 (ints y.rows) := by rw [← hC]
  have hDl : D.length = 28 := by rw [hD]; exact rgl hbk
  have hfl := wr_all (cs := z123) (D := D) z123_len hDl (by omega)
  have htk : D.take 28 = D := List.take_of_length_le (by omega)
  have zo : zeroOf cx.P 123 = some (.agg z123) := zo123
  have g22 : D[22]? = some (.i y.next) := by rw [hD, rg_22 hbk, hCn]
  have g23 : D[23]? = some (.i y.places) := by rw [hD, rg_23 hbk, hCp]
  have hle : ∀ i, i ≤ 28 → (i ≤ D.length) = True := fun i hi => eq_true (by omega)
  obtain ⟨w0, r, rfl⟩ : ∃ w0 r, w = w0 :: r := by
    cases w with
    | nil => exact absurd rfl hw
    | cons a b => exact ⟨a, b, rfl⟩
  unfold firstR
  by_cases n0 : y.next = 0
  · rw [if_pos n0]
    by_cases q : w0 :: r = [hlW, [49]]
    · rw [if_pos q]
      simp only [List.cons.injEq] at q
      obtain ⟨rfl, rfl⟩ := q
      refine ⟨{ C with next := 1 }.cs, g, den_open (fn := Tryz.f129) (by rfl) (by rfl) (by rfl) (by rfl) (by simp [Tryz.f129]) ?_, ⟨t1, t2, t3, t4, t5, tp, X, by rw [← hC], hT, hb, hX⟩, Nat.le_refl _⟩
      have s22 : D.set 22 (V.i 1) = { C with next := 1 }.cs := by rw [hD, rgs_22 hbk]
      have hl2 := rgl (x := { C with next := 1 }) hbk
      have hfl2 := wr_all (cs := z123) (D := { C with next := 1 }.cs) z123_len hl2 (by omega)
      have htk2 := rg_tk (x := { C with next := 1 }) hbk
      rw [n0] at g22
      have g22 := get_of g22
      simp (maxSteps := 2000000) (disch := first | omega | (simp; done) | (simp; omega) | assumption) [Tryz.f129, argsE, -zo123, zo, isC, boxV, boxO, fresh_no, List.filter_cons, setB, aggN, op_build, List.set, g22, strs, hlW, hDl, hle, htk, s22, hl2, hfl2, htk2, z123_len]
    · rw [if_neg q]
      refine ⟨D, g, den_open (fn := Tryz.f129) (by rfl) (by rfl) (by rfl) (by rfl) (by simp [Tryz.f129]) ?_, h0, Nat.le_refl _⟩
      rw [n0] at g22
      have g22 := get_of g22
      by_cases q1 : r.length = 1
      · obtain ⟨w1, rfl⟩ := List.length_eq_one_iff.1 q1
        by_cases q2 : w0 = [104, 97, 117, 108, 105, 101, 114]
        · have q3 : ¬ w1 = [49] := fun e => q (by rw [q2, e]; rfl)
          simp (maxSteps := 2000000) (disch := first | omega | (simp; done) | (simp; omega) | assumption) [Tryz.f129, argsE, -zo123, zo, isC, boxV, boxO, fresh_no, List.filter_cons, setB, aggN, op_build, List.set, g22, strs, hDl, hle, htk, hfl, q2, q3, z123_len]
        · simp (maxSteps := 2000000) (disch := first | omega | (simp; done) | (simp; omega) | assumption) [Tryz.f129, argsE, -zo123, zo, isC, boxV, boxO, fresh_no, List.filter_cons, setB, aggN, op_build, List.set, g22, strs, hDl, hle, htk, hfl, q2, z123_len]
      · have q1' : ¬ ((r.length : Int) + 1 = 2) := by omega
        simp (maxSteps := 2000000) (disch := first | omega | (simp; done) | (simp; omega) | assumption) [Tryz.f129, argsE, -zo123, zo, isC, boxV, boxO, fresh_no, List.filter_cons, setB, aggN, op_build, List.set, g22, strs, hDl, hle, htk, hfl, q1, q1', z123_len]
  rw [if_neg n0]
  have hfg : fgL (fgL D) = fgL D := fgL_fgL D
  have hDf : (fgL D).length = 28 := by rw [fgL_len, hDl]
  have e130 := fun lo' name n hn => s130 (lo := lo') (D := fgL D) (w := w0 :: r) (name := name) (n := n) (h := g) hDf hfg hw hw1 hw2 hn
  have hln : ∀ name n, 0 ≤ n → (rowR (w0 :: r) name n).2 = 0 → ((rowR (w0 :: r) name n).1.length : Int) = n := by
    intro name n hn h0
    unfold rowR at h0 ⊢
    split at h0
    · rename_i a
      rw [if_pos a, allR_len h0]
      have := a.2
      simp at this ⊢; omega
    · exact absurd h0 (by decide)
  obtain ⟨ww, hww⟩ : ∃ ww, w0 :: r = ww := ⟨_, rfl⟩
  rw [hww] at e130 hln ⊢
  by_cases n1 : y.next = 1
  · rw [if_pos n1]
    rw [n1] at g22
    have g22 := get_of g22
    have e130 := fun lo' => e130 lo' bookW 19 (by decide)
    have hln := hln bookW 19 (by decide)
    obtain ⟨⟨l, e⟩, hL⟩ : ∃ L, rowR ww bookW 19 = L := ⟨_, rfl⟩
    rw [hL] at e130 hln
    simp only [numV, bookW] at e130
    simp only [hL]
    simp only at hln
    by_cases q : e = 0
    · subst q
      have hl19 : l.length = 19 := by have := hln rfl; omega
      have e162 := fun lo' => s162 (lo := lo') (h := g) hl19
      rw [if_pos rfl]
      have hbl : (bkv l) = .agg (ints l) := rfl
      have hil : (ints l).length = 19 := by simp [ints, hl19]
      have hwb := rgs_b hbk hl19
      rw [← hD] at hwb
      refine ⟨{ C with bk := l, book := at_, next := 2 }.cs, g, den_open (fn := Tryz.f129) (by rfl) (by rfl) (by rfl) (by rfl) (by simp [Tryz.f129]) ?_, ⟨t1, t2, t3, t4, t5, tp, X, by rw [← hC], hT, hl19, hX⟩, Nat.le_refl _⟩
      have hl2 := rgl (x := { C with bk := l, book := at_, next := 2 }) hl19
      have hfl2 := wr_all (cs := z123) (D := { C with bk := l, book := at_, next := 2 }.cs) z123_len hl2 (by omega)
      have htk2 := rg_tk (x := { C with bk := l, book := at_, next := 2 }) hl19
      have k1 := rgs_24 (x := { C with bk := l }) (n := at_) hl19
      have k2 := rgs_22 (x := { C with bk := l, book := at_ }) (n := 2) hl19
      have k3 := rgl (x := { C with bk := l }) hl19
      have k4 := rgl (x := { C with bk := l, book := at_ }) hl19
      rw [hbl] at e162
      clear hww hC
      simp (maxSteps := 2000000) (disch := first | omega | (simp; done) | (simp; omega) | assumption) [Tryz.f129, argsE, -zo123, zo, isC, boxV, boxO, fresh_no, List.filter_cons, setB, aggN, op_build, List.set, g22, hDl, hle, htk, e130, e162, hil, hwb, hl2, hfl2, htk2, k1, k2, k3, k4, z123_len]
    · rw [if_neg q]
      refine ⟨D, g, den_open (fn := Tryz.f129) (by rfl) (by rfl) (by rfl) (by rfl) (by simp [Tryz.f129]) ?_, h0, Nat.le_refl _⟩
      clear hww hC
      simp (maxSteps := 2000000) (disch := first | omega | (simp; done) | (simp; omega) | assumption) [Tryz.f129, argsE, -zo123, zo, isC, boxV, boxO, fresh_no, List.filter_cons, setB, aggN, op_build, List.set, g22, hDl, hle, htk, hfl, e130, q, z123_len]
  rw [if_neg n1]
  by_cases n2 : y.next = 2
  · rw [if_pos n2]
    rw [n2] at g22
    have g22 := get_of g22
    have e130 := fun lo' => e130 lo' placesW 1 (by decide)
    have hln := hln placesW 1 (by decide)
    obtain ⟨⟨l, e⟩, hL⟩ : ∃ L, rowR ww placesW 1 = L := ⟨_, rfl⟩
    rw [hL] at e130 hln
    simp only [numV, placesW] at e130
    simp only [hL]
    simp only at hln
    by_cases q : e = 0
    · subst q
      obtain ⟨n, rfl⟩ := List.length_eq_one_iff.1 (show l.length = 1 by have := hln rfl; omega)
      rw [if_pos rfl]
      simp only [List.getD_cons_zero]
      simp only [ints, List.map_cons, List.map_nil] at e130
      by_cases q1 : n < 1 ∨ 200 < n
      · rw [if_pos q1]
        refine ⟨D, g, den_open (fn := Tryz.f129) (by rfl) (by rfl) (by rfl) (by rfl) (by simp [Tryz.f129]) ?_, h0, Nat.le_refl _⟩
        clear hww hC
        by_cases q2 : n < 1
        · simp (maxSteps := 2000000) (disch := first | omega | (simp; done) | (simp; omega) | assumption) [Tryz.f129, argsE, -zo123, zo, isC, boxV, boxO, fresh_no, List.filter_cons, setB, aggN, op_build, List.set, g22, hDl, hle, htk, hfl, e130, q2, z123_len]
        · have q3 : 200 < n := q1.resolve_left q2
          simp (maxSteps := 2000000) (disch := first | omega | (simp; done) | (simp; omega) | assumption) [Tryz.f129, argsE, -zo123, zo, isC, boxV, boxO, fresh_no, List.filter_cons, setB, aggN, op_build, List.set, g22, hDl, hle, htk, hfl, e130, q2, q3, z123_len]
      · rw [if_neg q1]
        have q2 : ¬ n < 1 := by omega
        have q3 : ¬ 200 < n := by omega
        refine ⟨{ C with places := n, next := 3 }.cs, g, den_open (fn := Tryz.f129) (by rfl) (by rfl) (by rfl) (by rfl) (by simp [Tryz.f129]) ?_, ⟨t1, t2, t3, t4, t5, tp, X, by rw [← hC], hT, hb, hX⟩, Nat.le_refl _⟩
        have hl2 := rgl (x := { C with places := n, next := 3 }) hbk
        have hfl2 := wr_all (cs := z123) (D := { C with places := n, next := 3 }.cs) z123_len hl2 (by omega)
        have htk2 := rg_tk (x := { C with places := n, next := 3 }) hbk
        have k1 : D.set 23 (V.i n) = { C with places := n }.cs := by rw [hD, rgs_23 hbk]
        have k2 := rgs_22 (x := { C with places := n }) (n := 3) hbk
        have k3 := rgl (x := { C with places := n }) hbk
        clear hww hC
        simp (maxSteps := 2000000) (disch := first | omega | (simp; done) | (simp; omega) | assumption) [Tryz.f129, argsE, -zo123, zo, isC, boxV, boxO, fresh_no, List.filter_cons, setB, aggN, op_build, List.set, g22, hDl, hle, htk, e130, q2, q3, hl2, hfl2, htk2, k1, k2, k3, z123_len]
    · rw [if_neg q]
      refine ⟨D, g, den_open (fn := Tryz.f129) (by rfl) (by rfl) (by rfl) (by rfl) (by simp [Tryz.f129]) ?_, h0, Nat.le_refl _⟩
      clear hww hC
      simp (maxSteps := 2000000) (disch := first | omega | (simp; done) | (simp; omega) | assumption) [Tryz.f129, argsE, -zo123, zo, isC, boxV, boxO, fresh_no, List.filter_cons, setB, aggN, op_build, List.set, g22, hDl, hle, htk, hfl, e130, q, z123_len]
  rw [if_neg n2]
  have g22 := get_of g22
  have g23 := get_of g23
  have e130 := fun lo' => e130 lo' rowW y.places hp
  have hln := hln rowW y.places hp.1
  obtain ⟨⟨l, e⟩, hL⟩ : ∃ L, rowR ww rowW y.places = L := ⟨_, rfl⟩
  rw [hL] at e130 hln
  simp only [numV, rowW] at e130
  simp only [hL]
  simp only at hln
  by_cases q : e = 0
  case neg =>
    rw [if_neg q]
    refine ⟨D, g, den_open (fn := Tryz.f129) (by rfl) (by rfl) (by rfl) (by rfl) (by simp [Tryz.f129]) ?_, h0, Nat.le_refl _⟩
    clear hww hC
    simp (maxSteps := 2000000) (disch := first | omega | (simp; done) | (simp; omega) | assumption) [Tryz.f129, argsE, -zo123, zo, isC, boxV, boxO, fresh_no, List.filter_cons, setB, aggN, op_build, List.set, g22, g23, n0, n1, n2, hDl, hle, htk, hfl, e130, q, z123_len]
    done
  subst q
  rw [if_pos rfl]
  have ha1 := hT.get (i := 0) rfl
  have hT1 := hT.ap (i := 0) rfl hlg
  have hlg1 : lo ≤ (apH g t1).length := by simp; omega
  have ha3 := hT1.get (i := 2) rfl
  have hT2 := hT1.ap (i := 2) rfl hlg1
  have hzw := z.w
  have hzr := z.r
  have hX2 : TrX lo (apH (apH g t1) t3) X tp y.d.trks := (hX.keep fun b C' hc _ => ap_cells ha1 hc).keep fun b C' hc _ => ap_cells ha3 hc
  have g19 : D[19]? = some (AM.vs t1 1 (rowsV y.d.ways)) := by rw [hD, rg_19 hbk, hCW]
  have g19 := get_of g19
  have hrs : rowsV y.d.ways ++ [AM.vs .dead 1 (ints l)] = rowsV (y.d.ways ++ [l]) := by simp [rowsV, rowV]
  have hin : ints y.rows ++ [V.i at_] = ints (y.rows ++ [at_]) := by rw [ints_snoc]
  have hwl : (rowsV y.d.ways).length = y.d.ways.length := by simp [rowsV]
  have hrl : (ints y.rows).length = y.rows.length := by simp [ints]
  obtain ⟨nx, hnx⟩ : ∃ nx : Int, (if ((y.rows.length + 1 : Nat) : Int) = y.places then 4 else y.next) = nx := ⟨_, rfl⟩
  simp only [hnx]
  refine ⟨{ C with W := AM.vs (.tip g.length) 1 (rowsV (y.d.ways ++ [l])), R := AM.vs (.tip (g.length + 1)) 1 (ints (y.rows ++ [at_])), next := nx }.cs, apH (apH g t1) t3, den_open (fn := Tryz.f129) (by rfl) (by rfl) (by rfl) (by rfl) (by simp [Tryz.f129]) ?_, ⟨.tip g.length, t2, .tip (apH g t1).length, t4, t5, tp, X, by rw [← hC]; simp, hT2, hb, hX2⟩, by simp; omega⟩
  have k1 : D.set 19 (AM.vs (.tip g.length) 1 (rowsV (y.d.ways ++ [l]))) = { C with W := AM.vs (.tip g.length) 1 (rowsV (y.d.ways ++ [l])) }.cs := by rw [hD, rgs_19 hbk]
  obtain ⟨C1, hC1⟩ : ∃ C1 : RG, { C with W := AM.vs (.tip g.length) 1 (rowsV (y.d.ways ++ [l])) } = C1 := ⟨_, rfl⟩
  have hb1 : C1.bk.length = 19 := by rw [← hC1]; exact hbk
  have h25 : C1.cs[25]? = some (AM.vs t3 1 (ints y.rows)) := by rw [rg_25 hb1, ← hC1, ← hCR]
  have l1 := rgl hb1
  have h25 := get_of h25
  rw [hC1] at k1
  obtain ⟨C2, hC2⟩ : ∃ C2 : RG, { C1 with R := AM.vs (.tip (g.length + 1)) 1 (ints (y.rows ++ [at_])) } = C2 := ⟨_, rfl⟩
  have hb2 : C2.bk.length = 19 := by rw [← hC2]; exact hb1
  have k2 : C1.cs.set 25 (AM.vs (.tip (g.length + 1)) 1 (ints (y.rows ++ [at_]))) = C2.cs := by rw [rgs_25 hb1, hC2]
  have l2 := rgl hb2
  have h25b : C2.cs[25]? = some (AM.vs (.tip (g.length + 1)) 1 (ints (y.rows ++ [at_]))) := by rw [rg_25 hb2, ← hC2]
  have h25b := get_of h25b
  have h23b : C2.cs[23]? = some (.i y.places) := by rw [rg_23 hb2, ← hC2, ← hC1]; exact congrArg (fun z => some (V.i z)) hCp
  have h23b := get_of h23b
  have hrl2 : (ints (y.rows ++ [at_])).length = y.rows.length + 1 := by simp [ints]
  have hres : ({ C with W := AM.vs (.tip g.length) 1 (rowsV (y.d.ways ++ [l])), R := AM.vs (.tip (g.length + 1)) 1 (ints (y.rows ++ [at_])), next := nx } : RG) = { C2 with next := nx } := by rw [← hC2, ← hC1]
  rw [hres]
  have hl3 := rgl (x := { C2 with next := nx }) hb2
  have hfl3 := wr_all (cs := z123) (D := { C2 with next := nx }.cs) z123_len hl3 (by omega)
  have htk3 := rg_tk (x := { C2 with next := nx }) hb2
  have hC2n : C2.next = y.next := by rw [← hC2, ← hC1]; exact hCn
  by_cases q4 : (y.rows.length : Int) + 1 = y.places
  · have hnx4 : nx = 4 := by rw [← hnx, if_pos (by omega)]
    subst hnx4
    have k5 := rgs_22 (x := C2) (n := 4) hb2
    clear hww hC hC1 hC2 hres hT hT1 hT2 hX hX2
    simp (maxSteps := 2000000) (disch := first | omega | (simp; done) | (simp; omega) | assumption) [Tryz.f129, argsE, -zo123, zo, isC, boxV, boxO, fresh_no, List.filter_cons, setB, aggN, op_build, List.set, g22, g23, n0, n1, n2, hDl, hle, htk, e130, z123_len, g19, elemsV, hwl, hrs, k1, l1, h25, hrl, hin, k2, l2, h25b, h23b, hrl2, q4, k5, hl3, hfl3, htk3]
  · have hnx4 : nx = y.next := by rw [← hnx, if_neg (by omega)]
    have hse : ({ C2 with next := nx } : RG) = C2 := by rw [hnx4, ← hC2n]
    rw [hse] at hl3 hfl3 htk3 ⊢
    clear hww hC hC1 hC2 hres hT hT1 hT2 hX hX2
    simp (maxSteps := 2000000) (disch := first | omega | (simp; done) | (simp; omega) | assumption) [Tryz.f129, argsE, -zo123, zo, isC, boxV, boxO, fresh_no, List.filter_cons, setB, aggN, op_build, List.set, g22, g23, n0, n1, n2, hDl, hle, htk, e130, z123_len, g19, elemsV, hwl, hrs, k1, l1, h25, hrl, hin, k2, l2, h25b, h23b, hrl2, q4, hl3, hfl3, htk3]
end ZD
open Go Go.AM Go.Proofs Go.AM.Pl
set_option maxRecDepth 100000
set_option maxHeartbeats 4000000
namespace ZD
theorem trC_get {TT : List (Trk × AM.Tk)} {x : Trk × AM.Tk} : (trC (TT ++ [x]))[TT.length * 6 + 5]? = some (AM.vs x.2 3 (recs x.1.past)) := by
  rw [trC_app, List.getElem?_append_right (by rw [trC_len]; omega), trC_len, show TT.length * 6 + 5 - TT.length * 6 = 5 by omega]; rfl
theorem trC_set {TT : List (Trk × AM.Tk)} {t : Trk} {k k' : AM.Tk} {r : Rec} : (trC (TT ++ [(t, k)])).set (TT.length * 6 + 5) (AM.vs k' 3 (recs t.past ++ [r.v])) = trC (TT ++ [({ t with past := t.past ++ [r] }, k')]) := by
  rw [trC_app, trC_app, List.set_append_right _ _ (by rw [trC_len]; omega), trC_len, show TT.length * 6 + 5 - TT.length * 6 = 5 by omega]
  have : recs t.past ++ [r.v] = recs (t.past ++ [r]) := by simp [recs]
  rw [this]; rfl
theorem s131 {lo : Nat} {g : H} {D : List V} {y : Rdg} {w : List Ln} (hlg : lo ≤ g.length) (h : RgS lo g D y) (z : Ysz y) (hw : w ≠ []) (hw1 : w.length ≤ 1000000) (hw2 : ∀ x ∈ w, x.length ≤ 1000000) (hne : y.d.trks ≠ []) :
    ∃ D' g', den cx lo 131 [.agg D, AM.vs .dead 1 (strs w)] g = some (.tup [.agg D', .i (recW3 w).2], g') ∧ RgS lo g' D' (if (recW3 w).2 = 0 then { y with d := { y.d with trks := addPast y.d.trks (recW3 w).1 } } else y) ∧ g.length ≤ g'.length := by
  have h0 := h
  obtain ⟨t1, t2, t3, t4, t5, tp, X, hD, hT, hb, hX⟩ := h
  obtain ⟨C, hC⟩ : ∃ C : RG, (⟨y.d.bk, AM.vs t1 1 (rowsV y.d.ways), AM.vs t2 5 (ordsV y.d.ords), X, y.next, y.places, y.book, AM.vs t3 1 (ints y.rows), AM.vs t4 1 (ints y.orders), AM.vs t5 1 (ints y.trucks)⟩ : RG) = C := ⟨_, rfl⟩
  rw [hC] at hD
  have hbk : C.bk.length = 19 := by rw [← hC]; exact hb
  have hCX : C.X = X := by rw [← hC]
  have hDl : D.length = 28 := by rw [hD]; exact rgl hbk
  have hfl := wr_all (cs := z123) (D := D) z123_len hDl (by omega)
  have htk : D.take 28 = D := List.take_of_length_le (by omega)
  have zo : zeroOf cx.P 123 = some (.agg z123) := zo123
  have g21 : D[21]? = some X := by rw [hD, rg_21 hbk, hCX]
  have g21 := get_of g21
  have hle : ∀ i, i ≤ 28 → (i ≤ D.length) = True := fun i hi => eq_true (by omega)
  by_cases q : w.length = 3
  case neg =>
    have hr : recW3 w = (⟨0, 0, 0⟩, 7) := recW3_len q
    rw [hr, if_neg (by decide)]
    refine ⟨D, g, den_open (fn := Tryz.f131) (by rfl) (by rfl) (by rfl) (by rfl) (by simp [Tryz.f131]) ?_, h0, Nat.le_refl _⟩
    have q' : ¬ ((w.length : Int) = 3) := by omega
    simp (maxSteps := 2000000) (disch := first | omega | (simp; done) | (simp; omega) | assumption) [Tryz.f131, argsE, -zo123, zo, isC, boxV, boxO, fresh_no, List.filter_cons, setB, aggN, op_build, List.set, hDl, hle, htk, hfl, q', q, z123_len]
  match w, q with
  | [w0, w1, w2], _ =>
    have hw22 := hw2 w2 (by simp)
    have e112 := fun lo g => s112 (lo := lo) (l := w2) (h := g) (by omega)
    simp only [recW3]
    by_cases qa : w1.length = 1
    case neg =>
      have hk : kndL w1 = (0, false) := by
        unfold kndL; split
        · simp at qa
        · rfl
      simp only [hk]
      have qa' : ¬ ((w1.length : Int) = 1) := by omega
      refine ⟨D, g, den_open (fn := Tryz.f131) (by rfl) (by rfl) (by rfl) (by rfl) (by simp [Tryz.f131]) ?_, h0, Nat.le_refl _⟩
      simp (maxSteps := 2000000) (disch := first | omega | (simp; done) | (simp; omega) | assumption) [Tryz.f131, argsE, -zo123, zo, isC, boxV, boxO, fresh_no, List.filter_cons, setB, aggN, op_build, List.set, strs, hDl, hle, htk, hfl, qa, qa', z123_len]
    obtain ⟨c, rfl⟩ := List.length_eq_one_iff.1 qa
    have e111 := fun lo g => s111 (lo := lo) (c := c) (h := g)
    simp only [kndL]
    obtain ⟨⟨kk, kb⟩, hk⟩ : ∃ K, kindR c = K := ⟨_, rfl⟩
    simp only [hk] at e111 ⊢
    cases kb with
    | false =>
      refine ⟨D, g, den_open (fn := Tryz.f131) (by rfl) (by rfl) (by rfl) (by rfl) (by simp [Tryz.f131]) ?_, h0, Nat.le_refl _⟩
      simp (maxSteps := 2000000) (disch := first | omega | (simp; done) | (simp; omega) | assumption) [Tryz.f131, argsE, -zo123, zo, isC, boxV, boxO, fresh_no, List.filter_cons, setB, aggN, op_build, List.set, strs, hDl, hle, htk, hfl, e111, z123_len]
    | true =>
      obtain ⟨⟨s0, s1, se⟩, hse⟩ : ∃ S, spanR w2 = S := ⟨_, rfl⟩
      simp only [hse] at e112 ⊢
      by_cases qe : se = 0
      case neg =>
        simp only [if_true, if_neg qe]
        refine ⟨D, g, den_open (fn := Tryz.f131) (by rfl) (by rfl) (by rfl) (by rfl) (by simp [Tryz.f131]) ?_, h0, Nat.le_refl _⟩
        simp (maxSteps := 2000000) (disch := first | omega | (simp; done) | (simp; omega) | assumption) [Tryz.f131, argsE, -zo123, zo, isC, boxV, boxO, fresh_no, List.filter_cons, setB, aggN, op_build, List.set, strs, hDl, hle, htk, hfl, e111, e112, qe, z123_len]
      subst qe
      simp only [if_true]
      rcases hX with ⟨hx, _⟩ | ⟨b, TT, h1, h2, rfl, h4, h5, h6⟩
      · exact absurd hx hne
      obtain ⟨T0, ⟨t, kt⟩, rfl⟩ : ∃ T0 x, TT = T0 ++ [x] := ⟨TT.dropLast, TT.getLast h2, (List.dropLast_concat_getLast h2).symm⟩
      have htp : tp = kt := by rw [h6]; simp [lastTk]
      subst htp
      have hl : y.d.trks = T0.map (·.1) ++ [t] := by rw [h1]; simp
      have hlen : y.d.trks.length = T0.length + 1 := by rw [hl]; simp
      have ht0 := z.t
      have hpast := z.p t (by rw [hl]; simp)
      have ha := hT.get (i := 5) rfl
      have hT1 := hT.ap (i := 5) rfl hlg
      have hc1 := ap_cells ha h5
      have hT2 := hT1.updc (o' := .cells (trC (T0 ++ [({ t with past := t.past ++ [⟨kk, s0, s1⟩] }, .tip g.length)]))) hc1
      have hbg : b < (apH g tp).length := by have := cellsAt_lt hc1; exact this
      refine ⟨D, (apH g tp).set b (.cells (trC (T0 ++ [({ t with past := t.past ++ [⟨kk, s0, s1⟩] }, .tip g.length)]))), den_open (fn := Tryz.f131) (by rfl) (by rfl) (by rfl) (by rfl) (by simp [Tryz.f131]) ?_, ⟨t1, t2, t3, t4, t5, .tip g.length, .msl b 0 y.d.trks.length 6, by rw [hD, ← hC], hT2, hb, .inr ⟨b, T0 ++ [({ t with past := t.past ++ [⟨kk, s0, s1⟩] }, .tip g.length)], ?_, by simp, ?_, h4, cellsAt_set hbg, by simp [lastTk]⟩⟩, by simp⟩
      · rw [hlen] at g21
        have e1 : ((T0.length : Int) + 1) - 1 = T0.length := by omega
        have k1 := trC_get (TT := T0) (x := (t, tp))
        simp only at k1
        have k1 := get_of k1
        have k2 := trC_set (TT := T0) (t := t) (k := tp) (k' := .tip g.length) (r := ⟨kk, s0, s1⟩)
        simp only [Rec.v] at k2
        have hrl : (recs t.past).length = t.past.length := by simp [recs]
        have hcl : (trC (T0 ++ [(t, tp)])).length = (T0.length + 1) * 6 := by rw [trC_len]; simp
        have e6 : (T0.length + 1) * 6 = T0.length * 6 + 6 := by omega
        have hle2 : (T0.length * 6 + 5 < (trC (T0 ++ [(t, tp)])).length) = True := eq_true (by omega)
        have hle3 : (T0.length * 6 + 5 + 1 ≤ (trC (T0 ++ [(t, tp)])).length) = True := eq_true (by omega)
        clear hC h1 hT hT1 hT2 h6
        simp (maxSteps := 2000000) (disch := first | omega | (simp; done) | (simp; omega) | assumption) [Tryz.f131, argsE, -zo123, zo, isC, boxV, boxO, fresh_no, List.filter_cons, setB, aggN, op_build, List.set, strs, hDl, hle, htk, hfl, e111, e112, z123_len, g21, e1, wrap64, h5, hc1, k1, k2, elemsV, h4, hrl, foot, Op.operands, opTmps, hle2, hle3]
        exact indep_of bf131_12 (by rfl)
      · simp only; rw [hl]; simp [addPast]
      · simp only; rw [hl]; simp [addPast]
end ZD
open Go Go.AM Go.Proofs Go.AM.Pl
set_option maxRecDepth 100000
set_option maxHeartbeats 4000000
namespace ZD
/-- One of the rows is not of ours any more. -/
theorem Tks.setnil {lo : Nat} {h : H} {ts : List AM.Tk} (T : Tks lo h ts) (i : Nat) : Tks lo h (ts.set i .nil) := by
  refine ⟨fun t ht => ?_, fun a b id hab ha hb => ?_⟩
  · obtain ⟨j, hj, rfl⟩ := List.mem_iff_getElem.1 ht
    rw [List.length_set] at hj
    by_cases q : j = i
    · subst q; rw [List.getElem_set_self]; exact Apd_nil
    · rw [List.getElem_set_ne (fun e => q e.symm)]; exact T.apd _ (List.getElem_mem hj)
  · rw [List.getElem?_set] at ha hb
    split at ha
    · split at ha <;> cases ha
    · split at hb
      · split at hb <;> cases hb
      · exact T.ne a b id hab ha hb
theorem trC_one {t : Trk} {k : AM.Tk} : trC [(t, k)] = [.i t.id, .i t.home, .i t.room, .i t.fixed, .i t.rate, AM.vs k 3 (recs t.past)] := by simp [trC]
theorem s76 {lo : Nat} {g : H} {D : List V} {y : Rdg} {w : List Ln} {at_ : Int} (hlg : lo ≤ g.length) (h : RgS lo g D y) (z : Ysz y) (hw : w ≠ []) (hw1 : w.length ≤ 1000000) (hw2 : ∀ x ∈ w, x.length ≤ 1000000) (hp : 0 ≤ y.places ∧ y.places ≤ 1000000) (h5 : y.next = 5 → y.d.trks ≠ []) :
    ∃ D' g', den cx lo 76 [.agg D, AM.vs .dead 1 (strs w), .i at_] g = some (.tup [.agg D', .i (takeR y w at_).2], g') ∧ RgS lo g' D' (takeR y w at_).1 ∧ g.length ≤ g'.length := by
  have h0 := h
  obtain ⟨t1, t2, t3, t4, t5, tp, X, hD, hT, hb, hX⟩ := h
  obtain ⟨C, hC⟩ : ∃ C : RG, (⟨y.d.bk, AM.vs t1 1 (rowsV y.d.ways), AM.vs t2 5 (ordsV y.d.ords), X, y.next, y.places, y.book, AM.vs t3 1 (ints y.rows), AM.vs t4 1 (ints y.orders), AM.vs t5 1 (ints y.trucks)⟩ : RG) = C := ⟨_, rfl⟩
  rw [hC] at hD
  have hbk : C.bk.length = 19 := by rw [← hC]; exact hb
  have hCn : C.next = y.next := by rw [← hC]
  have hCO : C.O = AM.vs t2 5 (ordsV y.d.ords) := by rw [← hC]
  have hCX : C.X = X := by rw [← hC]
  have hCr : C.Or = AM.vs t4 1 (ints y.orders) := by rw [← hC]
  have hCt : C.Tk = AM.vs t5 1 (ints y.trucks) := by rw [← hC]
  have hDl : D.length = 28 := by rw [hD]; exact rgl hbk
  have hfl := wr_all (cs := z123) (D := D) z123_len hDl (by omega)
  have htk : D.take 28 = D := List.take_of_length_le (by omega)
  have zo : zeroOf cx.P 123 = some (.agg z123) := zo123
  have g22 : D[22]? = some (.i y.next) := by rw [hD, rg_22 hbk, hCn]
  have g22 := get_of g22
  have hle : ∀ i, i ≤ 28 → (i ≤ D.length) = True := fun i hi => eq_true (by omega)
  obtain ⟨w0, r, rfl⟩ : ∃ w0 r, w = w0 :: r := by
    cases w with
    | nil => exact absurd rfl hw
    | cons a b => exact ⟨a, b, rfl⟩
  have hfg : fgL (List.map V.t r) = List.map V.t r := fgL_strs r
  unfold takeR
  simp only [List.headD_cons]
  by_cases n4 : y.next < 4
  · rw [if_pos n4]
    obtain ⟨D', g', e129, hr, hgl⟩ := s129 (at_ := at_) hlg h0 z hw hw1 hw2 hp
    have hl2 : D'.length = 28 := by
      obtain ⟨_, _, _, _, _, _, _, e, _, hb', _⟩ := hr
      rw [e]; exact rgl hb'
    have hfl2 := wr_all (cs := z123) (D := D') z123_len hl2 (by omega)
    have htk2 : D'.take 28 = D' := List.take_of_length_le (by omega)
    refine ⟨D', g', den_open (fn := Tryz.f76) (by rfl) (by rfl) (by rfl) (by rfl) (by simp [Tryz.f76]) ?_, hr, hgl⟩
    clear hr h0 hT hX hC
    simp (maxSteps := 2000000) (disch := first | omega | (simp; done) | (simp; omega) | assumption) [Tryz.f76, argsE, -zo123, zo, isC, boxV, boxO, fresh_no, List.filter_cons, setB, aggN, op_build, List.set, hDl, hle, htk, g22, n4, e129, hl2, hfl2, htk2, z123_len]
  rw [if_neg n4]
  by_cases n6 : y.next = 6
  · rw [if_pos n6]
    refine ⟨D, g, den_open (fn := Tryz.f76) (by rfl) (by rfl) (by rfl) (by rfl) (by simp [Tryz.f76]) ?_, h0, Nat.le_refl _⟩
    rw [n6] at g22
    clear h0 hT hX hC
    simp (maxSteps := 2000000) (disch := first | omega | (simp; done) | (simp; omega) | assumption) [Tryz.f76, argsE, -zo123, zo, isC, boxV, boxO, fresh_no, List.filter_cons, setB, aggN, op_build, List.set, hDl, hle, htk, g22, hfl, z123_len]
  rw [if_neg n6]
  by_cases qo : w0 = ordW ∧ y.next = 4
  · rw [if_pos qo]
    obtain ⟨rfl, ny⟩ := qo
    have e109 := fun lo g => s109 (lo := lo) (ls := ordW :: r) (h := g) (by omega) (fun x hx => by have := hw2 x hx; omega)
    obtain ⟨R, hR⟩ : ∃ R, ordR (ordW :: r) = R := ⟨_, rfl⟩
    rw [hR] at e109 ⊢
    simp only
    have ha2 := hT.get (i := 1) rfl
    have hT1 := hT.ap (i := 1) rfl hlg
    have hlg1 : lo ≤ (apH g t2).length := by simp; omega
    have ha4 := hT1.get (i := 3) rfl
    have hT2 := hT1.ap (i := 3) rfl hlg1
    have hzo := z.o
    have hzq := z.q
    have hX2 : TrX lo (apH (apH g t2) t4) X tp y.d.trks := (hX.keep fun b C' hc _ => ap_cells ha2 hc).keep fun b C' hc _ => ap_cells ha4 hc
    have g20 : D[20]? = some (AM.vs t2 5 (ordsV y.d.ords)) := by rw [hD, rg_20 hbk, hCO]
    have g20 := get_of g20
    have hos : ordsV y.d.ords ++ [(OrdR.o R).v] = ordsV (y.d.ords ++ [OrdR.o R]) := by simp [ordsV]
    have hin : ints y.orders ++ [V.i at_] = ints (y.orders ++ [at_]) := by rw [ints_snoc]
    have hol : (ordsV y.d.ords).length = y.d.ords.length := by simp [ordsV]
    have hql : (ints y.orders).length = y.orders.length := by simp [ints]
    obtain ⟨C1, hC1⟩ : ∃ C1 : RG, { C with O := AM.vs (.tip g.length) 5 (ordsV (y.d.ords ++ [OrdR.o R])) } = C1 := ⟨_, rfl⟩
    have hb1 : C1.bk.length = 19 := by rw [← hC1]; exact hbk
    have k1 : D.set 20 (AM.vs (.tip g.length) 5 (ordsV (y.d.ords ++ [OrdR.o R]))) = C1.cs := by rw [hD, rgs_20 hbk, hC1]
    have l1 := rgl hb1
    have h26 : C1.cs[26]? = some (AM.vs t4 1 (ints y.orders)) := by rw [rg_26 hb1, ← hC1, ← hCr]
    have h26 := get_of h26
    obtain ⟨C2, hC2⟩ : ∃ C2 : RG, { C1 with Or := AM.vs (.tip (g.length + 1)) 1 (ints (y.orders ++ [at_])) } = C2 := ⟨_, rfl⟩
    have hb2 : C2.bk.length = 19 := by rw [← hC2]; exact hb1
    have k2 : C1.cs.set 26 (AM.vs (.tip (g.length + 1)) 1 (ints (y.orders ++ [at_]))) = C2.cs := by rw [rgs_26 hb1, hC2]
    have l2 := rgl hb2
    have hfl2 := wr_all (cs := z123) (D := C2.cs) z123_len l2 (by omega)
    have htk2 := rg_tk (x := C2) hb2
    refine ⟨C2.cs, apH (apH g t2) t4, den_open (fn := Tryz.f76) (by rfl) (by rfl) (by rfl) (by rfl) (by simp [Tryz.f76]) ?_, ⟨t1, .tip g.length, t3, .tip (apH g t2).length, t5, tp, X, by rw [← hC2, ← hC1, ← hC]; simp, hT2, hb, hX2⟩, by simp; omega⟩
    rw [ny] at g22
    obtain ⟨⟨o1, o2, o3, o4, os⟩, ho⟩ : ∃ o, OrdR.o R = o := ⟨_, rfl⟩
    rw [ho] at hos k1
    simp only [ordV, ho, Ord.v, Ord.cs] at e109 hos
    simp only [ordW, strs, List.map_cons] at e109
    clear h0 hT hX hC hC1 hC2 hT1 hT2 hX2
    simp (maxSteps := 2000000) (disch := first | omega | (simp; done) | (simp; omega) | assumption) [Tryz.f76, argsE, -zo123, zo, isC, boxV, boxO, fresh_no, List.filter_cons, setB, aggN, op_build, List.set, hDl, hle, htk, g22, strs, ordW, hfg, e109, g20, elemsV, hos, hol, k1, l1, h26, hql, hin, k2, l2, hfl2, htk2, z123_len]
  rw [if_neg qo]
  by_cases a1 : w0 = ordW
  · subst a1
    have ny : ¬ y.next = 4 := fun e => qo ⟨rfl, e⟩
    rw [if_neg (by decide), if_neg (fun z => absurd z.1 (by decide)), if_neg (by intro e; injection e with e _; exact absurd e (by decide))]
    refine ⟨D, g, den_open (fn := Tryz.f76) (by rfl) (by rfl) (by rfl) (by rfl) (by simp [Tryz.f76]) ?_, h0, Nat.le_refl _⟩
    clear h0 hT hX hC
    simp (maxSteps := 2000000) (disch := first | omega | (simp; done) | (simp; omega) | assumption) [Tryz.f76, argsE, -zo123, zo, isC, boxV, boxO, fresh_no, List.filter_cons, setB, aggN, op_build, List.set, hDl, hle, htk, g22, n4, n6, ny, strs, ordW, hfl, z123_len]
  have a1' : ¬ w0 = [111, 114, 100, 101, 114] := a1
  by_cases a2 : w0 = truckW
  · rw [if_pos a2]
    have a2' : w0 = [116, 114, 117, 99, 107] := a2
    have hDf : (fgL D).length = 28 := by rw [fgL_len, hDl]
    have e130 := fun lo' g => s130 (lo := lo') (D := fgL D) (w := w0 :: r) (name := truckW) (n := 5) (h := g) hDf (fgL_fgL D) hw hw1 hw2 (by decide)
    have hln : (rowR (w0 :: r) truckW 5).2 = 0 → ((rowR (w0 :: r) truckW 5).1.length : Int) = 5 := by
      intro h0
      unfold rowR at h0 ⊢
      split at h0
      · rename_i a
        rw [if_pos a, allR_len h0]
        have := a.2
        simp at this ⊢; omega
      · exact absurd h0 (by decide)
    obtain ⟨⟨l, e⟩, hL⟩ : ∃ L, rowR (w0 :: r) truckW 5 = L := ⟨_, rfl⟩
    rw [hL] at e130 hln ⊢
    simp only [numV, truckW, strs, List.map_cons] at e130
    simp only at hln ⊢
    by_cases q : e = 0
    case neg =>
      rw [if_neg q]
      refine ⟨D, g, den_open (fn := Tryz.f76) (by rfl) (by rfl) (by rfl) (by rfl) (by simp [Tryz.f76]) ?_, h0, Nat.le_refl _⟩
      subst a2'
      clear h0 hT hX hC
      simp (maxSteps := 2000000) (disch := first | omega | (simp; done) | (simp; omega) | assumption) [Tryz.f76, argsE, -zo123, zo, isC, boxV, boxO, fresh_no, List.filter_cons, setB, aggN, op_build, List.set, hDl, hle, htk, g22, n4, n6, a1', strs, hfg, e130, q, hfl, z123_len]
      done
    subst q
    rw [if_pos rfl]
    obtain ⟨b1, b2, b3, b4, b5, rfl⟩ : ∃ b1 b2 b3 b4 b5, l = [b1, b2, b3, b4, b5] := by
      have : l.length = 5 := by have := hln rfl; omega
      match l, this with
      | [b1, b2, b3, b4, b5], _ => exact ⟨b1, b2, b3, b4, b5, rfl⟩
    have htr : trkOf [b1, b2, b3, b4, b5] = ⟨b1, b2, b3, b4, b5, []⟩ := rfl
    simp only [htr]
    simp only [ints, List.map_cons, List.map_nil] at e130
    have hzt := z.t
    have hzk := z.k
    have g21 : D[21]? = some X := by rw [hD, rg_21 hbk, hCX]
    have g21 := get_of g21
    have hin : ints y.trucks ++ [V.i at_] = ints (y.trucks ++ [at_]) := by rw [ints_snoc]
    have hkl : (ints y.trucks).length = y.trucks.length := by simp [ints]
    -- what is known behind the first append
    have key : ∀ (g1 : H) (X1 : V), g1.length = g.length + 1 → Tks lo g1 [t1, t2, t3, t4, t5, .nil] → TrX lo g1 X1 .nil (y.d.trks ++ [⟨b1, b2, b3, b4, b5, []⟩]) →
        (∀ (env : List (Nat × Ent)) (lb : List (Nat × List V)) (tk' : AM.Tk), appendV cx lo ⟨env, lb, g⟩ true 53 X (AM.vs tk' 6 [.agg [.i b1, .i b2, .i b3, .i b4, .i b5, AM.vs .nil 0 []]]) = some (X1, ⟨env, lb, g1⟩)) → (Ent.v X).val = some X → cellsOf X1 = [X1] → okv X1 = true → (Ent.v X1).val = some X1 →
        ∃ D' g', den cx lo 76 [.agg D, AM.vs .dead 1 (strs (w0 :: r)), .i at_] g = some (.tup [.agg D', .i 0], g') ∧ RgS lo g' D' { y with d := { y.d with trks := y.d.trks ++ [⟨b1, b2, b3, b4, b5, []⟩] }, trucks := y.trucks ++ [at_], next := 5 } ∧ g.length ≤ g'.length := by
      intro g1 X1 hg1 hT1 hX1 hap hxv hxc hxo hxv1
      have ha5 := hT1.get (i := 4) rfl
      have hlg1 : lo ≤ g1.length := by omega
      have hT2 := hT1.ap (i := 4) rfl hlg1
      have hX2 : TrX lo (apH g1 t5) X1 .nil (y.d.trks ++ [⟨b1, b2, b3, b4, b5, []⟩]) := hX1.keep fun b C' hc _ => ap_cells ha5 hc
      obtain ⟨C1, hC1⟩ : ∃ C1 : RG, { C with X := X1 } = C1 := ⟨_, rfl⟩
      have hb1 : C1.bk.length = 19 := by rw [← hC1]; exact hbk
      have k1 : D.set 21 X1 = C1.cs := by rw [hD, rgs_21 hbk, hC1]
      have l1 := rgl hb1
      have h27 : C1.cs[27]? = some (AM.vs t5 1 (ints y.trucks)) := by rw [rg_27 hb1, ← hC1, ← hCt]
      have h27 := get_of h27
      obtain ⟨C2, hC2⟩ : ∃ C2 : RG, { C1 with Tk := AM.vs (.tip g1.length) 1 (ints (y.trucks ++ [at_])) } = C2 := ⟨_, rfl⟩
      have hb2 : C2.bk.length = 19 := by rw [← hC2]; exact hb1
      have k2 : C1.cs.set 27 (AM.vs (.tip g1.length) 1 (ints (y.trucks ++ [at_]))) = C2.cs := by rw [rgs_27 hb1, hC2]
      have l2 := rgl hb2
      obtain ⟨C3, hC3⟩ : ∃ C3 : RG, { C2 with next := 5 } = C3 := ⟨_, rfl⟩
      have hb3 : C3.bk.length = 19 := by rw [← hC3]; exact hb2
      have k3 : C2.cs.set 22 (V.i 5) = C3.cs := by rw [rgs_22 hb2, hC3]
      have l3 := rgl hb3
      have hfl2 := wr_all (cs := z123) (D := C3.cs) z123_len l3 (by omega)
      have htk2 := rg_tk (x := C3) hb3
      refine ⟨C3.cs, apH g1 t5, den_open (fn := Tryz.f76) (by rfl) (by rfl) (by rfl) (by rfl) (by simp [Tryz.f76]) ?_, ⟨t1, t2, t3, t4, .tip g1.length, .nil, X1, by rw [← hC3, ← hC2, ← hC1, ← hC], hT2, hb, hX2⟩, by simp; omega⟩
      subst a2'
      clear h0 hT hX hC hC1 hC2 hC3 hT1 hT2 hX1 hX2
      simp (maxSteps := 2000000) (disch := first | omega | (simp; done) | (simp; omega) | assumption) [Tryz.f76, argsE, -zo123, zo, isC, boxV, boxO, fresh_no, List.filter_cons, setB, aggN, op_build, List.set, hDl, hle, htk, g22, n4, n6, a1', strs, hfg, e130, g21, elemsV, hap, hxv, hxc, hxo, hxv1, k1, l1, h27, hkl, hin, k2, l2, k3, l3, hfl2, htk2, foot, Op.operands, opTmps, z123_len]
      exact indep_of bf76_14 (by rfl)
    rcases hX with ⟨hx, rfl, rfl⟩ | ⟨b, TT, h1, h2, rfl, h4, h6, h7⟩
    · refine key (g ++ [.cells (trC [(⟨b1, b2, b3, b4, b5, []⟩, .nil)])]) (.msl g.length 0 1 6) (by simp) (hT.push) (.inr ⟨g.length, [(⟨b1, b2, b3, b4, b5, []⟩, .nil)], by rw [hx]; rfl, by simp, by rw [hx]; rfl, hlg, by simp, rfl⟩) (fun env lb tk' => ?_) rfl rfl rfl rfl
      have := aq53 (lo := lo) (w0 := 0) (st := ⟨env, lb, g⟩) (tk' := tk') (l' := [.agg [.i b1, .i b2, .i b3, .i b4, .i b5, AM.vs .nil 0 []]]) (by simp) (by simp)
      rw [this]
      rfl
    · have hbg := cellsAt_lt h6
      have hcl : (trC TT).length = y.d.trks.length * 6 := by rw [trC_len, h1]; simp
      refine key (g.set b .dead ++ [.cells (trC (TT ++ [(⟨b1, b2, b3, b4, b5, []⟩, .nil)]))]) (.msl g.length 0 (y.d.trks.length + 1) 6) (by simp) ?_ (.inr ⟨g.length, TT ++ [(⟨b1, b2, b3, b4, b5, []⟩, .nil)], by rw [h1]; simp, by simp, by simp, hlg, by rw [cellsAt_push' (by simp)], by simp [lastTk]⟩) (fun env lb tk' => ?_) rfl rfl rfl rfl
      · exact ZD.Tks.setnil ((hT.updc (o' := .dead) h6).push (l := [.cells (trC (TT ++ [((⟨b1, b2, b3, b4, b5, []⟩ : Trk), AM.Tk.nil)]))])) 5
      · have := am53 (lo := lo) (k := b) (n := y.d.trks.length) (m := true) (st := ⟨env, lb, g⟩) (tk' := tk') (l' := [.agg [.i b1, .i b2, .i b3, .i b4, .i b5, AM.vs .nil 0 []]]) h4 h6 hcl (by simp) (by simp; omega)
        rw [this]
        rw [trC_app, trC_one]
        rfl
  rw [if_neg a2]
  have a2' : ¬ w0 = [116, 114, 117, 99, 107] := a2
  by_cases a3 : w0 = pastW ∧ y.next = 5
  · rw [if_pos a3]
    obtain ⟨a3, ny⟩ := a3
    have a3' : w0 = [112, 97, 115, 116] := a3
    obtain ⟨D', g', e131, hr, hgl⟩ := s131 hlg h0 z hw hw1 hw2 (h5 ny)
    have hl2 : D'.length = 28 := by
      obtain ⟨_, _, _, _, _, _, _, e, _, hb', _⟩ := hr
      rw [e]; exact rgl hb'
    have hfl2 := wr_all (cs := z123) (D := D') z123_len hl2 (by omega)
    have htk2 : D'.take 28 = D' := List.take_of_length_le (by omega)
    refine ⟨D', g', ?_, ?_, hgl⟩
    · have hres : (if (recW3 (w0 :: r)).2 = 0 then ({ y with d := { y.d with trks := addPast y.d.trks (recW3 (w0 :: r)).1 } }, (0 : Int)) else (y, (recW3 (w0 :: r)).2)).2 = (recW3 (w0 :: r)).2 := by
        split
        · rename_i e; exact e.symm
        · rfl
      rw [hres]
      obtain ⟨E, hE⟩ : ∃ E, (recW3 (w0 :: r)).2 = E := ⟨_, rfl⟩
      rw [hE] at e131 ⊢
      refine den_open (fn := Tryz.f76) (by rfl) (by rfl) (by rfl) (by rfl) (by simp [Tryz.f76]) ?_
      rw [ny] at g22
      simp only [strs, List.map_cons] at e131
      subst a3'
      clear h0 hT hX hC hr hE hres
      simp (maxSteps := 2000000) (disch := first | omega | (simp; done) | (simp; omega) | assumption) [Tryz.f76, argsE, -zo123, zo, isC, boxV, boxO, fresh_no, List.filter_cons, setB, aggN, op_build, List.set, hDl, hle, htk, g22, a1', a2', strs, hfg, e131, hl2, hfl2, htk2, z123_len]
    · split
      · rename_i e; rw [if_pos e] at hr; exact hr
      · rename_i e; rw [if_neg e] at hr; exact hr
  rw [if_neg a3]
  by_cases a4 : w0 :: r = [endW]
  · rw [if_pos a4]
    injection a4 with a4 hrn
    subst hrn
    have a4' : w0 = [101, 110, 100] := a4
    have k1 : D.set 22 (V.i 6) = { C with next := 6 }.cs := by rw [hD, rgs_22 hbk]
    have hl2 := rgl (x := { C with next := 6 }) hbk
    have hfl2 := wr_all (cs := z123) (D := { C with next := 6 }.cs) z123_len hl2 (by omega)
    have htk2 := rg_tk (x := { C with next := 6 }) hbk
    refine ⟨{ C with next := 6 }.cs, g, den_open (fn := Tryz.f76) (by rfl) (by rfl) (by rfl) (by rfl) (by simp [Tryz.f76]) ?_, ⟨t1, t2, t3, t4, t5, tp, X, by rw [← hC], hT, hb, hX⟩, Nat.le_refl _⟩
    subst a4'
    clear h0 hT hX hC
    simp (maxSteps := 2000000) (disch := first | omega | (simp; done) | (simp; omega) | assumption) [Tryz.f76, argsE, -zo123, zo, isC, boxV, boxO, fresh_no, List.filter_cons, setB, aggN, op_build, List.set, hDl, hle, htk, g22, n4, n6, a1', a2', strs, k1, hl2, hfl2, htk2, z123_len]
  · rw [if_neg a4]
    refine ⟨D, g, den_open (fn := Tryz.f76) (by rfl) (by rfl) (by rfl) (by rfl) (by simp [Tryz.f76]) ?_, h0, Nat.le_refl _⟩
    by_cases p1 : w0 = [112, 97, 115, 116]
    · have ny : ¬ y.next = 5 := fun e => a3 ⟨p1, e⟩
      subst p1
      clear h0 hT hX hC
      simp (maxSteps := 2000000) (disch := first | omega | (simp; done) | (simp; omega) | assumption) [Tryz.f76, argsE, -zo123, zo, isC, boxV, boxO, fresh_no, List.filter_cons, setB, aggN, op_build, List.set, hDl, hle, htk, g22, n4, n6, ny, strs, hfl, z123_len]
    · by_cases p2 : w0 = [101, 110, 100]
      · have hrn : ¬ ((r.length : Int) + 1 = 1) := by
          intro e
          have : r = [] := List.length_eq_zero_iff.1 (by omega)
          exact a4 (by rw [p2, this]; rfl)
        subst p2
        clear h0 hT hX hC
        simp (maxSteps := 2000000) (disch := first | omega | (simp; done) | (simp; omega) | assumption) [Tryz.f76, argsE, -zo123, zo, isC, boxV, boxO, fresh_no, List.filter_cons, setB, aggN, op_build, List.set, hDl, hle, htk, g22, n4, n6, strs, hfl, hrn, z123_len]
      · clear h0 hT hX hC
        simp (maxSteps := 2000000) (disch := first | omega | (simp; done) | (simp; omega) | assumption) [Tryz.f76, argsE, -zo123, zo, isC, boxV, boxO, fresh_no, List.filter_cons, setB, aggN, op_build, List.set, hDl, hle, htk, g22, n4, n6, a1', a2', p1, p2, strs, hfl, z123_len]
end ZD

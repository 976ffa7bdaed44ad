/- What the reader's parts tell: lines, numbers, the first line. No condition. -/
import Derived.Test.YtieenbjncimikaaGreatDoorBCxP
import Derived.Test.YtieenbjncimikaaGreatDoorBSC
import Derived.Test.YtieenbjncimikaaGreatDoorBQA
import Derived.Test.YtieenbjncimikaaGreatDoorBPH
import Derived.Test.YtieenbjncimikaaGreatDoorBAmF
set_option linter.all false
open Go Go.AM Go.Proofs Go.AM.Pl
set_option maxRecDepth 100000
set_option maxHeartbeats 4000000
namespace ZD
/-- Does a text end with that byte? -/
def isSuf (c : UInt8) (l : List UInt8) : Bool := decide (l.getLast? = some c)
theorem s184 {lo : Nat} {l : List UInt8} {c : UInt8} {h : H} (hl : l.length ≤ 140737488355328) : den cx lo 184 [.t l, .t [c]] h = some (.b (isSuf c l), h) := by
  refine den_pure (fn := Tryz.f184) (by rfl) (by rfl) (by rfl) (by rfl) (by simp [Tryz.f184]) (by simp) ?_
  rcases List.eq_nil_or_concat l with rfl | ⟨b, d, rfl⟩
  · simp (maxSteps := 2000000) (disch := first | omega | (simp; done) | (simp; omega) | assumption) [Tryz.f184, argsE, isC, isSuf]
  · rw [List.concat_eq_append] at hl ⊢
    have h1 : (1 : Int) ≤ ((b.length : Int) + 1) := by omega
    have h2 : ((b.length : Int) + 1) - 1 = b.length := by omega
    simp at hl
    simp (maxSteps := 2000000) (disch := first | omega | (simp; done) | (simp; omega) | assumption) [Tryz.f184, argsE, isC, isSuf, h1, h2, wrap64]
theorem s159 {lo : Nat} {l : List UInt8} {c : UInt8} {h : H} (hl : l.length ≤ 140737488355328) : den cx lo 159 [.t l, .t [c]] h = some (.tup [.t (if isSuf c l = true then l.dropLast else l), .b (isSuf c l)], h) := by
  have e184 := fun lo => s184 (lo := lo) (c := c) (h := h) hl
  refine den_pure (fn := Tryz.f159) (by rfl) (by rfl) (by rfl) (by rfl) (by simp [Tryz.f159]) (by simp) ?_
  rcases List.eq_nil_or_concat l with rfl | ⟨b, d, rfl⟩
  · simp (maxSteps := 2000000) (disch := first | omega | (simp; done) | (simp; omega) | assumption) [Tryz.f159, argsE, isC, e184, isSuf, Cl1_tup, Cl1_agg, Cl1_vs]
  · rw [List.concat_eq_append] at hl e184 ⊢
    have h2 : ((b.length : Int) + 1) - 1 = b.length := by omega
    simp at hl
    by_cases q : isSuf c (b ++ [d]) = true
    · rw [q] at e184
      simp (maxSteps := 2000000) (disch := first | omega | (simp; done) | (simp; omega) | assumption) [Tryz.f159, argsE, isC, e184, q, h2, wrap64, Cl1_tup, Cl1_agg, Cl1_vs]
    · simp only [Bool.not_eq_true] at q
      rw [q] at e184
      simp (maxSteps := 2000000) (disch := first | omega | (simp; done) | (simp; omega) | assumption) [Tryz.f159, argsE, isC, e184, q, Cl1_tup, Cl1_agg, Cl1_vs]
theorem s122 {lo : Nat} {l : List UInt8} {c : UInt8} {h : H} (hl : l.length ≤ 140737488355328) : den cx lo 122 [.t l, .t [c]] h = some (.tup [.t (if isSuf c l = true then l.dropLast else l), .b (isSuf c l)], h) := by
  have e159 := fun lo => s159 (lo := lo) (c := c) (h := h) hl
  refine den_pure (fn := Tryz.f122) (by rfl) (by rfl) (by rfl) (by rfl) (by simp [Tryz.f122]) (by simp) ?_
  simp (maxSteps := 2000000) (disch := first | omega | (simp; done) | (simp; omega) | assumption) [Tryz.f122, argsE, e159, Cl1_tup, Cl1_agg, Cl1_vs]
/-- Lines, handed back. -/
def linV (l : List UInt8) : Option (List (List UInt8)) → V
  | some ls => .tup [AM.vs .dead 1 (strs ls), .i 0, .i 0]
  | none => .tup [AM.vs .dead 1 [], .i l.length, .i 8]
theorem d123 {lo : Nat} {l : List UInt8} {c : UInt8} {h : H} (hl : l.length < 4294967281) : den cx lo 123 [.t l, .t [c]] h = some (AM.vs .dead 1 (strs (splitL c l)), h) :=
  den_prim (g := pSplit) (by rfl) (by
    have : (bs l).size < 4294967281 := by rw [bs_size]; exact hl
    have h2 : (bs [c]).data.toList = [c] := rfl
    show pSplit [.t l, .t [c]] = _
    simp only [pSplit, V.t]
    rw [h2]
    simp only
    rw [if_pos this]; rfl)
theorem s67 {lo : Nat} {l : List UInt8} {h : H} (hl : l.length < 4294967281) : den cx lo 67 [.t l] h = some (linV l (lin [] l), h) := by
  have e122 := fun lo => s122 (lo := lo) (l := l) (c := 10) (h := h) (by omega)
  refine den_pure (fn := Tryz.f67) (by rfl) (by rfl) (by rfl) (by rfl) (by simp [Tryz.f67]) (by simp) ?_
  rcases List.eq_nil_or_concat l with rfl | ⟨b, d, rfl⟩
  · have : lin [] ([] : List UInt8) = some [] := rfl
    rw [this]
    simp (maxSteps := 2000000) (disch := first | omega | (simp; done) | (simp; omega) | assumption) [Tryz.f67, argsE, isC, Cl1_tup, Cl1_agg, Cl1_vs, linV, strs]
  · rw [List.concat_eq_append] at hl e122 ⊢
    have hne : ¬ (b ++ [d] = []) := by simp
    by_cases q : d = 10
    · subst q
      have hs : isSuf 10 (b ++ [10]) = true := by simp [isSuf]
      have hlin := lin_ended b [] (by simp)
      have e123 := fun lo => d123 (lo := lo) (l := b) (c := 10) (h := h) (by simp at hl; omega)
      rw [hlin]
      rw [hs] at e122
      simp only [if_true, List.dropLast_concat] at e122
      simp (maxSteps := 2000000) (disch := first | omega | (simp; done) | (simp; omega) | assumption) [Tryz.f67, argsE, isC, Cl1_tup, Cl1_agg, Cl1_vs, linV, e122, e123, hne]
    · have hs : isSuf 10 (b ++ [d]) = false := by simp [isSuf, q]
      rw [lin_open b [] d q]
      rw [hs] at e122
      simp (maxSteps := 2000000) (disch := first | omega | (simp; done) | (simp; omega) | assumption) [Tryz.f67, argsE, isC, Cl1_tup, Cl1_agg, Cl1_vs, linV, e122, hne]
end ZD
open Go Go.AM Go.Proofs Go.AM.Pl
set_option maxRecDepth 100000
set_option maxHeartbeats 4000000
namespace ZD
@[simp] theorem resultsV_t {c : Cx} {s : St} {t : Nat} : resultsV c s [.tmp t] = (getE s.env t).val := rfl
@[simp] theorem resultsV_c {c : Cx} {s : St} {a t : Nat} : resultsV c s [.cell a t] = loadAt c s t (getE s.env a) := rfl
@[simp] theorem resultsV_two {c : Cx} {s : St} {a b : ResultVar} {r : List ResultVar} : resultsV c s (a :: b :: r) = (resL c s (a :: b :: r)).map V.tup := rfl
/-- A reader's cells. -/
structure RC where
  ls : V
  at_ : V
  i : Int
  e : Int
  bk : List Int
  W : V
  O : V
  T : V
  book : Int
  rows : Int
  fr : Int
  K : V
def RC.cs (x : RC) : List V := [x.ls, x.at_, .i x.i, .i x.e] ++ ints x.bk ++ [x.W, x.O, x.T, .i x.book, .i x.rows, .i x.fr, x.K]
section
variable {x : RC} {v : V} {n : Int}
theorem rdc_len (hb : x.bk.length = 19) : x.cs.length = 30 := by simp [RC.cs, ints, hb]
theorem rc_g0 : x.cs[0]? = some x.ls := rfl
theorem rc_g1 : x.cs[1]? = some x.at_ := rfl
theorem rc_g2 : x.cs[2]? = some (.i x.i) := rfl
theorem rc_g3 : x.cs[3]? = some (.i x.e) := rfl
theorem rc_g23 (hb : x.bk.length = 19) : x.cs[23]? = some x.W := by simp [RC.cs, ints, hb]
theorem rc_g24 (hb : x.bk.length = 19) : x.cs[24]? = some x.O := by simp [RC.cs, ints, hb]
theorem rc_g25 (hb : x.bk.length = 19) : x.cs[25]? = some x.T := by simp [RC.cs, ints, hb]
theorem rc_g26 (hb : x.bk.length = 19) : x.cs[26]? = some (.i x.book) := by simp [RC.cs, ints, hb]
theorem rc_g27 (hb : x.bk.length = 19) : x.cs[27]? = some (.i x.rows) := by simp [RC.cs, ints, hb]
theorem rc_g28 (hb : x.bk.length = 19) : x.cs[28]? = some (.i x.fr) := by simp [RC.cs, ints, hb]
theorem rc_g29 (hb : x.bk.length = 19) : x.cs[29]? = some x.K := by simp [RC.cs, ints, hb]
theorem rc_s1 : x.cs.set 1 v = { x with at_ := v }.cs := rfl
theorem rc_s2 : x.cs.set 2 (.i n) = { x with i := n }.cs := rfl
theorem rc_s3 : x.cs.set 3 (.i n) = { x with e := n }.cs := rfl
theorem rc_s23 (hb : x.bk.length = 19) : x.cs.set 23 v = { x with W := v }.cs := by
  obtain ⟨_, _, _, _, b, _, _, _, _, _, _, _⟩ := x
  obtain ⟨b0, b1, b2, b3, b4, b5, b6, b7, b8, b9, b10, b11, b12, b13, b14, b15, b16, b17, b18, rfl⟩ := len19 hb
  rfl
theorem rc_s24 (hb : x.bk.length = 19) : x.cs.set 24 v = { x with O := v }.cs := by
  obtain ⟨_, _, _, _, b, _, _, _, _, _, _, _⟩ := x
  obtain ⟨b0, b1, b2, b3, b4, b5, b6, b7, b8, b9, b10, b11, b12, b13, b14, b15, b16, b17, b18, rfl⟩ := len19 hb
  rfl
theorem rc_s25 (hb : x.bk.length = 19) : x.cs.set 25 v = { x with T := v }.cs := by
  obtain ⟨_, _, _, _, b, _, _, _, _, _, _, _⟩ := x
  obtain ⟨b0, b1, b2, b3, b4, b5, b6, b7, b8, b9, b10, b11, b12, b13, b14, b15, b16, b17, b18, rfl⟩ := len19 hb
  rfl
theorem rc_s26 (hb : x.bk.length = 19) : x.cs.set 26 (.i n) = { x with book := n }.cs := by
  obtain ⟨_, _, _, _, b, _, _, _, _, _, _, _⟩ := x
  obtain ⟨b0, b1, b2, b3, b4, b5, b6, b7, b8, b9, b10, b11, b12, b13, b14, b15, b16, b17, b18, rfl⟩ := len19 hb
  rfl
theorem rc_s27 (hb : x.bk.length = 19) : x.cs.set 27 (.i n) = { x with rows := n }.cs := by
  obtain ⟨_, _, _, _, b, _, _, _, _, _, _, _⟩ := x
  obtain ⟨b0, b1, b2, b3, b4, b5, b6, b7, b8, b9, b10, b11, b12, b13, b14, b15, b16, b17, b18, rfl⟩ := len19 hb
  rfl
theorem rc_s28 (hb : x.bk.length = 19) : x.cs.set 28 (.i n) = { x with fr := n }.cs := by
  obtain ⟨_, _, _, _, b, _, _, _, _, _, _, _⟩ := x
  obtain ⟨b0, b1, b2, b3, b4, b5, b6, b7, b8, b9, b10, b11, b12, b13, b14, b15, b16, b17, b18, rfl⟩ := len19 hb
  rfl
theorem rc_s29 (hb : x.bk.length = 19) : x.cs.set 29 v = { x with K := v }.cs := by
  obtain ⟨_, _, _, _, b, _, _, _, _, _, _, _⟩ := x
  obtain ⟨b0, b1, b2, b3, b4, b5, b6, b7, b8, b9, b10, b11, b12, b13, b14, b15, b16, b17, b18, rfl⟩ := len19 hb
  rfl
theorem rc_sb (hb : x.bk.length = 19) {l : List Int} : x.cs.take 4 ++ ints l ++ x.cs.drop 23 = { x with bk := l }.cs := by
  obtain ⟨_, _, _, _, b, _, _, _, _, _, _, _⟩ := x
  obtain ⟨b0, b1, b2, b3, b4, b5, b6, b7, b8, b9, b10, b11, b12, b13, b14, b15, b16, b17, b18, rfl⟩ := len19 hb
  rfl
theorem rc_dep (hb : x.bk.length = 19) : (x.cs.drop 4).take 22 = ints x.bk ++ [x.W, x.O, x.T] := by
  obtain ⟨_, _, _, _, b, _, _, _, _, _, _, _⟩ := x
  obtain ⟨b0, b1, b2, b3, b4, b5, b6, b7, b8, b9, b10, b11, b12, b13, b14, b15, b16, b17, b18, rfl⟩ := len19 hb
  rfl
theorem rc_le (hb : x.bk.length = 19) {i : Nat} (hi : i ≤ 30) : (i ≤ x.cs.length) = True := eq_true (by rw [rdc_len hb]; exact hi)
end
@[simp] theorem sh124 : shuts cx 124 = false := by rfl
@[simp] theorem sh125 : shuts cx 125 = false := by rfl
@[simp] theorem sh126 : shuts cx 126 = false := by rfl
theorem s125 {lo p : Nat} {x : RC} {g : H} {n : Int} (hb : x.bk.length = 19) (hp : cellsAt g p = some x.cs) (hl : lo ≤ p) : den cx lo 125 [.ptr p 0, .i n] g = some (.b (decide ((if x.e = 0 then n else x.e) = 0)), g.set p (.cells { x with e := if x.e = 0 then n else x.e }.cs)) := by
  have hbg := cellsAt_lt hp
  have hcs : ∀ X, cellsAt (g.set p (.cells X)) p = some X := fun X => cellsAt_set hbg
  refine den_open (fn := Tryz.f125) (by rfl) (by rfl) (by rfl) (by rfl) (by simp [Tryz.f125]) ?_
  by_cases q : x.e = 0
  · simp (maxSteps := 2000000) (disch := first | omega | (simp; done) | (simp; omega) | assumption) [Tryz.f125, argsE, isC, hp, hl, boxV, boxO, fresh_no, List.filter_cons, setB, aggN, op_build, List.set, foot, Op.operands, opTmps, q, hcs, rc_le hb, rc_g3, rc_s3]
  · have e2 := h_same hp
    simp (maxSteps := 2000000) (disch := first | omega | (simp; done) | (simp; omega) | assumption) [Tryz.f125, argsE, isC, hp, hl, boxV, boxO, fresh_no, List.filter_cons, setB, aggN, op_build, List.set, foot, Op.operands, opTmps, q, hcs, rc_le hb, rc_g3, rc_s3, e2]
end ZD
open Go Go.AM Go.Proofs Go.AM.Pl
set_option maxRecDepth 100000
set_option maxHeartbeats 4000000
namespace ZD
def wdsR (l : Ln) : List Wd := match splR l with
  | .ok ws => ws
  | .error _ => []
theorem wrds_eq (l : Ln) : wrds l = (wdsR l).map (·.2) := by
  unfold wrds wordsR wdsR
  cases splR l with
  | error p => rfl
  | ok ws => simp only; by_cases h : ws = [] <;> simp [h]
theorem wdsR_len (l : Ln) : (wdsR l).length ≤ l.length + 1 := by
  unfold wdsR
  cases h : splR l with
  | error p => simp
  | ok ws => exact splR_count h
theorem wdsR_wl (l : Ln) : ∀ x ∈ wdsR l, x.2.length ≤ l.length := by
  unfold wdsR
  cases h : splR l with
  | error p => simp
  | ok ws => exact fun x hx => splR_wl h x hx
/-- A line's words, and the error. -/
def lineW (ls : List Ln) (i e : Int) (first : Ln) (n : Int) : List Wd × Int :=
  if e = 0 then (if i < ls.length then (if wdsR (ls.getD i.toNat []) ≠ [] ∧ (((wdsR (ls.getD i.toNat [])).map (·.2)).headD []) = first ∧ (n < 0 ∨ ((wdsR (ls.getD i.toNat [])).length : Int) = n + 1) then (wdsR (ls.getD i.toNat []), 0) else ([], 7)) else ([], 8)) else ([], e)
theorem lineW_eq (x : Rdr) (f : Ln) (n : Int) : lineX x f n = ((lineW x.ls x.i x.e f n).1.map (·.2), (lineW x.ls x.i x.e f n).2) := by
  unfold lineX lineW Rdr.cur
  rw [wrds_eq]
  simp only [List.length_map]
  have hm : ∀ a : List Wd, a.map (·.2) ≠ [] ↔ a ≠ [] := fun a => by simp
  simp only [hm]
  split
  · split
    · split <;> simp_all
    · rfl
  · rfl
/-- What a line hands back. -/
def lineV (y : List Wd × Int) : V := if y.2 = 0 then .tup [AM.vs .dead 2 (wds y.1), .b true] else .tup [AM.vs .nil 0 [], .b false]
theorem lines_at {ls : List Ln} {j : Nat} (h : j < ls.length) : ls.getD (j : Int).toNat [] = ls[j] := by simp [List.getD, h]
theorem s124 {lo p : Nat} {x : RC} {ls : List Ln} {g : H} {f : Ln} {n : Int} (hb : x.bk.length = 19) (hp : cellsAt g p = some x.cs) (hl : lo ≤ p) (hls : x.ls = AM.vs .dead 1 (strs ls)) (hi : 0 ≤ x.i) (hn : -1 ≤ n ∧ n ≤ 1000000) (hw : ∀ l ∈ ls, l.length ≤ 1000000000) :
    den cx lo 124 [.ptr p 0, .t f, .i n] g = some (lineV (lineW ls x.i x.e f n), g.set p (.cells { x with e := (lineW ls x.i x.e f n).2 }.cs)) := by
  have hbg := cellsAt_lt hp
  have e2 := h_same hp
  have e125 := fun lo' n (hl' : lo' ≤ p) => s125 (lo := lo') (n := n) hb hp hl'
  obtain ⟨j, hj⟩ : ∃ j : Nat, x.i = j := ⟨x.i.toNat, by omega⟩
  have g0 : x.cs[0]? = some (AM.vs .dead 1 (strs ls)) := by rw [rc_g0, hls]
  have g2 : x.cs[2]? = some (.i (j : Int)) := by rw [rc_g2, hj]
  refine den_open (fn := Tryz.f124) (by rfl) (by rfl) (by rfl) (by rfl) (by simp [Tryz.f124]) ?_
  by_cases q : x.e = 0
  case neg =>
    have hv : lineW ls x.i x.e f n = ([], x.e) := by unfold lineW; rw [if_neg q]
    rw [hv]
    simp (maxSteps := 2000000) (disch := first | omega | (simp; done) | (simp; omega) | assumption) [Tryz.f124, argsE, isC, hp, hl, boxV, boxO, fresh_no, List.filter_cons, setB, aggN, op_build, List.set, foot, Op.operands, opTmps, q, rc_le hb, rc_g3, lineV, e2]
  by_cases hlt : j < ls.length
  case neg =>
    have hv : lineW ls x.i x.e f n = ([], 8) := by unfold lineW; rw [if_pos q, if_neg (by omega)]
    rw [hv]
    have hge : ¬ ((j : Int) < (ls.length : Int)) := by omega
    have hge' : (ls.length : Int) ≤ (j : Int) := by omega
    simp only [q, if_true] at e125
    simp (maxSteps := 2000000) (disch := first | omega | (simp; done) | (simp; omega) | assumption) [Tryz.f124, argsE, isC, hp, hl, boxV, boxO, fresh_no, List.filter_cons, setB, aggN, op_build, List.set, foot, Op.operands, opTmps, q, rc_le hb, rc_g3, g0, g2, lineV, e125, hge', hge]
    exact indep_of bf124_3 (by rfl)
  have hv : lineW ls x.i x.e f n = (if wdsR ls[j] ≠ [] ∧ (((wdsR ls[j]).map (·.2)).headD []) = f ∧ (n < 0 ∨ ((wdsR ls[j]).length : Int) = n + 1) then (wdsR ls[j], 0) else ([], 7)) := by unfold lineW; rw [if_pos q, if_pos (by omega), hj, lines_at hlt]
  rw [hv]
  have hlt' : (j : Int) < (ls.length : Int) := by omega
  have hge : ¬ ((ls.length : Int) ≤ (j : Int)) := by omega
  have hlj := hw _ (List.getElem_mem hlt)
  have hwl := wdsR_len ls[j]
  obtain ⟨l, hll⟩ : ∃ l, ls[j] = l := ⟨_, rfl⟩
  rw [hll] at hlj hwl ⊢
  have e42 := fun lo => s42 (lo := lo) (l := l) (h := g) (by omega)
  have hix : (List.map V.t ls)[j]? = some (V.t l) := by simp [hlt, hll]
  simp only [q, if_true] at e125
  unfold wdsR at hwl ⊢
  cases hs : splR l with
  | error pp =>
    rw [hs] at e42
    simp only [resV] at e42
    rw [if_neg (by simp)]
    simp (maxSteps := 2000000) (disch := first | omega | (simp; done) | (simp; omega) | assumption) [Tryz.f124, argsE, isC, hp, hl, boxV, boxO, fresh_no, List.filter_cons, setB, aggN, op_build, List.set, foot, Op.operands, opTmps, q, rc_le hb, rc_g3, g0, g2, lineV, e125, hge, hlt, strs, hll, e42]
    exact ⟨indep_of bf124_3 (by rfl), indep_of bf124_5 (by rfl)⟩
  | ok ws =>
    rw [hs] at e42 hwl
    simp only [resV] at e42
    simp only at hwl
    cases ws with
    | nil =>
      rw [if_neg (by simp)]
      simp (maxSteps := 2000000) (disch := first | omega | (simp; done) | (simp; omega) | assumption) [Tryz.f124, argsE, isC, hp, hl, boxV, boxO, fresh_no, List.filter_cons, setB, aggN, op_build, List.set, foot, Op.operands, opTmps, q, rc_le hb, rc_g3, g0, g2, lineV, e125, hge, hlt, strs, hll, e42, wds]
      exact ⟨indep_of bf124_3 (by rfl), indep_of bf124_5 (by rfl)⟩
    | cons w r =>
      simp only [ne_eq, reduceCtorEq, not_false_eq_true, true_and, List.map_cons, List.headD_cons]
      have hz : ¬ ((r.length : Int) + 1 = 0) := by omega
      have e3 : g.set p (.cells { x with e := 0 }.cs) = g := by rw [show ({ x with e := 0 } : RC) = x by rw [← q]]; exact e2
      by_cases qf : w.2 = f
      case neg =>
        rw [if_neg (fun z => qf z.1)]
        simp (maxSteps := 2000000) (disch := first | omega | (simp; done) | (simp; omega) | assumption) [Tryz.f124, argsE, isC, hp, hl, boxV, boxO, fresh_no, List.filter_cons, setB, aggN, op_build, List.set, foot, Op.operands, opTmps, q, rc_le hb, rc_g3, g0, g2, lineV, e125, hge, hlt, strs, hll, e42, wds, wdv, hz, qf]
        exact ⟨indep_of bf124_3 (by rfl), indep_of bf124_5 (by rfl)⟩
      by_cases qn : 0 ≤ n
      case neg =>
        have qn1 : n < 0 := by omega
        rw [if_pos ⟨qf, .inl qn1⟩]
        simp (maxSteps := 2000000) (disch := first | omega | (simp; done) | (simp; omega) | assumption) [Tryz.f124, argsE, isC, hp, hl, boxV, boxO, fresh_no, List.filter_cons, setB, aggN, op_build, List.set, foot, Op.operands, opTmps, q, rc_le hb, rc_g3, g0, g2, lineV, e125, hge, hlt, strs, hll, e42, wds, wdv, hz, qf, qn, e3]
        exact ⟨indep_of bf124_3 (by rfl), indep_of bf124_5 (by rfl)⟩
      by_cases ql : (((w :: r).length : Nat) : Int) = n + 1
      · rw [if_pos ⟨qf, .inr ql⟩]
        replace ql : (r.length : Int) = n := by simp at ql; omega
        have hn0 : ¬ (n + 1 = 0) := by omega
        simp (maxSteps := 2000000) (disch := first | omega | (simp; done) | (simp; omega) | assumption) [Tryz.f124, argsE, isC, hp, hl, boxV, boxO, fresh_no, List.filter_cons, setB, aggN, op_build, List.set, foot, Op.operands, opTmps, q, rc_le hb, rc_g3, g0, g2, lineV, e125, hge, hlt, strs, hll, e42, wds, wdv, hz, qf, qn, ql, hn0, wrap64, e3]
        exact ⟨indep_of bf124_3 (by rfl), indep_of bf124_5 (by rfl)⟩
      · rw [if_neg (fun z => z.2.elim (fun z => by omega) ql)]
        replace ql : ¬ ((r.length : Int) = n) := by simp at ql; omega
        simp (maxSteps := 2000000) (disch := first | omega | (simp; done) | (simp; omega) | assumption) [Tryz.f124, argsE, isC, hp, hl, boxV, boxO, fresh_no, List.filter_cons, setB, aggN, op_build, List.set, foot, Op.operands, opTmps, q, rc_le hb, rc_g3, g0, g2, lineV, e125, hge, hlt, strs, hll, e42, wds, wdv, hz, qf, qn, ql, wrap64]
        exact ⟨indep_of bf124_3 (by rfl), indep_of bf124_5 (by rfl)⟩
end ZD
open Go Go.AM Go.Proofs Go.AM.Pl
set_option maxRecDepth 100000
set_option maxHeartbeats 4000000
namespace ZD
theorem one9_m {i : Nat} {w : List UInt8} : one9 (-1) i w = numR w M9 := by
  unfold one9; rw [if_neg (by omega)]
theorem s161 {lo : Nat} {ws : List Wd} {h : H} (h1 : ws.length ≤ 100000000) (h2 : ∀ x ∈ ws, x.2.length ≤ 4294967280) : den cx lo 161 [AM.vs .dead 2 (wds ws)] h = some (numV (allR (ws.map (·.2))), h) := by
  unfold allR
  refine den_pure (fn := Tryz.f161) (by rfl) (by rfl) (by rfl) (by rfl) (by simp [Tryz.f161]) (by simp) ?_
  simp (maxSteps := 2000000) (disch := first | omega | (simp; done) | (simp; omega) | assumption) [Tryz.f161, argsE]
  obtain ⟨I, hI⟩ : ∃ I : Nat → List Ent → List (Nat × List V) → H → Prop, I = (fun n vs lb g => ∃ (j : Nat) (t : Tk) (out : List Int), n + j = ws.length ∧ out.length ≤ j ∧ Apd h.length g t ∧ h.length ≤ g.length ∧ numsR (-1) 0 (ws.map (·.2)) [] = numsR (-1) j ((ws.drop j).map (·.2)) out ∧ vs = [.v (.i j), .v (AM.vs t 1 (ints out))] ∧ lb = []) := ⟨_, rfl⟩
  refine Wp.loopQ I (n := ws.length) (by rw [hI]; exact ⟨0, .nil, [], by simp, by simp, by simp, by simp, by simp, by simp [ints], by simp⟩) ?_
  intro n vs lb g hi Q hQ; rw [hI] at hi; obtain ⟨j, t, out, hj, ho, ha, hg, he, rfl, rfl⟩ := hi
  by_cases hlt : j < ws.length
  case neg =>
    obtain rfl : j = ws.length := by omega
    rw [List.drop_of_length_le (Nat.le_refl _)] at he
    simp only [List.map_nil, numsR] at he
    clear hI
    simp (maxSteps := 2000000) (disch := first | omega | (simp; done) | (simp; omega) | assumption) []
    refine hQ _ _ ?_
    rw [he]
    simp (maxSteps := 2000000) (disch := first | omega | (simp; done) | (simp; omega) | assumption) [Cl1_tup, Cl1_agg, Cl1_vs, numV]
  have hwl := h2 _ (List.getElem_mem hlt)
  have hwl' : (ws[j]).2.length ≤ 140737488355328 := by omega
  rw [List.drop_eq_getElem_cons hlt] at he
  simp only [List.map_cons, numsR, one9_m] at he
  by_cases h3 : (numR (ws[j]).2 M9).2 = 0
  · rw [if_pos h3] at he
    have go : I (n - 1) [.v (.i ((j : Int) + 1)), .v (AM.vs (.tip g.length) 1 (ints out ++ [.i (numR (ws[j]).2 M9).1]))] [] (apH g t) := by
      rw [hI]; exact ⟨j + 1, .tip g.length, out ++ [(numR (ws[j]).2 M9).1], by omega, by simp; omega, Apd_ap hg, by simp; omega, he, by rw [ints_snoc]; simp, rfl⟩
    clear hI he
    simp (maxSteps := 2000000) (disch := first | omega | (simp; done) | (simp; omega) | assumption) [isC, boxV, boxO, fresh_no, List.filter_cons, setB, aggN, op_build, List.set, wdv, wrap64, hlt, s140, h3, hwl', elemsV]
    exact ⟨n - 1, by omega, go⟩
  · rw [if_neg h3] at he
    clear hI
    simp (maxSteps := 2000000) (disch := first | omega | (simp; done) | (simp; omega) | assumption) [isC, boxV, boxO, fresh_no, List.filter_cons, setB, aggN, op_build, List.set, wdv, wrap64, hlt, s140, h3, hwl']
    refine hQ _ _ ?_
    rw [he]
    simp (maxSteps := 2000000) (disch := first | omega | (simp; done) | (simp; omega) | assumption) [Cl1_tup, Cl1_agg, Cl1_vs, numV, ints]
theorem numsR_bound : ∀ (w : List Ln) (i : Nat) (out : List Int), (∀ n ∈ out, 0 ≤ n ∧ n ≤ M9) → ∀ n ∈ (numsR (-1) i w out).1, 0 ≤ n ∧ n ≤ M9
  | [], _, out, h => by simpa [numsR] using h
  | w :: r, i, out, h => by
    simp only [numsR, one9_m]
    split
    · rename_i q
      refine numsR_bound r (i + 1) _ fun n hn => ?_
      rcases List.mem_append.1 hn with hn | hn
      · exact h n hn
      · obtain rfl := List.mem_singleton.1 hn
        refine ⟨(numR_range w M9).1, ?_⟩
        unfold numR at q ⊢
        split
        · split
          · split
            · simp [M9]
            · rename_i a b c; simpa using c
          · simp [M9]
        · simp [M9]
    · simp
theorem allR_bound (w : List Ln) : ∀ n ∈ (allR w).1, 0 ≤ n ∧ n ≤ M9 := numsR_bound w 0 [] (by simp)
theorem numsR_len : ∀ (w : List Ln) (i : Nat) (out : List Int), (numsR (-1) i w out).2 = 0 → (numsR (-1) i w out).1.length = out.length + w.length
  | [], _, out, h => by simp [numsR]
  | w :: r, i, out, h => by
    simp only [numsR] at h ⊢
    split
    · rename_i q
      rw [if_pos q] at h
      rw [numsR_len r (i + 1) _ h]; simp; omega
    · rename_i q; rw [if_neg q] at h; exact absurd h q
theorem allR_len {w : List Ln} (h : (allR w).2 = 0) : (allR w).1.length = w.length := by
  unfold allR at h ⊢; rw [numsR_len w 0 [] h]; simp
/-- A row of numbers, and the error. -/
def rowE (ls : List Ln) (i e : Int) (first : Ln) (n : Int) : List Int × Int :=
  if (lineW ls i e first n).2 = 0 then (if (allR ((lineW ls i e first n).1.tail.map (·.2))).2 = 0 then ((allR ((lineW ls i e first n).1.tail.map (·.2))).1, 0) else ([], (allR ((lineW ls i e first n).1.tail.map (·.2))).2)) else ([], (lineW ls i e first n).2)
theorem rowE_eq (x : Rdr) (f : Ln) (n : Int) : rowX x f n = ((rowE x.ls x.i x.e f n).1, { x with i := if (rowE x.ls x.i x.e f n).2 = 0 then x.i + 1 else x.i, e := (rowE x.ls x.i x.e f n).2 }) := by
  have he : (lineW x.ls x.i x.e f n).2 = 0 → x.e = 0 := by
    unfold lineW; split
    · intro _; assumption
    · intro h; exact h
  unfold rowX rowE
  rw [lineW_eq]
  simp only [List.map_tail]
  by_cases q : (lineW x.ls x.i x.e f n).2 = 0
  · simp only [if_pos q]
    by_cases q2 : (allR ((lineW x.ls x.i x.e f n).1.map (·.2)).tail).2 = 0
    · simp only [if_pos q2, if_true]; rw [← he q]
    · simp only [if_neg q2]
  · simp only [if_neg q]
def rowVv (y : List Int × Int) : V := if y.2 = 0 then .tup [AM.vs .dead 1 (ints y.1), .b true] else .tup [AM.vs .nil 0 [], .b false]
theorem lineW_small {ls : List Ln} {i e : Int} {f : Ln} {n : Int} (hw : ∀ l ∈ ls, l.length ≤ 10000000) : (lineW ls i e f n).1.length ≤ 10000001 ∧ ∀ x ∈ (lineW ls i e f n).1, x.2.length ≤ 10000000 := by
  unfold lineW
  split
  · split
    · split
      · have hl : (ls.getD i.toNat []).length ≤ 10000000 := by
          simp only [List.getD]
          cases h : ls[i.toNat]? with
          | none => simp
          | some l => simpa using hw l (List.mem_of_getElem? h)
        refine ⟨?_, fun x hx => ?_⟩
        · have := wdsR_len (ls.getD i.toNat []); simp only at this ⊢; omega
        · have := wdsR_wl (ls.getD i.toNat []) x hx; omega
      · simp
    · simp
  · simp
theorem lineW_ok {ls : List Ln} {i e : Int} {f : Ln} {n : Int} (h : (lineW ls i e f n).2 = 0) : e = 0 ∧ i < ls.length ∧ (lineW ls i e f n).1 ≠ [] ∧ (0 ≤ n → ((lineW ls i e f n).1.length : Int) = n + 1) := by
  unfold lineW at h ⊢
  split at h
  · split at h
    · split at h
      · rename_i a b c
        rw [if_pos a, if_pos b, if_pos c]
        exact ⟨a, b, c.1, fun hn => by rcases c.2.2 with q | q; omega; exact q⟩
      · simp at h
    · simp at h
  · rename_i a; exact absurd h a
theorem rowE_ok {ls : List Ln} {i e : Int} {f : Ln} {n : Int} (hn : 0 ≤ n) (h : (rowE ls i e f n).2 = 0) : e = 0 ∧ i < ls.length ∧ ((rowE ls i e f n).1.length : Int) = n := by
  unfold rowE at h ⊢
  split at h
  · rename_i q
    obtain ⟨a, b, c, d⟩ := lineW_ok q
    split at h
    · rename_i q2
      rw [if_pos q, if_pos q2, allR_len q2]
      refine ⟨a, b, ?_⟩
      have := d hn
      simp; omega
    · rename_i q2; exact absurd h q2
  · rename_i q; exact absurd h q
theorem wds_cons {w : Wd} {r : List Wd} : wds (w :: r) = wdv w :: wds r := rfl
theorem s126 {lo p : Nat} {x : RC} {ls : List Ln} {g : H} {f : Ln} {n : Int} (hb : x.bk.length = 19) (hp : cellsAt g p = some x.cs) (hl : lo ≤ p) (hls : x.ls = AM.vs .dead 1 (strs ls)) (hi : 0 ≤ x.i ∧ x.i ≤ 1000000000) (hn : -1 ≤ n ∧ n ≤ 1000000) (hw : ∀ l ∈ ls, l.length ≤ 10000000) :
    den cx lo 126 [.ptr p 0, .t f, .i n] g = some (rowVv (rowE ls x.i x.e f n), g.set p (.cells { x with i := if (rowE ls x.i x.e f n).2 = 0 then x.i + 1 else x.i, e := (rowE ls x.i x.e f n).2 }.cs)) := by
  have hbg := cellsAt_lt hp
  have hcs : ∀ X, cellsAt (g.set p (.cells X)) p = some X := fun X => cellsAt_set hbg
  have e124 := fun lo' (hl' : lo' ≤ p) => s124 (lo := lo') (f := f) (n := n) hb hp hl' hls hi.1 hn (fun l h => by have := hw l h; omega)
  have hsm := lineW_small (ls := ls) (i := x.i) (e := x.e) (f := f) (n := n) hw
  unfold rowE
  obtain ⟨⟨ws, e'⟩, hL⟩ : ∃ L, lineW ls x.i x.e f n = L := ⟨_, rfl⟩
  rw [hL] at e124 hsm ⊢
  simp only at e124 hsm ⊢
  refine den_open (fn := Tryz.f126) (by rfl) (by rfl) (by rfl) (by rfl) (by simp [Tryz.f126]) ?_
  by_cases q : e' = 0
  case neg =>
    simp only [lineV, if_neg q] at e124
    simp only [if_neg q]
    simp (maxSteps := 2000000) (disch := first | omega | (simp; done) | (simp; omega) | assumption) [Tryz.f126, argsE, isC, hp, hl, boxV, boxO, fresh_no, List.filter_cons, setB, aggN, op_build, List.set, foot, Op.operands, opTmps, e124, rowVv, q]
  subst q
  simp only [lineV, if_true] at e124 ⊢
  have e125 := fun lo' n (hl' : lo' ≤ p) => s125 (lo := lo') (n := n) (x := { x with e := 0 }) (g := g.set p (.cells { x with e := 0 }.cs)) hb (hcs _) hl'
  simp only [if_true, List.set_set] at e125
  have e161 := fun lo g => s161 (lo := lo) (ws := ws.tail) (h := g) (by simp; omega) (fun x hx => by have := hsm.2 x (List.mem_of_mem_tail hx); omega)
  have hws : 1 ≤ ws.length := by
    have := (lineW_ok (by rw [hL])).2.2.1
    rw [hL] at this
    exact List.length_pos_iff.2 this
  obtain ⟨w, r, rfl⟩ : ∃ w r, ws = w :: r := by
    cases ws with
    | nil => simp at hws
    | cons w r => exact ⟨w, r, rfl⟩
  simp only [List.tail_cons] at e161 ⊢
  obtain ⟨⟨l, e2⟩, hA⟩ : ∃ A, allR (r.map (·.2)) = A := ⟨_, rfl⟩
  simp only [hA] at e161 ⊢
  simp only [numV] at e161
  by_cases q2 : e2 = 0
  · subst q2
    simp only [if_true]
    simp (maxSteps := 2000000) (disch := first | omega | (simp; done) | (simp; omega) | assumption) [Tryz.f126, argsE, isC, hp, hl, boxV, boxO, fresh_no, List.filter_cons, setB, aggN, op_build, List.set, foot, Op.operands, opTmps, e124, rowVv, wds_cons, e161, e125, hcs, rc_le (x := { x with e := 0 }) hb, rc_g2, rc_s2, wrap64]
  · simp only [if_neg q2]
    simp (maxSteps := 2000000) (disch := first | omega | (simp; done) | (simp; omega) | assumption) [Tryz.f126, argsE, isC, hp, hl, boxV, boxO, fresh_no, List.filter_cons, setB, aggN, op_build, List.set, foot, Op.operands, opTmps, e124, rowVv, wds_cons, e161, e125, q2]
theorem s127 {lo p : Nat} {x : RC} {ls : List Ln} {g : H} (hp : cellsAt g p = some x.cs) (hls : x.ls = AM.vs .dead 1 (strs ls)) (hi : 0 ≤ x.i) (hw : ∀ l ∈ ls, l.length ≤ 1000000000) :
    den cx lo 127 [.ptr p 0] g = some (.t (if x.e = 0 ∧ x.i < ls.length then (wrds (ls.getD x.i.toNat [])).headD [] else []), g) := by
  obtain ⟨j, hj⟩ : ∃ j : Nat, x.i = j := ⟨x.i.toNat, by omega⟩
  have g0 : x.cs[0]? = some (AM.vs .dead 1 (strs ls)) := by rw [rc_g0, hls]
  have g2 : x.cs[2]? = some (.i (j : Int)) := by rw [rc_g2, hj]
  refine den_pure (fn := Tryz.f127) (by rfl) (by rfl) (by rfl) (by rfl) (by simp [Tryz.f127]) (by simp) ?_
  by_cases q : x.e = 0
  case neg =>
    rw [if_neg (fun z => q z.1)]
    simp (maxSteps := 2000000) (disch := first | omega | (simp; done) | (simp; omega) | assumption) [Tryz.f127, argsE, isC, hp, boxV, boxO, fresh_no, List.filter_cons, setB, aggN, op_build, List.set, foot, Op.operands, opTmps, q, rc_g3, Cl1_tup, Cl1_agg, Cl1_vs]
    exact indep_of bf127_1 (by rfl)
  rw [hj]
  by_cases hlt : j < ls.length
  case neg =>
    have hge : ¬ ((j : Int) < (ls.length : Int)) := by omega
    have hge' : (ls.length : Int) ≤ (j : Int) := by omega
    rw [if_neg (fun z => hge z.2)]
    simp (maxSteps := 2000000) (disch := first | omega | (simp; done) | (simp; omega) | assumption) [Tryz.f127, argsE, isC, hp, boxV, boxO, fresh_no, List.filter_cons, setB, aggN, op_build, List.set, foot, Op.operands, opTmps, q, rc_g3, g0, g2, hge', hge, Cl1_tup, Cl1_agg, Cl1_vs]
    exact indep_of bf127_1 (by rfl)
  have hlt' : (j : Int) < (ls.length : Int) := by omega
  have hge : ¬ ((ls.length : Int) ≤ (j : Int)) := by omega
  rw [if_pos ⟨q, hlt'⟩, lines_at hlt]
  have hlj := hw _ (List.getElem_mem hlt)
  obtain ⟨l, hll⟩ : ∃ l, ls[j] = l := ⟨_, rfl⟩
  rw [hll] at hlj ⊢
  have e42 := fun lo => s42 (lo := lo) (l := l) (h := g) (by omega)
  rw [wrds_eq]
  unfold wdsR
  cases hs : splR l with
  | error pp =>
    rw [hs] at e42
    simp only [resV] at e42
    simp (maxSteps := 2000000) (disch := first | omega | (simp; done) | (simp; omega) | assumption) [Tryz.f127, argsE, isC, hp, boxV, boxO, fresh_no, List.filter_cons, setB, aggN, op_build, List.set, foot, Op.operands, opTmps, q, rc_g3, g0, g2, hge, hlt, strs, hll, e42, Cl1_tup, Cl1_agg, Cl1_vs]
    exact ⟨indep_of bf127_1 (by rfl), indep_of bf127_3 (by rfl)⟩
  | ok ws =>
    rw [hs] at e42
    simp only [resV] at e42
    cases ws with
    | nil =>
      simp (maxSteps := 2000000) (disch := first | omega | (simp; done) | (simp; omega) | assumption) [Tryz.f127, argsE, isC, hp, boxV, boxO, fresh_no, List.filter_cons, setB, aggN, op_build, List.set, foot, Op.operands, opTmps, q, rc_g3, g0, g2, hge, hlt, strs, hll, e42, wds, Cl1_tup, Cl1_agg, Cl1_vs]
      exact ⟨indep_of bf127_1 (by rfl), indep_of bf127_3 (by rfl)⟩
    | cons w r =>
      have hz : ¬ ((r.length : Int) + 1 = 0) := by omega
      simp (maxSteps := 2000000) (disch := first | omega | (simp; done) | (simp; omega) | assumption) [Tryz.f127, argsE, isC, hp, boxV, boxO, fresh_no, List.filter_cons, setB, aggN, op_build, List.set, foot, Op.operands, opTmps, q, rc_g3, g0, g2, hge, hlt, strs, hll, e42, wds, wdv, Cl1_tup, Cl1_agg, Cl1_vs, hz]
      exact ⟨indep_of bf127_1 (by rfl), indep_of bf127_3 (by rfl)⟩
end ZD
open Go Go.AM Go.Proofs Go.AM.Pl
set_option maxRecDepth 100000
set_option maxHeartbeats 4000000
namespace ZD
def rcOf (x : Rdr) (A W O T K : V) : RC := ⟨AM.vs .dead 1 (strs x.ls), A, x.i, x.e, x.d.bk, W, O, T, x.book, x.rows, x.fr, K⟩
/-- A reader in memory. -/
def RdS (lo : Nat) (g : H) (p : Nat) (A : V) (x : Rdr) : Prop := ∃ t1 t2 t3 t4 W O T, cellsAt g p = some (rcOf x A (AM.vs t1 1 W) (AM.vs t2 5 O) (AM.vs t3 6 T) (AM.vs t4 1 (ints x.truck))).cs ∧ Tks lo g [t1, t2, t3, t4] ∧ fgL W = rowsV x.d.ways ∧ fgL O = ordsV x.d.ords ∧ fgL T = trksV x.d.trks
/-- Lines that are not too many, nor too long. -/
def Tx (ls : List Ln) : Prop := (∀ l ∈ ls, l.length ≤ 900000) ∧ ls.length ≤ 900000
/-- A reader of no size. -/
structure Rsz (x : Rdr) : Prop where
  tx : Tx x.ls
  i : 0 ≤ x.i ∧ x.i ≤ x.ls.length
  bk : x.d.bk.length = 19
theorem Rsz.w7 {x : Rdr} (z : Rsz x) : ∀ l ∈ x.ls, l.length ≤ 10000000 := fun l h => by have := z.tx.1 l h; omega
theorem Rsz.w9 {x : Rdr} (z : Rsz x) : ∀ l ∈ x.ls, l.length ≤ 1000000000 := fun l h => by have := z.tx.1 l h; omega
theorem s68 {lo p : Nat} {g : H} {A : V} {x : Rdr} (z : Rsz x) (hl : lo ≤ p) (h : RdS lo g p A x) : ∃ g', den cx lo 68 [.ptr p 0] g = some (.tup [], g') ∧ RdS lo g' p A (headX x) ∧ g.length ≤ g'.length := by
  obtain ⟨t1, t2, t3, t4, W, O, T, hp, hT, hW, hO, hTr⟩ := h
  have e124 := fun lo' (hl' : lo' ≤ p) => s124 (lo := lo') (f := hlW) (n := 1) z.bk hp hl' rfl z.i.1 (by omega) z.w9
  have hcs : ∀ X, cellsAt (g.set p (.cells X)) p = some X := fun X => cellsAt_set (cellsAt_lt hp)
  have keep : ∀ (x' : Rdr), x'.ls = x.ls → x'.d = x.d → x'.truck = x.truck → RdS lo (g.set p (.cells (rcOf x' A (AM.vs t1 1 W) (AM.vs t2 5 O) (AM.vs t3 6 T) (AM.vs t4 1 (ints x'.truck))).cs)) p A x' := fun x' h1 h2 h3 =>
    ⟨t1, t2, t3, t4, W, O, T, hcs _, hT.updc hp, by rw [h2]; exact hW, by rw [h2]; exact hO, by rw [h2]; exact hTr⟩
  obtain ⟨P, hP⟩ : ∃ P : H → Prop, P = fun g' => RdS lo g' p A (headX x) ∧ g.length ≤ g'.length := ⟨_, rfl⟩
  suffices hh : ∃ g', den cx lo 68 [.ptr p 0] g = some (.tup [], g') ∧ P g' by rw [hP] at hh; exact hh
  have hPi : ∀ x', headX x = x' → x'.ls = x.ls → x'.d = x.d → x'.truck = x.truck → P (g.set p (.cells (rcOf x' A (AM.vs t1 1 W) (AM.vs t2 5 O) (AM.vs t3 6 T) (AM.vs t4 1 (ints x'.truck))).cs)) := by
    intro x' hx h1 h2 h3; rw [hP, hx]; exact ⟨keep x' h1 h2 h3, by simp⟩
  clear hP
  unfold headX at hPi
  rw [lineW_eq] at hPi
  have e124 : ∀ lo', lo' ≤ p → den cx lo' 124 [.ptr p 0, .t hlW, .i 1] g = some (lineV (lineW x.ls x.i x.e hlW 1), g.set p (.cells (rcOf { x with e := (lineW x.ls x.i x.e hlW 1).2 } A (AM.vs t1 1 W) (AM.vs t2 5 O) (AM.vs t3 6 T) (AM.vs t4 1 (ints x.truck))).cs)) := e124
  have hlen : (lineW x.ls x.i x.e hlW 1).2 = 0 → x.e = 0 ∧ (lineW x.ls x.i x.e hlW 1).1.length = 2 := by
    unfold lineW; split
    · split
      · split
        · rename_i a b c; intro _; simp only at c ⊢; exact ⟨a, by omega⟩
        · intro h; exact absurd h (by simp)
      · intro h; exact absurd h (by simp)
    · intro h; rename_i a; exact absurd h a
  obtain ⟨⟨ws, e'⟩, hL⟩ : ∃ L, lineW x.ls x.i x.e hlW 1 = L := ⟨_, rfl⟩
  rw [hL] at e124 hPi hlen
  simp only at hPi hlen
  have e124 := e124
  simp only [hlW] at e124
  refine den_openE (fn := Tryz.f68) (by rfl) (by rfl) (by rfl) (by rfl) (by simp [Tryz.f68]) ?_
  by_cases q : e' = 0
  case neg =>
    have hPi := hPi { x with e := e' } (by rw [if_neg q]) rfl rfl rfl
    simp only [lineV, if_neg q] at e124
    simp (maxSteps := 2000000) (disch := first | omega | (simp; done) | (simp; omega) | assumption) [Tryz.f68, argsE, isC, boxV, boxO, fresh_no, List.filter_cons, setB, aggN, op_build, List.set, e124, hl]
    exact hPi
  subst q
  obtain ⟨hx0, hw2⟩ := hlen rfl
  match ws, hw2 with
  | [w0, w1], _ =>
    simp only [lineV, if_true] at e124 hPi
    have hx2 := hcs (rcOf { x with e := 0 } A (AM.vs t1 1 W) (AM.vs t2 5 O) (AM.vs t3 6 T) (AM.vs t4 1 (ints x.truck))).cs
    by_cases q1 : w1.2 = [49]
    · have hPi := hPi { x with i := x.i + 1 } (by rw [if_pos (by simpa using q1)]) rfl rfl rfl
      have hz := z.i; have hz2 := z.tx.2
      have hes : ({ x with e := 0 } : Rdr) = x := by rw [← hx0]
      rw [hes] at e124 hx2
      have hgi : (rcOf x A (AM.vs t1 1 W) (AM.vs t2 5 O) (AM.vs t3 6 T) (AM.vs t4 1 (ints x.truck))).i = x.i := rfl
      simp (maxSteps := 2000000) (disch := first | omega | (simp; done) | (simp; omega) | assumption) [Tryz.f68, argsE, isC, boxV, boxO, fresh_no, List.filter_cons, setB, aggN, op_build, List.set, e124, hl, wds, wdv, q1, hx2, rc_le (x := rcOf x A (AM.vs t1 1 W) (AM.vs t2 5 O) (AM.vs t3 6 T) (AM.vs t4 1 (ints x.truck))) z.bk, rc_g2, rc_s2, wrap64, hgi]
      exact hPi
    · have hPi := hPi { x with e := 7 } (by rw [if_neg (by simpa using q1)]) rfl rfl rfl
      have e125 := fun lo' (hl' : lo' ≤ p) => s125 (lo := lo') (n := 7) (x := rcOf { x with e := 0 } A (AM.vs t1 1 W) (AM.vs t2 5 O) (AM.vs t3 6 T) (AM.vs t4 1 (ints x.truck))) z.bk hx2 hl'
      have he0 : (rcOf { x with e := 0 } A (AM.vs t1 1 W) (AM.vs t2 5 O) (AM.vs t3 6 T) (AM.vs t4 1 (ints x.truck))).e = 0 := rfl
      simp only [he0, if_true, List.set_set] at e125
      simp (maxSteps := 2000000) (disch := first | omega | (simp; done) | (simp; omega) | assumption) [Tryz.f68, argsE, isC, boxV, boxO, fresh_no, List.filter_cons, setB, aggN, op_build, List.set, e124, hl, wds, wdv, q1, e125]
      exact hPi
end ZD

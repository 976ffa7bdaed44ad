/- What functions tell of depots: the book, the ways. No condition. -/
import Derived.Test.YtieenbjncimikaaGreatDoorBCxP
import Derived.Test.YtieenbjncimikaaGreatDoorBSC
set_option linter.all false
open Go Go.AM Go.Proofs Go.AM.Pl
set_option maxRecDepth 100000
set_option maxHeartbeats 4000000
namespace ZD
/-- A book: its nineteen numbers. -/
def bkv (l : List Int) : V := .agg (ints l)
@[simp] theorem fg_bkv (l : List Int) : fg (bkv l) = bkv l := by simp [bkv, fg]
theorem len19 {l : List Int} (h : l.length = 19) : ∃ a b c d e f g i j k m n o p q r s t u, l = [a, b, c, d, e, f, g, i, j, k, m, n, o, p, q, r, s, t, u] := by
  match l, h with
  | [a, b, c, d, e, f, g, i, j, k, m, n, o, p, q, r, s, t, u], _ => exact ⟨a, b, c, d, e, f, g, i, j, k, m, n, o, p, q, r, s, t, u, rfl⟩
theorem index_arr1 {t e n : Nat} {cs : List V} {j : Nat} (hu : cx.P.underlying t = some (.array n e)) (hz : szOf cx.P e = some 1) (hg : isAg cx.P e = some false) (h : j < n) : indexV cx t (.agg cs) (.i j) = cs[j]? := by
  unfold indexV
  rw [hu]
  simp only [idx_int (k := .i64) (i := (j : Int)) (n := n) (by omega) (by omega), Option.bind_eq_bind, Option.bind_some, hz, hg, rd]
  simp
theorem ix165 {cs : List V} {j : Nat} (h : j < 19) : indexV cx 165 (.agg cs) (.i j) = cs[j]? := index_arr1 (e := 3) (by rfl) (by rfl) (by rfl) h
theorem build165 {a b c d e f g i j k m n o p q r s t u : Int} : buildV cx 165 [(0, .i a), (1, .i b), (2, .i c), (3, .i d), (4, .i e), (5, .i f), (6, .i g), (7, .i i), (8, .i j), (9, .i k), (10, .i m), (11, .i n), (12, .i o), (13, .i p), (14, .i q), (15, .i r), (16, .i s), (17, .i t), (18, .i u)] = some (bkv [a, b, c, d, e, f, g, i, j, k, m, n, o, p, q, r, s, t, u]) := by rfl
theorem T165 : AggT cx 165 19 := ⟨by rfl, by rfl⟩
@[simp] theorem ld165a {st : St} {b o : Nat} : loadAt cx st 165 (.lp b o) = (getB st.lb b).bind fun cs => aggN 19 (cs.drop o) := loadN_lp T165
theorem s115 {lo : Nat} {l : List Int} {h : H} (hl : l.length = 19) : den cx lo 115 [bkv l] h = some (bkv l, h) := by
  obtain ⟨a, b, c, d, e, f, g, i, j, k, m, n, o, p, q, r, s, t, u, rfl⟩ := len19 hl
  refine den_pure (fn := Tryz.f115) (by rfl) (by rfl) (by rfl) (by rfl) (by simp [Tryz.f115]) (by simp) ?_
  simp (maxSteps := 2000000) (disch := first | omega | (simp; done) | (simp; omega) | assumption) [Tryz.f115, argsE, build165, bkv, ints, boxV, boxO, fresh_no, List.filter_cons, setB, aggN, op_build, List.set, Cl1_tup, Cl1_agg, Cl1_vs]
/-- Are the numbers within their bounds? -/
def wit1 (i : Nat) (n : Int) : Bool := if i = 6 ∨ i = 9 then decide (0 ≤ n) && decide (n ≤ 1000) else decide (1 ≤ n) && decide (n ≤ 40320)
def wit : Nat → List Int → Bool
  | _, [] => true
  | i, n :: r => wit1 i n && wit (i + 1) r
theorem s134 {lo : Nat} {l : List Int} {h : H} (hl : l.length = 19) : den cx lo 134 [bkv l] h = some (.b (wit 0 l), h) := by
  have e115 := fun lo => s115 (lo := lo) (h := h) hl
  refine den_pure (fn := Tryz.f134) (by rfl) (by rfl) (by rfl) (by rfl) (by simp [Tryz.f134]) (by simp) ?_
  obtain ⟨bx, hbx⟩ : ∃ bx, bkv l = .agg bx := ⟨_, rfl⟩
  have hb2 : bx = ints l := by unfold bkv at hbx; cases hbx; rfl
  have hbl : bx.length = 19 := by rw [hb2]; simpa [ints] using hl
  rw [hbx] at e115 ⊢
  have htk : bx.take 19 = bx := List.take_of_length_le (by omega)
  have hfg : fgL bx = bx := by rw [hb2, fgL_ints]
  simp (maxSteps := 2000000) (disch := first | omega | (simp; done) | (simp; omega) | assumption) [Tryz.f134, argsE, boxV, boxO, fresh_no, List.filter_cons, setB, aggN, op_build, List.set, e115, hbl, htk, hfg]
  obtain ⟨I, hI⟩ : ∃ I : Nat → List Ent → List (Nat × List V) → H → Prop, I = (fun n vs lb g => ∃ j : Nat, n + j = 19 ∧ wit j (l.drop j) = wit 0 l ∧ vs = [.v (.i j)] ∧ lb = [(1, bx)] ∧ g = h) := ⟨_, rfl⟩
  refine Wp.loopQ I (n := 19) (by rw [hI]; exact ⟨0, by simp, rfl, by simp, by simp, by simp⟩) ?_
  intro n vs lb g hi Q hQ; rw [hI] at hi; obtain ⟨j, hj, hr, rfl, rfl, rfl⟩ := hi
  by_cases hlt : j < 19
  · have hjl : j < l.length := by omega
    rw [List.drop_eq_getElem_cons hjl] at hr
    simp only [wit] at hr
    have hix : bx[j]? = some (.i l[j]) := by rw [hb2]; simp [ints, hjl]
    have hlt' : (j : Int) < 19 := by omega
    have hi : indexV cx 165 (.agg bx) (.i j) = some (.i l[j]) := by rw [ix165 hlt, hix]
    clear hix
    obtain ⟨x, hx⟩ : ∃ x, l[j] = x := ⟨_, rfl⟩
    rw [hx] at hr hi
    clear hx
    by_cases hw : wit1 j x = true
    · have go : I (n - 1) [.v (.i ((j : Int) + 1))] [(1, bx)] g := by
        rw [hI]; exact ⟨j + 1, by omega, by rw [← hr, hw, Bool.true_and], by simp, rfl, rfl⟩
      clear hI hr
      unfold wit1 at hw
      by_cases h6 : j = 6
      · subst h6
        replace hi : indexV cx 165 (.agg bx) (.i 6) = some (.i x) := hi
        simp at hw
        have a1 : ¬ (x < 0) := by omega
        have a2 : ¬ (1000 < x) := by omega
        simp (maxSteps := 2000000) (disch := first | omega | (simp; done) | (simp; omega) | assumption) [hlt', hi, isC, a1, a2, wrap64]
        exact ⟨n - 1, by omega, go⟩
      by_cases h9 : j = 9
      · subst h9
        replace hi : indexV cx 165 (.agg bx) (.i 9) = some (.i x) := hi
        simp at hw
        have a1 : ¬ (x < 0) := by omega
        have a2 : ¬ (1000 < x) := by omega
        simp (maxSteps := 2000000) (disch := first | omega | (simp; done) | (simp; omega) | assumption) [hlt', hi, isC, a1, a2, wrap64]
        exact ⟨n - 1, by omega, go⟩
      rw [if_neg (by omega)] at hw
      simp at hw
      have a1 : ¬ (x < 1) := by omega
      have a2 : ¬ (40320 < x) := by omega
      have h6' : ¬ ((j : Int) = 6) := by omega
      have h9' : ¬ ((j : Int) = 9) := by omega
      simp (maxSteps := 2000000) (disch := first | omega | (simp; done) | (simp; omega) | assumption) [hlt', hi, isC, a1, a2, wrap64, h6', h9', h6, h9]
      exact ⟨n - 1, by omega, go⟩
    · have hno : wit 0 l = false := by rw [← hr]; simp [hw]
      rw [hno] at hQ
      clear hI hr
      unfold wit1 at hw
      by_cases h6 : j = 6
      · subst h6
        replace hi : indexV cx 165 (.agg bx) (.i 6) = some (.i x) := hi
        simp at hw
        by_cases a1 : x < 0
        · simp (maxSteps := 2000000) (disch := first | omega | (simp; done) | (simp; omega) | assumption) [hlt', hi, isC, a1, wrap64]
          exact hQ _ _ (by simp)
        · have a2 : 1000 < x := hw (by omega)
          simp (maxSteps := 2000000) (disch := first | omega | (simp; done) | (simp; omega) | assumption) [hlt', hi, isC, a1, a2, wrap64]
          exact hQ _ _ (by simp)
      by_cases h9 : j = 9
      · subst h9
        replace hi : indexV cx 165 (.agg bx) (.i 9) = some (.i x) := hi
        simp at hw
        by_cases a1 : x < 0
        · simp (maxSteps := 2000000) (disch := first | omega | (simp; done) | (simp; omega) | assumption) [hlt', hi, isC, a1, wrap64]
          exact hQ _ _ (by simp)
        · have a2 : 1000 < x := hw (by omega)
          simp (maxSteps := 2000000) (disch := first | omega | (simp; done) | (simp; omega) | assumption) [hlt', hi, isC, a1, a2, wrap64]
          exact hQ _ _ (by simp)
      rw [if_neg (by omega)] at hw
      simp at hw
      have h6' : ¬ ((j : Int) = 6) := by omega
      have h9' : ¬ ((j : Int) = 9) := by omega
      by_cases a1 : x < 1
      · simp (maxSteps := 2000000) (disch := first | omega | (simp; done) | (simp; omega) | assumption) [hlt', hi, isC, a1, wrap64, h6', h9', h6, h9]
        exact hQ _ _ (by simp)
      · have a2 : 40320 < x := hw (by omega)
        simp (maxSteps := 2000000) (disch := first | omega | (simp; done) | (simp; omega) | assumption) [hlt', hi, isC, a1, a2, wrap64, h6', h9', h6, h9]
        exact hQ _ _ (by simp)
  · rw [List.drop_of_length_le (by omega)] at hr
    simp only [wit] at hr
    have hlt' : ¬ ((j : Int) < 19) := by omega
    clear hI
    simp (maxSteps := 2000000) (disch := first | omega | (simp; done) | (simp; omega) | assumption) [hlt']
    rw [← hr] at hQ
    refine hQ _ _ ?_
    simp (maxSteps := 2000000) (disch := first | omega | (simp; done) | (simp; omega) | assumption) []
end ZD
open Go Go.AM Go.Proofs Go.AM.Pl
set_option maxRecDepth 100000
set_option maxHeartbeats 4000000
namespace ZD
/-- The first one of a list of which something is told. -/
def scan {α β : Type} (f : Nat → α → Option β) : Nat → List α → Option β
  | _, [] => none
  | j, x :: r => match f j x with
    | some e => some e
    | none => scan f (j + 1) r
theorem scan_go {α β : Type} {f : Nat → α → Option β} {l : List α} {j : Nat} {v : Option β} (hj : j < l.length) (h : f j l[j] = none) (hr : scan f j (l.drop j) = v) : scan f (j + 1) (l.drop (j + 1)) = v := by
  rw [List.drop_eq_getElem_cons hj] at hr
  simp only [scan, h] at hr; exact hr
theorem scan_hit {α β : Type} {f : Nat → α → Option β} {l : List α} {j : Nat} {v : Option β} {e : β} (hj : j < l.length) (h : f j l[j] = some e) (hr : scan f j (l.drop j) = v) : v = some e := by
  rw [List.drop_eq_getElem_cons hj] at hr
  simp only [scan, h] at hr; exact hr.symm
theorem scan_end {α β : Type} {f : Nat → α → Option β} {l : List α} {j : Nat} {v : Option β} (hj : l.length ≤ j) (hr : scan f j (l.drop j) = v) : v = none := by
  rw [List.drop_of_length_le hj] at hr; simp only [scan] at hr; exact hr.symm
theorem s188 {lo : Nat} {n : Int} {h : H} : den cx lo 188 [.i n] h = some (.b false, h) := by
  refine den_pure (fn := Tryz.f188) (by rfl) (by rfl) (by rfl) (by rfl) (by simp [Tryz.f188]) (by simp) ?_
  simp (maxSteps := 2000000) (disch := first | omega | (simp; done) | (simp; omega) | assumption) [Tryz.f188, argsE, isC]
theorem s164 {lo : Nat} {a b : Int} {h : H} : den cx lo 164 [.i a, .i b] h = some (.b (decide (a < b)), h) := by
  refine den_pure (fn := Tryz.f164) (by rfl) (by rfl) (by rfl) (by rfl) (by simp [Tryz.f164]) (by simp) ?_
  by_cases h1 : a < b <;> simp (maxSteps := 2000000) (disch := first | omega | (simp; done) | (simp; omega) | assumption) [Tryz.f164, argsE, isC, s188, h1]
def srt (l : List Int) (k : Nat) : Prop := ∀ i, k < i → i < l.length → l.getD (i - 1) 0 ≤ l.getD i 0
theorem s135 {lo : Nat} {l : List Int} {h : H} {b : Bool} (hl : l.length = 7) (hb : b = true ↔ srt l 0) : den cx lo 135 [AM.vs .dead 1 (ints l), ] h = some (.b b, h) := by
  refine den_pure (fn := Tryz.f135) (by rfl) (by rfl) (by rfl) (by rfl) (by simp [Tryz.f135]) (by simp) ?_
  simp (maxSteps := 2000000) (disch := first | omega | (simp; done) | (simp; omega) | assumption) [Tryz.f135, argsE, hl, wrap64]
  obtain ⟨I, hI⟩ : ∃ I : Nat → List Ent → List (Nat × List V) → H → Prop, I = (fun n vs lb g => n < 7 ∧ srt l n ∧ vs = [.v (.i n)] ∧ lb = [] ∧ g = h) := ⟨_, rfl⟩
  refine Wp.loopQ I (n := 6) (by rw [hI]; exact ⟨by omega, by unfold srt; omega, rfl, rfl, rfl⟩) ?_
  intro n vs lb g hi Q hQ; rw [hI] at hi; obtain ⟨hn, ha, rfl, rfl, rfl⟩ := hi
  by_cases h0 : n = 0
  · have : b = true := by rw [hb]; rw [h0] at ha; exact ha
    clear hI
    subst h0
    rw [this] at hQ
    simp (maxSteps := 2000000) (disch := first | omega | (simp; done) | (simp; omega) | assumption) []
    exact hQ _ _ (by simp)
  · obtain ⟨m, rfl⟩ : ∃ m, n = m + 1 := ⟨n - 1, by omega⟩
    have h1 : (0 : Int) < ((m + 1 : Nat) : Int) := by omega
    have b1 : m + 1 < l.length := by omega
    have b2 : m < l.length := by omega
    have i1 : l.getD (m + 1) 0 = l[m + 1] := by simp [List.getD, b1]
    have i2 : l.getD m 0 = l[m] := by simp [List.getD, b2]
    have e1 : ((m + 1 : Nat) : Int) - 1 = (m : Int) := by omega
    by_cases q : l[m + 1] < l[m]
    · have : b = false := by
        cases b with
        | false => rfl
        | true => have := hb.1 rfl (m + 1) (by omega) (by omega); rw [Nat.add_sub_cancel] at this; omega
      rw [this] at hQ
      clear hI
      simp (maxSteps := 2000000) (disch := first | omega | (simp; done) | (simp; omega) | assumption) [h1, s164, q, ints, wrap64, foot, Op.operands, opTmps, e1, isC]
      exact ⟨indep_of bf135_4 (by rfl), hQ _ _ (by simp)⟩
    · have go : I m [.v (.i (m : Int))] [] g := by
        rw [hI]; refine ⟨by omega, fun i h3 h4 => ?_, rfl, rfl, rfl⟩
        by_cases h5 : i = m + 1
        · subst h5; rw [Nat.add_sub_cancel]; omega
        · exact ha i (by omega) h4
      clear hI
      simp (maxSteps := 2000000) (disch := first | omega | (simp; done) | (simp; omega) | assumption) [h1, s164, q, ints, wrap64, foot, Op.operands, opTmps, e1, isC]
      exact ⟨indep_of bf135_4 (by rfl), m, by omega, go⟩
end ZD
open Go Go.AM Go.Proofs Go.AM.Pl
set_option maxRecDepth 100000
set_option maxHeartbeats 4000000
namespace ZD
/-- Do the numbers of a book stand in order? -/
def ordB : List Int → Bool
  | [_, b, c, d, e, f, _, i, j, _, m, n, o, p, _, _, _, _, _] => decide (c ≤ b) && decide (d ≤ b) && decide (b ≤ m) && decide (m ≤ j) && decide (j ≤ i) && decide (i ≤ p) && decide (p ≤ o) && decide (e ≤ f) && decide (j < n)
  | _ => false
def okB (l : List Int) : Bool := wit 0 l && ordB l
@[simp] theorem op_max {c : Cx} {f lo : Nat} {st : St} {call : Nat → FuncId → List V → H → Option (V × H)} {dst : Option Nat} {xs : List Operand} {ts : Array TypeId} : opV c call f lo dst st (.call ⟨.builtin .max, ⟨xs⟩, ts⟩) = (evalL c st xs).bind fun l => (minmax true l).map fun v => (.v v, st) := by
  simp only [opV]; cases evalL c st xs <;> rfl
theorem max_int {x y : Int} : minmax true [.i x, .i y] = some (.i (if x < y then y else x)) := by simp [minmax, mm2, V.i]
theorem s80 {lo : Nat} {l : List Int} {h : H} (hl : l.length = 19) : den cx lo 80 [bkv l] h = some (.i (if okB l then 0 else 14), h) := by
  have e134 := fun lo => s134 (lo := lo) (h := h) hl
  obtain ⟨a, b, c, d, e, f, g, i, j, k, m, n, o, p, q, r, s, t, u, rfl⟩ := len19 hl
  obtain ⟨w, hw⟩ : ∃ w, wit 0 [a, b, c, d, e, f, g, i, j, k, m, n, o, p, q, r, s, t, u] = w := ⟨_, rfl⟩
  simp only [bkv, ints, List.map_cons, List.map_nil, hw] at e134
  have E135 := fun lo x1 (x2 : Bool) => s135 (lo := lo) (h := h) (l := [x1, b, m, j, i, p, o]) (b := x2) rfl
  simp only [ints, List.map_cons, List.map_nil] at E135
  have hs : ∀ x, srt [x, b, m, j, i, p, o] 0 ↔ (x ≤ b ∧ b ≤ m ∧ m ≤ j ∧ j ≤ i ∧ i ≤ p ∧ p ≤ o) := by
    intro x
    constructor
    · intro q
      exact ⟨q 1 (by omega) (by simp), q 2 (by omega) (by simp), q 3 (by omega) (by simp), q 4 (by omega) (by simp), q 5 (by omega) (by simp), q 6 (by omega) (by simp)⟩
    · rintro ⟨q1, q2, q3, q4, q5, q6⟩ k hk hk2
      simp at hk2
      obtain rfl | rfl | rfl | rfl | rfl | rfl : k = 1 ∨ k = 2 ∨ k = 3 ∨ k = 4 ∨ k = 5 ∨ k = 6 := by omega
      all_goals simpa
  refine den_pure (fn := Tryz.f80) (by rfl) (by rfl) (by rfl) (by rfl) (by simp [Tryz.f80]) (by simp) ?_
  obtain ⟨mx, hmx⟩ : ∃ mx, (if c < d then d else c) = mx := ⟨_, rfl⟩
  have hm2 : (mx ≤ b) ↔ (c ≤ b ∧ d ≤ b) := by rw [← hmx]; split <;> omega
  cases w with
  | false =>
    simp (maxSteps := 2000000) (disch := first | omega | (simp; done) | (simp; omega) | assumption) [Tryz.f80, argsE, bkv, ints, boxV, boxO, fresh_no, List.filter_cons, setB, aggN, op_build, List.set, Cl1_tup, Cl1_agg, Cl1_vs, e134, okB, hw, max_int, elemsV, isC]
  | true =>
    by_cases qq : mx ≤ b ∧ b ≤ m ∧ m ≤ j ∧ j ≤ i ∧ i ≤ p ∧ p ≤ o
    · have q1 := (hs mx).2 qq
      have ee := fun lo => E135 lo mx true (by simp [q1])
      have q2 := hm2.1 qq.1
      by_cases c1 : e ≤ f
      · have c1' : ¬ (f < e) := by omega
        by_cases c2 : j < n
        · have c2' : ¬ (n ≤ j) := by omega
          simp (maxSteps := 2000000) (disch := first | omega | (simp; done) | (simp; omega) | assumption) [Tryz.f80, argsE, bkv, ints, boxV, boxO, fresh_no, List.filter_cons, setB, aggN, op_build, List.set, Cl1_tup, Cl1_agg, Cl1_vs, e134, okB, hw, max_int, elemsV, isC, hmx, ee, c1, c2, c1', c2', ordB, qq, q2]
        · have c2' : n ≤ j := by omega
          simp (maxSteps := 2000000) (disch := first | omega | (simp; done) | (simp; omega) | assumption) [Tryz.f80, argsE, bkv, ints, boxV, boxO, fresh_no, List.filter_cons, setB, aggN, op_build, List.set, Cl1_tup, Cl1_agg, Cl1_vs, e134, okB, hw, max_int, elemsV, isC, hmx, ee, c1, c2, c1', c2', ordB, qq, q2]
      · have c1' : f < e := by omega
        simp (maxSteps := 2000000) (disch := first | omega | (simp; done) | (simp; omega) | assumption) [Tryz.f80, argsE, bkv, ints, boxV, boxO, fresh_no, List.filter_cons, setB, aggN, op_build, List.set, Cl1_tup, Cl1_agg, Cl1_vs, e134, okB, hw, max_int, elemsV, isC, hmx, ee, c1, c1', ordB, qq, q2]
    · have q1 : ¬ srt [mx, b, m, j, i, p, o] 0 := fun z => qq ((hs mx).1 z)
      have ee := fun lo => E135 lo mx false (by simp [q1])
      have q2 : ordB [a, b, c, d, e, f, g, i, j, k, m, n, o, p, q, r, s, t, u] = false := by
        rw [hm2] at qq
        simp [ordB]; omega
      simp (maxSteps := 2000000) (disch := first | omega | (simp; done) | (simp; omega) | assumption) [Tryz.f80, argsE, bkv, ints, boxV, boxO, fresh_no, List.filter_cons, setB, aggN, op_build, List.set, Cl1_tup, Cl1_agg, Cl1_vs, e134, okB, hw, max_int, elemsV, isC, hmx, ee, q2]
end ZD
open Go Go.AM Go.Proofs Go.AM.Pl
set_option maxRecDepth 100000
set_option maxHeartbeats 4000000
namespace ZD
end ZD
open Go Go.AM Go.Proofs Go.AM.Pl
set_option maxRecDepth 100000
set_option maxHeartbeats 4000000
namespace ZD
/-- A list of rows of numbers. -/
def rowV (l : List Int) : V := AM.vs .dead 1 (ints l)
def rowsV (w : List (List Int)) : List V := w.map rowV
@[simp] theorem fg_rowV (l : List Int) : fg (rowV l) = rowV l := by simp [rowV]
@[simp] theorem fgL_rowsV (l : List (List Int)) : fgL (rowsV l) = rowsV l := fgL_mapE _ (fun _ => fg_rowV _) l
@[simp] theorem rowsV_len (l : List (List Int)) : (rowsV l).length = l.length := by simp [rowsV]
@[simp] theorem cells_rowV (l : List Int) : cellsOf (rowV l) = [rowV l] := rfl
@[simp] theorem val_rowV (l : List Int) : (Ent.v (rowV l)).val = some (rowV l) := rfl
/-- What is wrong with a number of a row. -/
def cellF (r : Int) (j : Nat) (m : Int) : Option (Int × Int) :=
  if m < 0 ∨ 10080 < m then some (j, 4) else if (j : Int) = r ∧ m ≠ 0 then some (j, 1) else none
def rowC (l : List Int) (r n : Int) : Int × Int :=
  if (l.length : Int) = n then (scan (cellF r) 0 l).getD (0, 0) else (0, 18)
theorem s136 {lo : Nat} {l : List Int} {r n : Int} {h : H} (hl : l.length ≤ 100000000) : den cx lo 136 [rowV l, .i r, .i n] h = some (.tup [.i (rowC l r n).1, .i (rowC l r n).2], h) := by
  refine den_pure (fn := Tryz.f136) (by rfl) (by rfl) (by rfl) (by rfl) (by simp [Tryz.f136]) (by simp) ?_
  by_cases hn : (l.length : Int) = n
  case neg => simp (maxSteps := 2000000) (disch := first | omega | (simp; done) | (simp; omega) | assumption) [Tryz.f136, argsE, rowV, isC, hn, rowC, Cl1_tup, Cl1_agg, Cl1_vs]
  obtain ⟨v, hv⟩ : ∃ v, scan (cellF r) 0 l = v := ⟨_, rfl⟩
  subst hn
  simp only [rowC, if_true, hv]
  simp (maxSteps := 2000000) (disch := first | omega | (simp; done) | (simp; omega) | assumption) [Tryz.f136, argsE, rowV, isC]
  obtain ⟨I, hI⟩ : ∃ I : Nat → List Ent → List (Nat × List V) → H → Prop, I = (fun n' vs lb g => ∃ j : Nat, n' + j = l.length ∧ (scan (cellF r) j (l.drop j) = v) ∧ vs = [.v (.i (j : Int))] ∧ lb = [] ∧ g = h) := ⟨_, rfl⟩
  refine Wp.loopQ I (n := l.length) (by rw [hI]; exact ⟨0, by simp, hv, by simp, by simp, by simp⟩) ?_
  intro n' vs lb g hi Q hQ; rw [hI] at hi; obtain ⟨j, hj, ha, rfl, rfl, rfl⟩ := hi
  have go : j < l.length → (scan (cellF r) (j + 1) (l.drop (j + 1)) = v) → I (n' - 1) [.v (.i ((j : Int) + 1))] [] g := fun hlt q => by rw [hI]; exact ⟨j + 1, by omega, q, by simp, by simp, rfl⟩
  clear hI
  by_cases hlt : j < l.length
  · obtain ⟨x, hx⟩ : ∃ x, l[j] = x := ⟨_, rfl⟩
    by_cases a1 : x < 0
    · have e := scan_hit (f := cellF r) (e := (j, 4)) hlt (by rw [hx]; simp [cellF, a1]) ha
      subst e
      clear go ha hv
      simp (maxSteps := 2000000) (disch := first | omega | (simp; done) | (simp; omega) | assumption) [hlt, ints, hx, isC, a1, wrap64]
      refine hQ _ _ ?_
      simp (maxSteps := 2000000) (disch := first | omega | (simp; done) | (simp; omega) | assumption) [Cl1_tup, Cl1_agg, Cl1_vs]
    by_cases a2 : 10080 < x
    · have e := scan_hit (f := cellF r) (e := (j, 4)) hlt (by rw [hx]; simp [cellF, a2]) ha
      subst e
      clear go ha hv
      simp (maxSteps := 2000000) (disch := first | omega | (simp; done) | (simp; omega) | assumption) [hlt, ints, hx, isC, a1, a2, wrap64]
      refine hQ _ _ ?_
      simp (maxSteps := 2000000) (disch := first | omega | (simp; done) | (simp; omega) | assumption) [Cl1_tup, Cl1_agg, Cl1_vs]
    by_cases a3 : (j : Int) = r
    · subst a3
      by_cases a4 : x = 0
      · have go := go hlt (scan_go (f := cellF j) hlt (by rw [hx]; simp [cellF, a4]) ha)
        clear ha hv
        simp (maxSteps := 2000000) (disch := first | omega | (simp; done) | (simp; omega) | assumption) [hlt, ints, hx, isC, a1, a2, a4, wrap64]
        exact ⟨n' - 1, by omega, go⟩
      · have e := scan_hit (f := cellF j) (e := (j, 1)) hlt (by rw [hx]; simp [cellF, a1, a2, a4]) ha
        subst e
        clear go ha hv
        simp (maxSteps := 2000000) (disch := first | omega | (simp; done) | (simp; omega) | assumption) [hlt, ints, hx, isC, a1, a2, a4, wrap64]
        refine hQ _ _ ?_
        simp (maxSteps := 2000000) (disch := first | omega | (simp; done) | (simp; omega) | assumption) [Cl1_tup, Cl1_agg, Cl1_vs]
    · have go := go hlt (scan_go (f := cellF r) hlt (by rw [hx]; simp [cellF, a1, a2, a3]) ha)
      clear ha hv
      simp (maxSteps := 2000000) (disch := first | omega | (simp; done) | (simp; omega) | assumption) [hlt, ints, hx, isC, a1, a2, a3, wrap64]
      exact ⟨n' - 1, by omega, go⟩
  · have e := scan_end (by omega) ha
    subst e
    clear go ha hv
    simp (maxSteps := 2000000) (disch := first | omega | (simp; done) | (simp; omega) | assumption) [hlt]
    refine hQ _ _ ?_
    simp (maxSteps := 2000000) (disch := first | omega | (simp; done) | (simp; omega) | assumption) [Cl1_tup, Cl1_agg, Cl1_vs]
def chkR (n : Int) (j : Nat) (l : List Int) : Option (Int × Int × Int) :=
  if (rowC l j n).2 = 0 then none else some (j, rowC l j n)
/-- What is wrong first with ways. -/
def chkW (w : List (List Int)) : Int × Int × Int :=
  if w.length = 0 then (0, 0, 13) else if 200 < w.length then (0, 0, 12) else (scan (chkR w.length) 0 w).getD (0, 0, 0)
def tup3 (x : Int × Int × Int) : V := .tup [.i x.1, .i x.2.1, .i x.2.2]
theorem s81 {lo : Nat} {w : List (List Int)} {h : H} (hb : w.length ≤ 100000000) (hw : ∀ l ∈ w, l.length ≤ 100000000) : den cx lo 81 [AM.vs .dead 1 (rowsV w)] h = some (tup3 (chkW w), h) := by
  refine den_pure (fn := Tryz.f81) (by rfl) (by rfl) (by rfl) (by rfl) (by simp [Tryz.f81]) (by simp) ?_
  by_cases h0 : w.length = 0
  · simp (maxSteps := 2000000) (disch := first | omega | (simp; done) | (simp; omega) | assumption) [Tryz.f81, argsE, isC, h0, chkW, tup3, Cl1_tup, Cl1_agg, Cl1_vs]
  by_cases h1 : 200 < w.length
  · have h1' : (200 : Int) < (w.length : Int) := by omega
    simp (maxSteps := 2000000) (disch := first | omega | (simp; done) | (simp; omega) | assumption) [Tryz.f81, argsE, isC, h0, h1, h1', chkW, tup3, Cl1_tup, Cl1_agg, Cl1_vs]
  have h1' : ¬ ((200 : Int) < (w.length : Int)) := by omega
  obtain ⟨v, hv⟩ : ∃ v, scan (chkR w.length) 0 w = v := ⟨_, rfl⟩
  simp only [chkW, h0, h1, if_false, hv]
  simp (maxSteps := 2000000) (disch := first | omega | (simp; done) | (simp; omega) | assumption) [Tryz.f81, argsE, isC, h0, h1, h1']
  obtain ⟨I, hI⟩ : ∃ I : Nat → List Ent → List (Nat × List V) → H → Prop, I = (fun n' vs lb g => ∃ j : Nat, n' + j = w.length ∧ (scan (chkR w.length) j (w.drop j) = v) ∧ vs = [.v (.i (j : Int))] ∧ lb = [] ∧ g = h) := ⟨_, rfl⟩
  refine Wp.loopQ I (n := w.length) (by rw [hI]; exact ⟨0, by simp, hv, by simp, by simp, by simp⟩) ?_
  intro n' vs lb g hi Q hQ; rw [hI] at hi; obtain ⟨j, hj, ha, rfl, rfl, rfl⟩ := hi
  have go : j < w.length → (scan (chkR w.length) (j + 1) (w.drop (j + 1)) = v) → I (n' - 1) [.v (.i ((j : Int) + 1))] [] g := fun hlt q => by rw [hI]; exact ⟨j + 1, by omega, q, by simp, by simp, rfl⟩
  clear hI
  by_cases hlt : j < w.length
  · obtain ⟨x, hx⟩ : ∃ x, w[j] = x := ⟨_, rfl⟩
    have e136 := fun lo => s136 (lo := lo) (h := g) (l := x) (r := j) (n := w.length) (by rw [← hx]; exact hw _ (List.getElem_mem hlt))
    by_cases q : (rowC x j w.length).2 = 0
    · have go := go hlt (scan_go (f := chkR w.length) hlt (by rw [hx]; simp [chkR, q]) ha)
      clear ha hv
      simp (maxSteps := 2000000) (disch := first | omega | (simp; done) | (simp; omega) | assumption) [hlt, rowsV, hx, isC, wrap64, e136, q]
      exact ⟨n' - 1, by omega, go⟩
    · have e := scan_hit (f := chkR w.length) (e := (j, rowC x j w.length)) hlt (by rw [hx]; simp [chkR, q]) ha
      subst e
      clear ha hv go
      simp (maxSteps := 2000000) (disch := first | omega | (simp; done) | (simp; omega) | assumption) [hlt, rowsV, hx, isC, wrap64, e136, q]
      refine hQ _ _ ?_
      simp (maxSteps := 2000000) (disch := first | omega | (simp; done) | (simp; omega) | assumption) [Cl1_tup, Cl1_agg, Cl1_vs, tup3]
  · have e := scan_end (by omega) ha
    subst e
    clear go ha hv
    simp (maxSteps := 2000000) (disch := first | omega | (simp; done) | (simp; omega) | assumption) [hlt]
    refine hQ _ _ ?_
    simp (maxSteps := 2000000) (disch := first | omega | (simp; done) | (simp; omega) | assumption) [Cl1_tup, Cl1_agg, Cl1_vs, tup3]
end ZD

/- Words, and equal depots. No condition. -/
import Derived.Test.YtieenbjncimikaaGreatDoorBSC
import Derived.Test.YtieenbjncimikaaGreatDoorBPH
import Derived.Test.YtieenbjncimikaaGreatDoorBQB
set_option linter.all false
open Go Go.AM Go.Proofs Go.AM.Pl
set_option maxRecDepth 100000
set_option maxHeartbeats 4000000
namespace Go.AM.Pl
/-- A word: not empty, of printable bytes. -/
def wok (w : List UInt8) : Prop := w ≠ [] ∧ ∀ c ∈ w, prt c = true
theorem spl_jn : ∀ (ls : List (List UInt8)) (f : Nat), ls ≠ [] → (∀ w ∈ ls, wok w) → ∃ ws, spl f [] (jn ls) = .ok ws ∧ ws.map (·.2) = ls
  | [], _, h, _ => absurd rfl h
  | [x], f, _, h => ⟨[(f, x)], by rw [jn_one]; simpa using spl_last' x f [] (h x (by simp)).2 (by simpa using (h x (by simp)).1), rfl⟩
  | x :: y :: r, f, _, h => by
    obtain ⟨ws, h1, h2⟩ := spl_jn (y :: r) (f + x.length + 1) (by simp) (fun w hw => h w (by simp [hw]))
    refine ⟨(f, x) :: ws, ?_, by simp [h2]⟩
    rw [jn_cons x _ (by simp)]
    have := spl_word' x f [] (jn (y :: r)) (h x (by simp)).2 (by simpa using (h x (by simp)).1)
    simp only [List.nil_append] at this
    rw [this, h1]; rfl
theorem jn_ne {ls : List (List UInt8)} (h0 : ls ≠ []) (h : ∀ w ∈ ls, wok w) : jn ls ≠ [] := by
  cases ls with
  | nil => exact absurd rfl h0
  | cons x r =>
    have hx := (h x (by simp)).1
    cases r with
    | nil => rw [jn_one]; exact hx
    | cons y r => rw [jn_cons x _ (by simp)]; simp
theorem splR_jn {ls : List (List UInt8)} (h0 : ls ≠ []) (h : ∀ w ∈ ls, wok w) : ∃ ws, splR (jn ls) = .ok ws ∧ ws.map (·.2) = ls := by
  unfold splR; rw [if_neg (jn_ne h0 h)]; exact spl_jn ls 0 h0 h
theorem wok_itoa {n : Int} (h : 0 ≤ n) : wok (Lib.itoa n) := by
  refine ⟨?_, itoa_prt h⟩
  rw [itoa_pos h]; intro e; have := digits_pos n.toNat; rw [e] at this; simp at this
theorem wok_itoaS (n : Int) : wok (Lib.itoa n) := by
  by_cases h : 0 ≤ n
  · exact wok_itoa h
  · rw [itoa_min (by omega)]
    refine ⟨by simp, fun c hc => ?_⟩
    rcases List.mem_cons.1 hc with rfl | hc
    · decide
    · exact dig_prt' (List.all_eq_true.1 (digits_all n.natAbs) c hc)
theorem wok_told {a b : Int} (ha : 0 ≤ a) (hb : 0 ≤ b) : wok (toldL a b) := ⟨told_ne' a b, told_prt' a b ha hb⟩
theorem sgnR_itoa {c : Int} (h1 : -M9 ≤ c) (h2 : c ≤ M9) : sgnR (Lib.itoa c) = (c, 0) := by
  unfold M9 at h1 h2
  by_cases h : 0 ≤ c
  · have hm : isMin (Lib.itoa c) = false := by
      rw [itoa_pos h]
      have hd := digits_all c.toNat
      have hp := digits_pos c.toNat
      cases e : Lib.decDigits c.toNat with
      | nil => rfl
      | cons x r =>
        rw [e] at hd
        simp only [List.all_cons, Bool.and_eq_true] at hd
        have := isDig_iff.1 hd.1
        exact isMin_not (fun e => by subst e; simp at this)
    unfold sgnR
    rw [hm, if_neg (by simp), numR_itoa _ h (by omega), if_neg (by unfold M9; omega)]
  · have e : Lib.itoa c = 45 :: Lib.itoa (c.natAbs : Int) := by
      rw [itoa_min (by omega), itoa_pos (by omega)]; rfl
    have e2 : numR (Lib.itoa (c.natAbs : Int)) M9 = ((c.natAbs : Int), 0) := by
      have := numR_itoa (n := (c.natAbs : Int)) 1000000000 (by omega) (by omega)
      rw [if_neg (by omega)] at this
      exact this
    rw [e]
    unfold sgnR
    rw [if_pos (show isMin (45 :: Lib.itoa (c.natAbs : Int)) = true from rfl), show (45 :: Lib.itoa (c.natAbs : Int)).drop 1 = Lib.itoa (c.natAbs : Int) from rfl, e2]
    show (if (0 : Int) = 0 then (if (c.natAbs : Int) = 0 then ((0 : Int), (7 : Int)) else (-(c.natAbs : Int), 0)) else (0, 0)) = (c, 0)
    rw [if_pos rfl, if_neg (by omega)]
    congr 1; omega
theorem spansR_told : ∀ (os p : List Spn), (∀ s ∈ os, 0 ≤ s.f0 ∧ s.f0 < s.f1 ∧ s.f1 ≤ 40320) → spansR (os.map toldS) p = (p ++ os, 0)
  | [], p, _ => by simp [spansR]
  | s :: os, p, h => by
    obtain ⟨h1, h2, h3⟩ := h s (by simp)
    have e : spanR (toldS s) = (s.f0, s.f1, 0) := span_ok h1 h2 h3
    simp only [List.map_cons, spansR, e, if_true]
    rw [spansR_told os _ (fun t ht => h t (by simp [ht]))]
    simp
theorem numsR_itoa : ∀ (x : List Int) (i : Nat) (p : List Int), (∀ n ∈ x, 0 ≤ n ∧ n ≤ M9) → numsR (-1) i (x.map Lib.itoa) p = (p ++ x, 0)
  | [], _, p, _ => by simp [numsR]
  | n :: x, i, p, h => by
    obtain ⟨h1, h2⟩ := h n (by simp)
    have e : one9 (-1) i (Lib.itoa n) = (n, 0) := by
      unfold one9; rw [if_neg (by omega), numR_itoa _ h1 (by unfold M9 at h2; omega), if_neg (by omega)]
    simp only [List.map_cons, numsR, e, if_true]
    rw [numsR_itoa x _ _ (fun t ht => h t (by simp [ht]))]
    simp
/-- What is read as numbers is their texts. -/
theorem numR_canon {l : List UInt8} {m : Int} (h : (numR l m).2 = 0) : Lib.itoa (numR l m).1 = l ∧ 0 ≤ (numR l m).1 ∧ (numR l m).1 ≤ m := by
  by_cases hn : numT l = true
  · obtain ⟨h1, h2, h3⟩ := numR_ok hn h
    rw [h1]; exact ⟨itoa_val hn, by omega, h2⟩
  · unfold numR at h; rw [if_neg hn] at h; cases h
theorem sgnR_canon {l : List UInt8} (h : (sgnR l).2 = 0) : Lib.itoa (sgnR l).1 = l ∧ -M9 ≤ (sgnR l).1 ∧ (sgnR l).1 ≤ M9 := by
  have hM : M9 = 1000000000 := rfl
  unfold sgnR at h ⊢
  by_cases hm : isMin l = true
  · rw [if_pos hm] at h ⊢
    by_cases h1 : (numR (l.drop 1) M9).2 = 0
    · rw [if_pos h1] at h ⊢
      obtain ⟨e1, e2, e3⟩ := numR_canon h1
      by_cases h2 : (numR (l.drop 1) M9).1 = 0
      · rw [if_pos h2] at h; cases h
      · rw [if_neg h2]
        refine ⟨?_, by simp only; omega, by simp only; omega⟩
        simp only
        rw [itoa_min (by omega)]
        have : Lib.decDigits (-(numR (l.drop 1) M9).1).natAbs = l.drop 1 := by
          rw [itoa_pos e2] at e1
          rw [← e1]; congr 1; rw [e1]; omega
        rw [this]
        unfold isMin at hm
        split at hm
        · rfl
        · cases hm
    · rw [if_neg h1] at h; exact absurd h h1
  · rw [if_neg hm] at h ⊢
    obtain ⟨e1, e2, e3⟩ := numR_canon h
    exact ⟨e1, by omega, e3⟩
theorem spansR_canon : ∀ (r : List (List UInt8)) (p : List Spn), (spansR r p).2 = 0 → ∃ os : List Spn, (spansR r p).1 = p ++ os ∧ r = os.map toldS ∧ ∀ s ∈ os, 0 ≤ s.f0 ∧ s.f0 < s.f1 ∧ s.f1 ≤ 40320
  | [], p, _ => ⟨[], by simp [spansR], rfl, fun _ h => by cases h⟩
  | w :: r, p, h => by
    simp only [spansR] at h ⊢
    by_cases q : (spanR w).2.2 = 0
    · rw [if_pos q] at h ⊢
      obtain ⟨os, h1, h2, h3⟩ := spansR_canon r _ h
      have e : spanR w = ((spanR w).1, (spanR w).2.1, 0) := by rw [← q]
      obtain ⟨e1, e2, e3, e4⟩ := span_canon e
      refine ⟨⟨(spanR w).1, (spanR w).2.1⟩ :: os, by rw [h1]; simp, ?_, fun s hs => ?_⟩
      · rw [List.map_cons, ← h2]; congr 1
      · rcases List.mem_cons.1 hs with rfl | hs
        · exact ⟨e2, e3, e4⟩
        · exact h3 s hs
    · rw [if_neg q] at h; exact absurd h q
theorem numsR_canon : ∀ (r : List (List UInt8)) (i : Nat) (p : List Int), (numsR (-1) i r p).2 = 0 → ∃ x : List Int, (numsR (-1) i r p).1 = p ++ x ∧ r = x.map Lib.itoa ∧ ∀ n ∈ x, 0 ≤ n ∧ n ≤ M9
  | [], _, p, _ => ⟨[], by simp [numsR], rfl, fun _ h => by cases h⟩
  | w :: r, i, p, h => by
    have o : one9 (-1) i w = numR w M9 := by unfold one9; rw [if_neg (by omega)]
    simp only [numsR, o] at h ⊢
    by_cases q : (numR w M9).2 = 0
    · rw [if_pos q] at h ⊢
      obtain ⟨x, h1, h2, h3⟩ := numsR_canon r _ _ h
      obtain ⟨e1, e2, e3⟩ := numR_canon q
      refine ⟨(numR w M9).1 :: x, by rw [h1]; simp, by rw [List.map_cons, ← h2, e1], fun n hn => ?_⟩
      rcases List.mem_cons.1 hn with rfl | hn
      · exact ⟨e2, e3⟩
      · exact h3 n hn
    · rw [if_neg q] at h; exact absurd h q
end Go.AM.Pl
namespace ZD
theorem kindR_letR {k : Int} (h : kOk k = true) : kindR (letR k) = (k, true) := by
  obtain rfl | rfl | rfl | rfl := kOk_cases h <;> rfl
theorem wok_lit {w : List UInt8} (h : (w != [] && w.all prt) = true) : wok w := by
  simp only [Bool.and_eq_true, bne_iff_ne, ne_eq, List.all_eq_true] at h; exact h
end ZD
open Go Go.AM Go.Proofs Go.AM.Pl
set_option maxRecDepth 100000
set_option maxHeartbeats 4000000
namespace ZD
theorem s86 {lo : Nat} {l : List Int} {h : H} (hl : l.length ≤ 9000000000000000000) : den cx lo 86 [AM.vs .dead 1 (ints l), AM.vs .dead 1 (ints l)] h = some (.b true, h) := by
  refine den_pure (fn := Tryz.f86) (by rfl) (by rfl) (by rfl) (by rfl) (by simp [Tryz.f86]) (by simp) ?_
  simp (maxSteps := 2000000) (disch := first | omega | (simp; done) | (simp; omega) | assumption) [Tryz.f86, argsE]
  obtain ⟨I, hI⟩ : ∃ I : Nat → List Ent → List (Nat × List V) → H → Prop, I = (fun n' vs lb g => ∃ j : Nat, n' + j = l.length ∧ (True) ∧ vs = [.v (.i (j : Int))] ∧ lb = [] ∧ g = h) := ⟨_, rfl⟩
  refine Wp.loopQ I (n := l.length) (by rw [hI]; exact ⟨0, by simp, trivial, by simp, by simp, by simp⟩) ?_
  intro n' vs lb g hi Q hQ; rw [hI] at hi; obtain ⟨j, hj, ha, rfl, rfl, rfl⟩ := hi
  have go : j < l.length → (True) → I (n' - 1) [.v (.i ((j : Int) + 1))] [] g := fun hlt q => by rw [hI]; exact ⟨j + 1, by omega, q, by simp, by simp, rfl⟩
  clear hI
  by_cases hlt : j < l.length
  · have go := go hlt trivial
    simp (maxSteps := 2000000) (disch := first | omega | (simp; done) | (simp; omega) | assumption) [isC, hlt, wrap64, foot, Op.operands, opTmps]
    exact ⟨indep_of bf86_6 (by rfl), n' - 1, by omega, go⟩
  · clear go
    simp (maxSteps := 2000000) (disch := first | omega | (simp; done) | (simp; omega) | assumption) [hlt]
    refine hQ _ _ ?_
    simp (maxSteps := 2000000) (disch := first | omega | (simp; done) | (simp; omega) | assumption) []
theorem s85 {lo : Nat} {l : List Int} {h : H} (hl : l.length ≤ 9000000000000000000) : den cx lo 85 [AM.vs .dead 1 (ints l), AM.vs .dead 1 (ints l)] h = some (.b true, h) := by
  have e86 := fun lo => s86 (lo := lo) (l := l) (h := h) hl
  refine den_pure (fn := Tryz.f85) (by rfl) (by rfl) (by rfl) (by rfl) (by simp [Tryz.f85]) (by simp) ?_
  simp (maxSteps := 2000000) (disch := first | omega | (simp; done) | (simp; omega) | assumption) [Tryz.f85, argsE, e86]
theorem s87 {lo : Nat} {w : List (List Int)} {h : H} (hl : w.length ≤ 9000000000000000000) (ho : ∀ l ∈ w, l.length ≤ 1000000) : den cx lo 87 [AM.vs .dead 1 (rowsV w), AM.vs .dead 1 (rowsV w), .fn (.func 85) [] []] h = some (.b true, h) := by
  refine den_pure (fn := Tryz.f87) (by rfl) (by rfl) (by rfl) (by rfl) (by simp [Tryz.f87]) (by simp [fg, fgL]) ?_
  simp (maxSteps := 2000000) (disch := first | omega | (simp; done) | (simp; omega) | assumption) [Tryz.f87, argsE]
  obtain ⟨I, hI⟩ : ∃ I : Nat → List Ent → List (Nat × List V) → H → Prop, I = (fun n' vs lb g => ∃ j : Nat, n' + j = w.length ∧ (True) ∧ vs = [.v (.i (j : Int))] ∧ lb = [] ∧ g = h) := ⟨_, rfl⟩
  refine Wp.loopQ I (n := w.length) (by rw [hI]; exact ⟨0, by simp, trivial, by simp, by simp, by simp⟩) ?_
  intro n' vs lb g hi Q hQ; rw [hI] at hi; obtain ⟨j, hj, ha, rfl, rfl, rfl⟩ := hi
  have go : j < w.length → (True) → I (n' - 1) [.v (.i ((j : Int) + 1))] [] g := fun hlt q => by rw [hI]; exact ⟨j + 1, by omega, q, by simp, by simp, rfl⟩
  clear hI
  by_cases hlt : j < w.length
  · have go := go hlt trivial
    have e85 := fun lo => s85 (lo := lo) (l := w[j]) (h := g) (by have := ho _ (List.getElem_mem hlt); omega)
    obtain ⟨x, hx⟩ : ∃ x, w[j] = x := ⟨_, rfl⟩
    rw [hx] at e85
    simp (maxSteps := 2000000) (disch := first | omega | (simp; done) | (simp; omega) | assumption) [isC, hlt, wrap64, rowsV, rowV, hx, boxV, boxO, fresh_no, List.filter_cons, setB, aggN, op_build, List.set, e85]
    exact ⟨n' - 1, by omega, go⟩
  · clear go
    simp (maxSteps := 2000000) (disch := first | omega | (simp; done) | (simp; omega) | assumption) [hlt]
    refine hQ _ _ ?_
    simp (maxSteps := 2000000) (disch := first | omega | (simp; done) | (simp; omega) | assumption) []
theorem s31 {lo : Nat} {o : Ord} {h : H} (hl : o.os.length ≤ 1000000) : den cx lo 31 [o.v, o.v] h = some (.b true, h) := by
  obtain ⟨a, b, c, d, os⟩ := o
  simp only at hl
  simp only [Ord.v, Ord.cs]
  refine den_pure (fn := Tryz.f31) (by rfl) (by rfl) (by rfl) (by rfl) (by simp [Tryz.f31]) (by simp) ?_
  simp (maxSteps := 2000000) (disch := first | omega | (simp; done) | (simp; omega) | assumption) [Tryz.f31, argsE, isC, boxV, boxO, fresh_no, List.filter_cons, setB, aggN, op_build, List.set]
  obtain ⟨I, hI⟩ : ∃ I : Nat → List Ent → List (Nat × List V) → H → Prop, I = (fun n' vs lb g => ∃ j : Nat, n' + j = os.length ∧ (True) ∧ vs = [.v (.i (j : Int))] ∧ lb = [(3, [V.i a, V.i b, V.i c, V.i d, AM.vs .dead 2 (spns os)]), (2, [V.i a, V.i b, V.i c, V.i d, AM.vs .dead 2 (spns os)])] ∧ g = h) := ⟨_, rfl⟩
  refine Wp.loopQ I (n := os.length) (by rw [hI]; exact ⟨0, by simp, trivial, by simp, by simp, by simp⟩) ?_
  intro n' vs lb g hi Q hQ; rw [hI] at hi; obtain ⟨j, hj, ha, rfl, rfl, rfl⟩ := hi
  have go : j < os.length → (True) → I (n' - 1) [.v (.i ((j : Int) + 1))] [(3, [V.i a, V.i b, V.i c, V.i d, AM.vs .dead 2 (spns os)]), (2, [V.i a, V.i b, V.i c, V.i d, AM.vs .dead 2 (spns os)])] g := fun hlt q => by rw [hI]; exact ⟨j + 1, by omega, q, by simp, by simp, rfl⟩
  clear hI
  by_cases hlt : j < os.length
  · have go := go hlt trivial
    simp (maxSteps := 2000000) (disch := first | omega | (simp; done) | (simp; omega) | assumption) [isC, hlt, wrap64, foot, Op.operands, opTmps, Spn.v, spns, boxV, boxO, fresh_no, List.filter_cons, setB, aggN, op_build, List.set]
    exact ⟨indep_of bf31_6 (by rfl), n' - 1, by omega, go⟩
  · clear go
    simp (maxSteps := 2000000) (disch := first | omega | (simp; done) | (simp; omega) | assumption) [hlt]
    refine hQ _ _ ?_
    simp (maxSteps := 2000000) (disch := first | omega | (simp; done) | (simp; omega) | assumption) []
theorem s88 {lo : Nat} {l : List Ord} {h : H} (hl : l.length ≤ 9000000000000000000) (ho : ∀ o ∈ l, o.os.length ≤ 1000000) : den cx lo 88 [AM.vs .dead 5 (ordsV l), AM.vs .dead 5 (ordsV l), .fn (.func 31) [] []] h = some (.b true, h) := by
  refine den_pure (fn := Tryz.f88) (by rfl) (by rfl) (by rfl) (by rfl) (by simp [Tryz.f88]) (by simp [fg, fgL]) ?_
  simp (maxSteps := 2000000) (disch := first | omega | (simp; done) | (simp; omega) | assumption) [Tryz.f88, argsE]
  obtain ⟨I, hI⟩ : ∃ I : Nat → List Ent → List (Nat × List V) → H → Prop, I = (fun n' vs lb g => ∃ j : Nat, n' + j = l.length ∧ (True) ∧ vs = [.v (.i (j : Int))] ∧ lb = [] ∧ g = h) := ⟨_, rfl⟩
  refine Wp.loopQ I (n := l.length) (by rw [hI]; exact ⟨0, by simp, trivial, by simp, by simp, by simp⟩) ?_
  intro n' vs lb g hi Q hQ; rw [hI] at hi; obtain ⟨j, hj, ha, rfl, rfl, rfl⟩ := hi
  have go : j < l.length → (True) → I (n' - 1) [.v (.i ((j : Int) + 1))] [] g := fun hlt q => by rw [hI]; exact ⟨j + 1, by omega, q, by simp, by simp, rfl⟩
  clear hI
  by_cases hlt : j < l.length
  · have go := go hlt trivial
    have e31 := fun lo => s31 (lo := lo) (o := l[j]) (h := g) (ho _ (List.getElem_mem hlt))
    obtain ⟨x, hx⟩ : ∃ x, l[j] = x := ⟨_, rfl⟩
    rw [hx] at e31
    obtain ⟨a, b, c, d, os⟩ := x
    simp only [Ord.v, Ord.cs] at e31
    simp (maxSteps := 2000000) (disch := first | omega | (simp; done) | (simp; omega) | assumption) [isC, hlt, wrap64, ordsV, Ord.v, Ord.cs, hx, boxV, boxO, fresh_no, List.filter_cons, setB, aggN, op_build, List.set, e31, foot, Op.operands, opTmps]
    exact ⟨n' - 1, by omega, go⟩
  · clear go
    simp (maxSteps := 2000000) (disch := first | omega | (simp; done) | (simp; omega) | assumption) [hlt]
    refine hQ _ _ ?_
    simp (maxSteps := 2000000) (disch := first | omega | (simp; done) | (simp; omega) | assumption) []
theorem s90 {lo : Nat} {t : Trk} {h : H} (hl : t.past.length ≤ 1000000) : den cx lo 90 [t.v, t.v] h = some (.b true, h) := by
  obtain ⟨a1, a2, a3, a4, a5, rs⟩ := t
  simp only at hl
  simp only [Trk.v]
  refine den_pure (fn := Tryz.f90) (by rfl) (by rfl) (by rfl) (by rfl) (by simp [Tryz.f90]) (by simp) ?_
  simp (maxSteps := 2000000) (disch := first | omega | (simp; done) | (simp; omega) | assumption) [Tryz.f90, argsE, isC, boxV, boxO, fresh_no, List.filter_cons, setB, aggN, op_build, List.set]
  obtain ⟨I, hI⟩ : ∃ I : Nat → List Ent → List (Nat × List V) → H → Prop, I = (fun n' vs lb g => ∃ j : Nat, n' + j = rs.length ∧ (True) ∧ vs = [.v (.i (j : Int))] ∧ lb = [(3, [V.i a1, V.i a2, V.i a3, V.i a4, V.i a5, AM.vs .dead 3 (recs rs)]), (2, [V.i a1, V.i a2, V.i a3, V.i a4, V.i a5, AM.vs .dead 3 (recs rs)])] ∧ g = h) := ⟨_, rfl⟩
  refine Wp.loopQ I (n := rs.length) (by rw [hI]; exact ⟨0, by simp, trivial, by simp, by simp, by simp⟩) ?_
  intro n' vs lb g hi Q hQ; rw [hI] at hi; obtain ⟨j, hj, ha, rfl, rfl, rfl⟩ := hi
  have go : j < rs.length → (True) → I (n' - 1) [.v (.i ((j : Int) + 1))] [(3, [V.i a1, V.i a2, V.i a3, V.i a4, V.i a5, AM.vs .dead 3 (recs rs)]), (2, [V.i a1, V.i a2, V.i a3, V.i a4, V.i a5, AM.vs .dead 3 (recs rs)])] g := fun hlt q => by rw [hI]; exact ⟨j + 1, by omega, q, by simp, by simp, rfl⟩
  clear hI
  by_cases hlt : j < rs.length
  · have go := go hlt trivial
    simp only [recs] at go ⊢
    simp (maxSteps := 2000000) (disch := first | omega | (simp; done) | (simp; omega) | assumption) [isC, hlt, wrap64, foot, Op.operands, opTmps, Rec.v, boxV, boxO, fresh_no, List.filter_cons, setB, aggN, op_build, List.set]
    exact ⟨indep_of bf90_6 (by rfl), n' - 1, by omega, go⟩
  · clear go
    simp (maxSteps := 2000000) (disch := first | omega | (simp; done) | (simp; omega) | assumption) [hlt]
    refine hQ _ _ ?_
    simp (maxSteps := 2000000) (disch := first | omega | (simp; done) | (simp; omega) | assumption) []
theorem s89 {lo : Nat} {l : List Trk} {h : H} (hl : l.length ≤ 9000000000000000000) (ho : ∀ t ∈ l, t.past.length ≤ 1000000) : den cx lo 89 [AM.vs .dead 6 (trksV l), AM.vs .dead 6 (trksV l), .fn (.func 90) [] []] h = some (.b true, h) := by
  refine den_pure (fn := Tryz.f89) (by rfl) (by rfl) (by rfl) (by rfl) (by simp [Tryz.f89]) (by simp [fg, fgL]) ?_
  simp (maxSteps := 2000000) (disch := first | omega | (simp; done) | (simp; omega) | assumption) [Tryz.f89, argsE]
  obtain ⟨I, hI⟩ : ∃ I : Nat → List Ent → List (Nat × List V) → H → Prop, I = (fun n' vs lb g => ∃ j : Nat, n' + j = l.length ∧ (True) ∧ vs = [.v (.i (j : Int))] ∧ lb = [] ∧ g = h) := ⟨_, rfl⟩
  refine Wp.loopQ I (n := l.length) (by rw [hI]; exact ⟨0, by simp, trivial, by simp, by simp, by simp⟩) ?_
  intro n' vs lb g hi Q hQ; rw [hI] at hi; obtain ⟨j, hj, ha, rfl, rfl, rfl⟩ := hi
  have go : j < l.length → (True) → I (n' - 1) [.v (.i ((j : Int) + 1))] [] g := fun hlt q => by rw [hI]; exact ⟨j + 1, by omega, q, by simp, by simp, rfl⟩
  clear hI
  by_cases hlt : j < l.length
  · have go := go hlt trivial
    have e90 := fun lo => s90 (lo := lo) (t := l[j]) (h := g) (ho _ (List.getElem_mem hlt))
    obtain ⟨x, hx⟩ : ∃ x, l[j] = x := ⟨_, rfl⟩
    rw [hx] at e90
    obtain ⟨a1, a2, a3, a4, a5, rs⟩ := x
    simp only [Trk.v] at e90
    simp (maxSteps := 2000000) (disch := first | omega | (simp; done) | (simp; omega) | assumption) [isC, hlt, wrap64, trksV, Trk.v, hx, boxV, boxO, fresh_no, List.filter_cons, setB, aggN, op_build, List.set, e90, foot, Op.operands, opTmps]
    exact ⟨n' - 1, by omega, go⟩
  · clear go
    simp (maxSteps := 2000000) (disch := first | omega | (simp; done) | (simp; omega) | assumption) [hlt]
    refine hQ _ _ ?_
    simp (maxSteps := 2000000) (disch := first | omega | (simp; done) | (simp; omega) | assumption) []
theorem s28 {lo : Nat} {d : Dep} {h : H} (hs : d.sm) : den cx lo 28 [d.v, d.v] h = some (.b true, h) := by
  obtain ⟨hb, h1, h2, h3, h4, h5, h6⟩ := hs
  have e87 := fun lo => s87 (lo := lo) (w := d.ways) (h := h) (by omega) h2
  have e88 := fun lo => s88 (lo := lo) (l := d.ords) (h := h) (by omega) h4
  have e89 := fun lo => s89 (lo := lo) (l := d.trks) (h := h) (by omega) h6
  obtain ⟨D, hDv, n22, n19, t22, t19, fD, d19, d20, d21⟩ := deps hb
  obtain ⟨B, hBv, n19', t19', f19, _⟩ := bks hb
  have heq : binOpV cx .eql 50 (.agg B) (.agg B) = some (.b true) := by
    rw [← hBv]
    obtain ⟨b0, b1, b2, b3, b4, b5, b6, b7, b8, b9, b10, b11, b12, b13, b14, b15, b16, b17, b18, hbb⟩ := len19 hb
    rw [hbb]
    simp [bkv, ints]
  rw [hBv] at t19
  have t19 : D.take 19 = B := V.agg.inj t19
  rw [hDv]
  refine den_pure (fn := Tryz.f28) (by rfl) (by rfl) (by rfl) (by rfl) (by simp [Tryz.f28]) (by simp [fD]) ?_
  simp (maxSteps := 2000000) (disch := first | omega | (simp; done) | (simp; omega) | assumption) [Tryz.f28, argsE, isC, boxV, boxO, fresh_no, List.filter_cons, setB, aggN, op_build, List.set, n22, n19, t22, t19, fD, d19, d20, d21, heq, e87, e88, e89, fg, fgL]
end ZD

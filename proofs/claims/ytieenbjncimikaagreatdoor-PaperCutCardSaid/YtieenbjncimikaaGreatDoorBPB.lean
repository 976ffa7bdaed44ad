/- What functions tell of depots: orders, records. No condition. -/
import Derived.Test.YtieenbjncimikaaGreatDoorBPA
set_option linter.all false
open Go Go.AM Go.Proofs Go.AM.Pl
set_option maxRecDepth 100000
set_option maxHeartbeats 4000000
namespace ZD
theorem s165 {lo : Nat} {n a b : Int} {h : H} : den cx lo 165 [.i n, .i a, .i b] h = some (.b (decide (a ≤ n) && decide (n ≤ b)), h) := by
  refine den_pure (fn := Tryz.f165) (by rfl) (by rfl) (by rfl) (by rfl) (by simp [Tryz.f165]) (by simp) ?_
  by_cases h1 : a ≤ n <;> simp (maxSteps := 2000000) (disch := first | omega | (simp; done) | (simp; omega) | assumption) [Tryz.f165, argsE, isC, h1]
def okS1 (s : Spn) : Bool := decide (s.f0 < s.f1)
def okS2 (s : Spn) : Bool := !(decide (s.f0 < 0) || decide (40320 < s.f1))
theorem s190 {lo : Nat} {s : Spn} {h : H} : den cx lo 190 [Spn.v s] h = some (.b (okS1 s), h) := by
  refine den_pure (fn := Tryz.f190) (by rfl) (by rfl) (by rfl) (by rfl) (by simp [Tryz.f190]) (by simp) ?_
  simp (maxSteps := 2000000) (disch := first | omega | (simp; done) | (simp; omega) | assumption) [Tryz.f190, argsE, Spn.v, boxV, boxO, fresh_no, List.filter_cons, setB, aggN, op_build, List.set, isC, okS1]
theorem s189 {lo : Nat} {s : Spn} {h : H} : den cx lo 189 [Spn.v s] h = some (.b (!okS1 s), h) := by
  have e := fun lo => s190 (lo := lo) (s := s) (h := h)
  simp only [Spn.v] at e
  refine den_pure (fn := Tryz.f189) (by rfl) (by rfl) (by rfl) (by rfl) (by simp [Tryz.f189]) (by simp) ?_
  simp (maxSteps := 2000000) (disch := first | omega | (simp; done) | (simp; omega) | assumption) [Tryz.f189, argsE, Spn.v, boxV, boxO, fresh_no, List.filter_cons, setB, aggN, op_build, List.set, isC, e]
theorem s191 {lo : Nat} {s : Spn} {h : H} : den cx lo 191 [Spn.v s] h = some (.b (!okS2 s), h) := by
  refine den_pure (fn := Tryz.f191) (by rfl) (by rfl) (by rfl) (by rfl) (by simp [Tryz.f191]) (by simp) ?_
  by_cases h1 : s.f0 < 0
  · simp (maxSteps := 2000000) (disch := first | omega | (simp; done) | (simp; omega) | assumption) [Tryz.f191, argsE, Spn.v, boxV, boxO, fresh_no, List.filter_cons, setB, aggN, op_build, List.set, isC, okS2, h1]
  by_cases h2 : 40320 < s.f1
  · simp (maxSteps := 2000000) (disch := first | omega | (simp; done) | (simp; omega) | assumption) [Tryz.f191, argsE, Spn.v, boxV, boxO, fresh_no, List.filter_cons, setB, aggN, op_build, List.set, isC, okS2, h1, h2]
  simp (maxSteps := 2000000) (disch := first | omega | (simp; done) | (simp; omega) | assumption) [Tryz.f191, argsE, Spn.v, boxV, boxO, fresh_no, List.filter_cons, setB, aggN, op_build, List.set, isC, okS2, h1, h2]
theorem s142_189 {lo : Nat} {l : List Spn} {h : H} (hl : l.length ≤ 9000000000000000000) : den cx lo 142 [AM.vs .dead 2 (spns l), .fn (.func 189) [] []] h = some (.i (fstNot okS1 l), h) := by
  refine den_pure (fn := Tryz.f142) (by rfl) (by rfl) (by rfl) (by rfl) (by simp [Tryz.f142]) (by simp) ?_
  simp (maxSteps := 2000000) (disch := first | omega | (simp; done) | (simp; omega) | assumption) [Tryz.f142, argsE]
  obtain ⟨I, hI⟩ : ∃ I : Nat → List Ent → List (Nat × List V) → H → Prop, I = (fun n' vs lb g => ∃ j : Nat, n' + j = l.length ∧ ((l.take j).all okS1 = true) ∧ vs = [.v (.i (j : Int))] ∧ lb = [] ∧ g = h) := ⟨_, rfl⟩
  refine Wp.loopQ I (n := l.length) (by rw [hI]; exact ⟨0, by simp, rfl, by simp, by simp, by simp⟩) ?_
  intro n' vs lb g hi Q hQ; rw [hI] at hi; obtain ⟨j, hj, ha, rfl, rfl, rfl⟩ := hi
  have go : j < l.length → ((l.take (j + 1)).all okS1 = true) → I (n' - 1) [.v (.i ((j : Int) + 1))] [] g := fun hlt q => by rw [hI]; exact ⟨j + 1, by omega, q, by simp, by simp, rfl⟩
  clear hI
  by_cases hlt : j < l.length
  · have e := fun lo => s189 (lo := lo) (s := l[j]) (h := g)
    simp only [Spn.v] at e
    by_cases q : okS1 l[j] = true
    · have go := go hlt (take_all hlt q ha)
      clear ha
      simp (maxSteps := 2000000) (disch := first | omega | (simp; done) | (simp; omega) | assumption) [spns, Spn.v, isC, hlt, wrap64, e, q, boxV, boxO, fresh_no, List.filter_cons, setB, aggN, op_build, List.set]
      exact ⟨n' - 1, by omega, go⟩
    · have e1 := fst_at hlt ha (by simpa using q)
      clear ha go
      simp (maxSteps := 2000000) (disch := first | omega | (simp; done) | (simp; omega) | assumption) [spns, Spn.v, isC, hlt, wrap64, e, q, boxV, boxO, fresh_no, List.filter_cons, setB, aggN, op_build, List.set]
      refine hQ _ _ ?_
      simp (maxSteps := 2000000) (disch := first | omega | (simp; done) | (simp; omega) | assumption) [e1]
  · rw [List.take_of_length_le (by omega)] at ha
    have e := fst_no ha
    have : ¬ ((j : Int) < l.length) := by omega
    clear go
    simp (maxSteps := 2000000) (disch := first | omega | (simp; done) | (simp; omega) | assumption) [hlt, this]
    refine hQ _ _ ?_
    simp (maxSteps := 2000000) (disch := first | omega | (simp; done) | (simp; omega) | assumption) [e]
theorem s94_189 {lo : Nat} {l : List Spn} {h : H} (hl : l.length ≤ 9000000000000000000) : den cx lo 94 [AM.vs .dead 2 (spns l), .fn (.func 189) [] []] h = some (.b (!l.all okS1), h) := by
  refine den_pure (fn := Tryz.f94) (by rfl) (by rfl) (by rfl) (by rfl) (by simp [Tryz.f94]) (by simp) ?_
  have e : decide (0 ≤ fstNot okS1 l) = !l.all okS1 := by
    by_cases q : l.all okS1 = true
    · rw [fst_no q, q]; rfl
    · have := fst_neg.2 (by simpa using q); simp [this, q]
  simp (maxSteps := 2000000) (disch := first | omega | (simp; done) | (simp; omega) | assumption) [Tryz.f94, argsE, s142_189, e]
theorem s142_191 {lo : Nat} {l : List Spn} {h : H} (hl : l.length ≤ 9000000000000000000) : den cx lo 142 [AM.vs .dead 2 (spns l), .fn (.func 191) [] []] h = some (.i (fstNot okS2 l), h) := by
  refine den_pure (fn := Tryz.f142) (by rfl) (by rfl) (by rfl) (by rfl) (by simp [Tryz.f142]) (by simp) ?_
  simp (maxSteps := 2000000) (disch := first | omega | (simp; done) | (simp; omega) | assumption) [Tryz.f142, argsE]
  obtain ⟨I, hI⟩ : ∃ I : Nat → List Ent → List (Nat × List V) → H → Prop, I = (fun n' vs lb g => ∃ j : Nat, n' + j = l.length ∧ ((l.take j).all okS2 = true) ∧ vs = [.v (.i (j : Int))] ∧ lb = [] ∧ g = h) := ⟨_, rfl⟩
  refine Wp.loopQ I (n := l.length) (by rw [hI]; exact ⟨0, by simp, rfl, by simp, by simp, by simp⟩) ?_
  intro n' vs lb g hi Q hQ; rw [hI] at hi; obtain ⟨j, hj, ha, rfl, rfl, rfl⟩ := hi
  have go : j < l.length → ((l.take (j + 1)).all okS2 = true) → I (n' - 1) [.v (.i ((j : Int) + 1))] [] g := fun hlt q => by rw [hI]; exact ⟨j + 1, by omega, q, by simp, by simp, rfl⟩
  clear hI
  by_cases hlt : j < l.length
  · have e := fun lo => s191 (lo := lo) (s := l[j]) (h := g)
    simp only [Spn.v] at e
    by_cases q : okS2 l[j] = true
    · have go := go hlt (take_all hlt q ha)
      clear ha
      simp (maxSteps := 2000000) (disch := first | omega | (simp; done) | (simp; omega) | assumption) [spns, Spn.v, isC, hlt, wrap64, e, q, boxV, boxO, fresh_no, List.filter_cons, setB, aggN, op_build, List.set]
      exact ⟨n' - 1, by omega, go⟩
    · have e1 := fst_at hlt ha (by simpa using q)
      clear ha go
      simp (maxSteps := 2000000) (disch := first | omega | (simp; done) | (simp; omega) | assumption) [spns, Spn.v, isC, hlt, wrap64, e, q, boxV, boxO, fresh_no, List.filter_cons, setB, aggN, op_build, List.set]
      refine hQ _ _ ?_
      simp (maxSteps := 2000000) (disch := first | omega | (simp; done) | (simp; omega) | assumption) [e1]
  · rw [List.take_of_length_le (by omega)] at ha
    have e := fst_no ha
    have : ¬ ((j : Int) < l.length) := by omega
    clear go
    simp (maxSteps := 2000000) (disch := first | omega | (simp; done) | (simp; omega) | assumption) [hlt, this]
    refine hQ _ _ ?_
    simp (maxSteps := 2000000) (disch := first | omega | (simp; done) | (simp; omega) | assumption) [e]
theorem s94_191 {lo : Nat} {l : List Spn} {h : H} (hl : l.length ≤ 9000000000000000000) : den cx lo 94 [AM.vs .dead 2 (spns l), .fn (.func 191) [] []] h = some (.b (!l.all okS2), h) := by
  refine den_pure (fn := Tryz.f94) (by rfl) (by rfl) (by rfl) (by rfl) (by simp [Tryz.f94]) (by simp) ?_
  have e : decide (0 ≤ fstNot okS2 l) = !l.all okS2 := by
    by_cases q : l.all okS2 = true
    · rw [fst_no q, q]; rfl
    · have := fst_neg.2 (by simpa using q); simp [this, q]
  simp (maxSteps := 2000000) (disch := first | omega | (simp; done) | (simp; omega) | assumption) [Tryz.f94, argsE, s142_191, e]
def pto (l : List Spn) (j : Nat) : Int := (l.getD (j - 1) ⟨0, 0⟩).f1
def rgt (l : List Spn) (j : Nat) (s : Spn) : Option Unit := if okS1 s = false then some () else if 0 < j ∧ s.f0 ≤ pto l j then some () else none
def rightS (l : List Spn) : Bool := (scan (rgt l) 0 l).isNone
def winC (l : List Spn) : Int := if l.length = 0 then 13 else if 8 < l.length then 12 else if l.all okS1 = false then 3 else if l.all okS2 = false then 4 else if rightS l = false then 6 else 0
def ordC (o : Ord) (n : Int) : Int :=
  if o.a < 1 ∨ 999999 < o.a then 1 else if o.b < 0 ∨ n ≤ o.b then 10 else if o.c < -1000000 ∨ 1000000 < o.c ∨ o.d < 1 ∨ 1440 < o.d then 4 else winC o.os
def pid (l : List Ord) (j : Nat) : Int := if j = 0 then 0 else (l.getD (j - 1) ⟨0, 0, 0, 0, []⟩).a
def ordF (l : List Ord) (n : Int) (j : Nat) (o : Ord) : Option (Int × Int) :=
  if ordC o n ≠ 0 then some (j, ordC o n) else if o.a = pid l j then some (j, 11) else if o.a < pid l j then some (j, 18) else none
def ordsC (l : List Ord) (n : Int) : Int × Int := if 2000 < l.length then (0, 12) else (scan (ordF l n) 0 l).getD (0, 0)
theorem s192 {lo : Nat} {l : List Spn} {h : H} (hl : l.length ≤ 9000000000000000000) : den cx lo 192 [AM.vs .dead 2 (spns l)] h = some (.b (rightS l), h) := by
  obtain ⟨v, hv⟩ : ∃ v, scan (rgt l) 0 l = v := ⟨_, rfl⟩
  refine den_pure (fn := Tryz.f192) (by rfl) (by rfl) (by rfl) (by rfl) (by simp [Tryz.f192]) (by simp) ?_
  simp only [rightS, hv]
  simp (maxSteps := 2000000) (disch := first | omega | (simp; done) | (simp; omega) | assumption) [Tryz.f192, argsE]
  obtain ⟨I, hI⟩ : ∃ I : Nat → List Ent → List (Nat × List V) → H → Prop, I = (fun n' vs lb g => ∃ j : Nat, n' + j = l.length ∧ (scan (rgt l) j (l.drop j) = v) ∧ vs = [.v (.i (j : Int))] ∧ lb = [] ∧ g = h) := ⟨_, rfl⟩
  refine Wp.loopQ I (n := l.length) (by rw [hI]; exact ⟨0, by simp, hv, by simp, by simp, by simp⟩) ?_
  intro n' vs lb g hi Q hQ; rw [hI] at hi; obtain ⟨j, hj, ha, rfl, rfl, rfl⟩ := hi
  have go : j < l.length → (scan (rgt l) (j + 1) (l.drop (j + 1)) = v) → I (n' - 1) [.v (.i ((j : Int) + 1))] [] g := fun hlt q => by rw [hI]; exact ⟨j + 1, by omega, q, by simp, by simp, rfl⟩
  clear hI
  by_cases hlt : j < l.length
  · obtain ⟨x, hx⟩ : ∃ x, l[j] = x := ⟨_, rfl⟩
    have e := fun lo => s190 (lo := lo) (s := x) (h := g)
    simp only [Spn.v] at e
    by_cases a1 : okS1 x = true
    case neg =>
      have e0 := scan_hit (f := rgt l) (e := ()) hlt (by rw [hx]; simp [rgt, a1]) ha
      subst e0
      clear go ha hv
      simp (maxSteps := 2000000) (disch := first | omega | (simp; done) | (simp; omega) | assumption) [hlt, spns, Spn.v, hx, isC, a1, e, wrap64, boxV, boxO, fresh_no, List.filter_cons, setB, aggN, op_build, List.set, foot, Op.operands, opTmps]
      exact ⟨indep_of bf192_4 (by rfl), hQ _ _ (by simp)⟩
    by_cases a2 : j = 0
    · have go := go hlt (scan_go (f := rgt l) hlt (by rw [hx]; simp [rgt, a1, a2]) ha)
      clear ha hv
      subst a2
      simp (maxSteps := 2000000) (disch := first | omega | (simp; done) | (simp; omega) | assumption) [hlt, spns, Spn.v, hx, isC, a1, e, wrap64, boxV, boxO, fresh_no, List.filter_cons, setB, aggN, op_build, List.set, foot, Op.operands, opTmps]
      exact ⟨indep_of bf192_4 (by rfl), n' - 1, by omega, go⟩
    obtain ⟨i, rfl⟩ : ∃ i, j = i + 1 := ⟨j - 1, by omega⟩
    have hi : i < l.length := by omega
    have e3 : (0 : Int) < ((i : Int) + 1) := by omega
    have hlt' : (i : Int) + 1 < (l.length : Int) := by omega
    have e4 : ((i : Int) + 1) - 1 = (i : Int) := by omega
    obtain ⟨y, hy⟩ : ∃ y, l[i] = y := ⟨_, rfl⟩
    have hp : pto l (i + 1) = y.f1 := by simp [pto, List.getD, hi, hy]
    by_cases a3 : x.f0 ≤ y.f1
    · have e0 := scan_hit (f := rgt l) (e := ()) hlt (by rw [hx]; simp [rgt, a1, hp, a3]) ha
      subst e0
      clear go ha hv
      simp (maxSteps := 2000000) (disch := first | omega | (simp; done) | (simp; omega) | assumption) [hlt, hlt', hi, spns, Spn.v, hx, hy, isC, a1, a3, e, e3, e4, wrap64, boxV, boxO, fresh_no, List.filter_cons, setB, aggN, op_build, List.set, foot, Op.operands, opTmps]
      exact ⟨indep_of bf192_4 (by rfl), hQ _ _ (by simp)⟩
    · have go := go hlt (scan_go (f := rgt l) hlt (by rw [hx]; simp [rgt, a1, hp, a3]) ha)
      clear ha hv
      simp (maxSteps := 2000000) (disch := first | omega | (simp; done) | (simp; omega) | assumption) [hlt, hlt', hi, spns, Spn.v, hx, hy, isC, a1, a3, e, e3, e4, wrap64, boxV, boxO, fresh_no, List.filter_cons, setB, aggN, op_build, List.set, foot, Op.operands, opTmps]
      exact ⟨indep_of bf192_4 (by rfl), n' - 1, by omega, go⟩
  · have e := scan_end (by omega) ha
    subst e
    clear go ha hv
    have hlt' : ¬ ((j : Int) < l.length) := by omega
    simp (maxSteps := 2000000) (disch := first | omega | (simp; done) | (simp; omega) | assumption) [hlt, hlt']
    refine hQ _ _ ?_
    simp (maxSteps := 2000000) (disch := first | omega | (simp; done) | (simp; omega) | assumption) []
end ZD
open Go Go.AM Go.Proofs Go.AM.Pl
set_option maxRecDepth 100000
set_option maxHeartbeats 4000000
namespace ZD
theorem s166 {lo : Nat} {l : List Spn} {h : H} (hl : l.length ≤ 9000000000000000000) : den cx lo 166 [AM.vs .dead 2 (spns l)] h = some (.i (winC l), h) := by
  refine den_pure (fn := Tryz.f166) (by rfl) (by rfl) (by rfl) (by rfl) (by simp [Tryz.f166]) (by simp) ?_
  have e1 := fun lo => s94_189 (lo := lo) (l := l) (h := h) hl
  have e2 := fun lo => s94_191 (lo := lo) (l := l) (h := h) hl
  have e3 := fun lo => s192 (lo := lo) (l := l) (h := h) hl
  by_cases h0 : l.length = 0
  · simp (maxSteps := 2000000) (disch := first | omega | (simp; done) | (simp; omega) | assumption) [Tryz.f166, argsE, isC, h0, winC]
  by_cases h1 : 8 < l.length
  · have h1' : (8 : Int) < (l.length : Int) := by omega
    simp (maxSteps := 2000000) (disch := first | omega | (simp; done) | (simp; omega) | assumption) [Tryz.f166, argsE, isC, h0, h1, h1', winC]
  have h1' : ¬ ((8 : Int) < (l.length : Int)) := by omega
  by_cases h2 : l.all okS1 = true
  case neg => simp (maxSteps := 2000000) (disch := first | omega | (simp; done) | (simp; omega) | assumption) [Tryz.f166, argsE, isC, h0, h1, h1', winC, h2, e1]
  by_cases h3 : l.all okS2 = true
  case neg => simp (maxSteps := 2000000) (disch := first | omega | (simp; done) | (simp; omega) | assumption) [Tryz.f166, argsE, isC, h0, h1, h1', winC, h2, e1, h3, e2]
  by_cases h4 : rightS l = true <;> simp (maxSteps := 2000000) (disch := first | omega | (simp; done) | (simp; omega) | assumption) [Tryz.f166, argsE, isC, h0, h1, h1', winC, h2, e1, h3, e2, h4, e3]
theorem s137 {lo : Nat} {o : Ord} {n : Int} {h : H} (hl : o.os.length ≤ 9000000000000000000) : den cx lo 137 [o.v, .i n] h = some (.i (ordC o n), h) := by
  obtain ⟨a, b, c, d, os⟩ := o
  have e := fun lo => s166 (lo := lo) (l := os) (h := h) hl
  have hf : fgL (spns os) = spns os := by simp
  refine den_pure (fn := Tryz.f137) (by rfl) (by rfl) (by rfl) (by rfl) (by simp [Tryz.f137]) (by simp) ?_
  by_cases h1 : 1 ≤ a
  case neg => simp (maxSteps := 2000000) (disch := first | omega | (simp; done) | (simp; omega) | assumption) [Tryz.f137, argsE, Ord.v, Ord.cs, boxV, boxO, fresh_no, List.filter_cons, setB, aggN, op_build, List.set, isC, s165, ordC, h1, show a < 1 by omega]
  by_cases h2 : a ≤ 999999
  case neg => simp (maxSteps := 2000000) (disch := first | omega | (simp; done) | (simp; omega) | assumption) [Tryz.f137, argsE, Ord.v, Ord.cs, boxV, boxO, fresh_no, List.filter_cons, setB, aggN, op_build, List.set, isC, s165, ordC, h1, h2, show 999999 < a by omega]
  by_cases h3 : b < 0
  · simp (maxSteps := 2000000) (disch := first | omega | (simp; done) | (simp; omega) | assumption) [Tryz.f137, argsE, Ord.v, Ord.cs, boxV, boxO, fresh_no, List.filter_cons, setB, aggN, op_build, List.set, isC, s165, ordC, h1, h2, h3, show ¬ a < 1 by omega, show ¬ 999999 < a by omega]
  by_cases h4 : n ≤ b
  · simp (maxSteps := 2000000) (disch := first | omega | (simp; done) | (simp; omega) | assumption) [Tryz.f137, argsE, Ord.v, Ord.cs, boxV, boxO, fresh_no, List.filter_cons, setB, aggN, op_build, List.set, isC, s165, ordC, h1, h2, h3, h4, show ¬ a < 1 by omega, show ¬ 999999 < a by omega]
  have hh : ordC ⟨a, b, c, d, os⟩ n = if c < -1000000 ∨ 1000000 < c ∨ d < 1 ∨ 1440 < d then 4 else winC os := by
    simp only [ordC]; rw [if_neg (by omega), if_neg (by omega)]
  rw [hh]
  by_cases h5 : -1000000 ≤ c ∧ c ≤ 1000000
  case neg =>
    rw [if_pos (by omega)]
    by_cases h6 : -1000000 ≤ c
    · simp (maxSteps := 2000000) (disch := first | omega | (simp; done) | (simp; omega) | assumption) [Tryz.f137, argsE, Ord.v, Ord.cs, boxV, boxO, fresh_no, List.filter_cons, setB, aggN, op_build, List.set, isC, s165, h1, h2, h3, h4, h6, show ¬ c ≤ 1000000 by omega]
    · simp (maxSteps := 2000000) (disch := first | omega | (simp; done) | (simp; omega) | assumption) [Tryz.f137, argsE, Ord.v, Ord.cs, boxV, boxO, fresh_no, List.filter_cons, setB, aggN, op_build, List.set, isC, s165, h1, h2, h3, h4, h6]
  by_cases h7 : 1 ≤ d ∧ d ≤ 1440
  case neg =>
    rw [if_pos (by omega)]
    by_cases h6 : 1 ≤ d
    · simp (maxSteps := 2000000) (disch := first | omega | (simp; done) | (simp; omega) | assumption) [Tryz.f137, argsE, Ord.v, Ord.cs, boxV, boxO, fresh_no, List.filter_cons, setB, aggN, op_build, List.set, isC, s165, h1, h2, h3, h4, h5, h6, show ¬ d ≤ 1440 by omega]
    · simp (maxSteps := 2000000) (disch := first | omega | (simp; done) | (simp; omega) | assumption) [Tryz.f137, argsE, Ord.v, Ord.cs, boxV, boxO, fresh_no, List.filter_cons, setB, aggN, op_build, List.set, isC, s165, h1, h2, h3, h4, h5, h6]
  rw [if_neg (by omega)]
  simp (maxSteps := 2000000) (disch := first | omega | (simp; done) | (simp; omega) | assumption) [Tryz.f137, argsE, Ord.v, Ord.cs, boxV, boxO, fresh_no, List.filter_cons, setB, aggN, op_build, List.set, isC, s165, h1, h2, h3, h4, h5, h7, e]
end ZD
open Go Go.AM Go.Proofs Go.AM.Pl
set_option maxRecDepth 100000
set_option maxHeartbeats 4000000
namespace ZD
def ordsV (l : List Ord) : List V := l.map Ord.v
@[simp] theorem fgL_ordsV (l : List Ord) : fgL (ordsV l) = ordsV l := fgL_mapE _ (fun _ => by simp) l
@[simp] theorem ordsV_len (l : List Ord) : (ordsV l).length = l.length := by simp [ordsV]
theorem pid_s {l : List Ord} {j : Nat} (h : j < l.length) : pid l (j + 1) = l[j].a := by simp [pid, List.getD, h]
theorem s82 {lo : Nat} {l : List Ord} {n : Int} {h : H} (hb : l.length ≤ 1000000) (hl : ∀ o ∈ l, o.os.length ≤ 9000000000000000000) : den cx lo 82 [AM.vs .dead 5 (ordsV l), .i n] h = some (.tup [.i (ordsC l n).1, .i (ordsC l n).2], h) := by
  refine den_pure (fn := Tryz.f82) (by rfl) (by rfl) (by rfl) (by rfl) (by simp [Tryz.f82]) (by simp) ?_
  by_cases h0 : 2000 < l.length
  · have h0' : (2000 : Int) < (l.length : Int) := by omega
    simp (maxSteps := 2000000) (disch := first | omega | (simp; done) | (simp; omega) | assumption) [Tryz.f82, argsE, isC, h0, h0', ordsC, Cl1_tup, Cl1_agg, Cl1_vs]
  have h0' : ¬ ((2000 : Int) < (l.length : Int)) := by omega
  obtain ⟨v, hv⟩ : ∃ v, scan (ordF l n) 0 l = v := ⟨_, rfl⟩
  simp only [ordsC, h0, if_false, hv]
  simp (maxSteps := 2000000) (disch := first | omega | (simp; done) | (simp; omega) | assumption) [Tryz.f82, argsE, isC, h0, h0']
  obtain ⟨I, hI⟩ : ∃ I : Nat → List Ent → List (Nat × List V) → H → Prop, I = (fun n' vs lb g => ∃ j : Nat, n' + j = l.length ∧ (scan (ordF l n) j (l.drop j) = v) ∧ vs = [.v (.i j), .v (.i (pid l j))] ∧ lb = [] ∧ g = h) := ⟨_, rfl⟩
  refine Wp.loopQ I (n := l.length) (by rw [hI]; exact ⟨0, by simp, hv, by simp [pid], by simp, by simp⟩) ?_
  intro n' vs lb g hi Q hQ; rw [hI] at hi; obtain ⟨j, hj, ha, rfl, rfl, rfl⟩ := hi
  have go : ∀ (hlt : j < l.length), (scan (ordF l n) (j + 1) (l.drop (j + 1)) = v) → I (n' - 1) [.v (.i ((j : Int) + 1)), .v (.i (l[j].a))] [] g := fun hlt q => by rw [hI]; exact ⟨j + 1, by omega, q, by simp [pid_s hlt], by simp, rfl⟩
  clear hI
  obtain ⟨p, hp⟩ : ∃ p, pid l j = p := ⟨_, rfl⟩
  rw [hp]
  by_cases hlt : j < l.length
  · have go := go hlt
    obtain ⟨x, hx⟩ : ∃ x, l[j] = x := ⟨_, rfl⟩
    have e := fun lo => s137 (lo := lo) (o := x) (n := n) (h := g) (by rw [← hx]; exact hl _ (List.getElem_mem hlt))
    rw [hx] at go
    have hmap : (List.map Ord.v l)[j]? = some x.v := by simp [hlt, hx]
    obtain ⟨a, b, c, d, os⟩ := x
    by_cases a1 : ordC ⟨a, b, c, d, os⟩ n = 0
    case neg =>
      have e0 := scan_hit (f := ordF l n) (e := (j, ordC ⟨a, b, c, d, os⟩ n)) hlt (by rw [hx]; simp [ordF, a1]) ha
      subst e0
      simp only [Ord.v, Ord.cs] at e
      clear go ha hv
      simp (maxSteps := 2000000) (disch := first | omega | (simp; done) | (simp; omega) | assumption) [hlt, ordsV, Ord.v, Ord.cs, hx, isC, a1, e, wrap64, boxV, boxO, fresh_no, List.filter_cons, setB, aggN, op_build, List.set]
      refine hQ _ _ ?_
      simp (maxSteps := 2000000) (disch := first | omega | (simp; done) | (simp; omega) | assumption) [Cl1_tup, Cl1_agg, Cl1_vs]
    by_cases a2 : a = p
    · have e0 := scan_hit (f := ordF l n) (e := (j, 11)) hlt (by rw [hx]; simp only [ordF]; rw [if_neg (by simpa using a1), if_pos (by rw [hp]; exact a2)]) ha
      subst e0
      simp only [Ord.v, Ord.cs] at e
      clear go ha hv
      subst a2
      simp (maxSteps := 2000000) (disch := first | omega | (simp; done) | (simp; omega) | assumption) [hlt, ordsV, Ord.v, Ord.cs, hx, isC, a1, e, wrap64, boxV, boxO, fresh_no, List.filter_cons, setB, aggN, op_build, List.set]
      refine hQ _ _ ?_
      simp (maxSteps := 2000000) (disch := first | omega | (simp; done) | (simp; omega) | assumption) [Cl1_tup, Cl1_agg, Cl1_vs]
    by_cases a3 : a < p
    · have e0 := scan_hit (f := ordF l n) (e := (j, 18)) hlt (by rw [hx]; simp [ordF, a1, hp, a2, a3]) ha
      subst e0
      simp only [Ord.v, Ord.cs] at e
      clear go ha hv
      simp (maxSteps := 2000000) (disch := first | omega | (simp; done) | (simp; omega) | assumption) [hlt, ordsV, Ord.v, Ord.cs, hx, isC, a1, a2, a3, e, wrap64, boxV, boxO, fresh_no, List.filter_cons, setB, aggN, op_build, List.set]
      refine hQ _ _ ?_
      simp (maxSteps := 2000000) (disch := first | omega | (simp; done) | (simp; omega) | assumption) [Cl1_tup, Cl1_agg, Cl1_vs]
    · have go := go (scan_go (f := ordF l n) hlt (by rw [hx]; simp [ordF, a1, hp, a2, a3]) ha)
      simp only [Ord.v, Ord.cs] at e
      clear ha hv
      simp (maxSteps := 2000000) (disch := first | omega | (simp; done) | (simp; omega) | assumption) [hlt, ordsV, Ord.v, Ord.cs, hx, isC, a1, a2, a3, e, wrap64, boxV, boxO, fresh_no, List.filter_cons, setB, aggN, op_build, List.set]
      exact ⟨n' - 1, by omega, go⟩
  · have e := scan_end (by omega) ha
    subst e
    clear go ha hv
    have hlt' : ¬ ((j : Int) < l.length) := by omega
    simp (maxSteps := 2000000) (disch := first | omega | (simp; done) | (simp; omega) | assumption) [hlt, hlt']
    refine hQ _ _ ?_
    simp (maxSteps := 2000000) (disch := first | omega | (simp; done) | (simp; omega) | assumption) [Cl1_tup, Cl1_agg, Cl1_vs]
end ZD
open Go Go.AM Go.Proofs Go.AM.Pl
set_option maxRecDepth 100000
set_option maxHeartbeats 4000000
namespace ZD
def prevT (l : List Rec) (j : Nat) : Int := (l.getD (j - 1) ⟨0, 0, 0⟩).t
def recF (l : List Rec) (j : Nat) (r : Rec) : Option (Int × Int) :=
  if recE r ≠ 0 then some (j, recE r) else if 0 < j ∧ prevT l j < r.f then some (j, 5) else if 0 < j ∧ r.f < prevT l j then some (j, 6) else none
/-- What is wrong first with records. -/
def recsC (l : List Rec) : Int × Int := (scan (recF l) 0 l).getD (0, 0)
theorem prevT_s {l : List Rec} {j : Nat} (h : j < l.length) : prevT l (j + 1) = l[j].t := by simp [prevT, List.getD, h]
theorem s145g {lo : Nat} {l : List Rec} {h : H} (hb : l.length ≤ 100000000) : den cx lo 145 [AM.vs .dead 3 (recs l)] h = some (.tup [.i (recsC l).1, .i (recsC l).2], h) := by
  refine den_pure (fn := Tryz.f145) (by rfl) (by rfl) (by rfl) (by rfl) (by simp [Tryz.f145]) (by simp) ?_
  obtain ⟨v, hv⟩ : ∃ v, scan (recF l) 0 l = v := ⟨_, rfl⟩
  simp only [recsC, hv]
  simp (maxSteps := 2000000) (disch := first | omega | (simp; done) | (simp; omega) | assumption) [Tryz.f145, argsE]
  obtain ⟨I, hI⟩ : ∃ I : Nat → List Ent → List (Nat × List V) → H → Prop, I = (fun n' vs lb g => ∃ j : Nat, n' + j = l.length ∧ (scan (recF l) j (l.drop j) = v) ∧ vs = [.v (.i (j : Int))] ∧ lb = [] ∧ g = h) := ⟨_, rfl⟩
  refine Wp.loopQ I (n := l.length) (by rw [hI]; exact ⟨0, by simp, hv, by simp, by simp, by simp⟩) ?_
  intro n' vs lb g hi Q hQ; rw [hI] at hi; obtain ⟨j, hj, ha, rfl, rfl, rfl⟩ := hi
  have go : j < l.length → (scan (recF l) (j + 1) (l.drop (j + 1)) = v) → I (n' - 1) [.v (.i ((j : Int) + 1))] [] g := fun hlt q => by rw [hI]; exact ⟨j + 1, by omega, q, by simp, by simp, rfl⟩
  clear hI
  by_cases hlt : j < l.length
  · have go := go hlt
    obtain ⟨x, hx⟩ : ∃ x, l[j] = x := ⟨_, rfl⟩
    have e := fun lo => s173 (lo := lo) (r := x) (h := g)
    simp only [Rec.v] at e
    by_cases a1 : recE x = 0
    case neg =>
      have e0 := scan_hit (f := recF l) (e := (j, recE x)) hlt (by rw [hx]; simp [recF, a1]) ha
      subst e0
      clear go ha hv
      simp (maxSteps := 2000000) (disch := first | omega | (simp; done) | (simp; omega) | assumption) [hlt, recs, Rec.v, hx, isC, a1, e, wrap64, boxV, boxO, fresh_no, List.filter_cons, setB, aggN, op_build, List.set]
      refine hQ _ _ ?_
      simp (maxSteps := 2000000) (disch := first | omega | (simp; done) | (simp; omega) | assumption) [Cl1_tup, Cl1_agg, Cl1_vs]
    by_cases a0 : j = 0
    · subst a0
      have go := go (scan_go (f := recF l) hlt (by rw [hx]; simp [recF, a1]) ha)
      clear ha hv
      simp (maxSteps := 2000000) (disch := first | omega | (simp; done) | (simp; omega) | assumption) [hlt, recs, Rec.v, hx, isC, a1, e, wrap64, boxV, boxO, fresh_no, List.filter_cons, setB, aggN, op_build, List.set]
      exact ⟨n' - 1, by omega, go⟩
    obtain ⟨i, rfl⟩ : ∃ i, j = i + 1 := ⟨j - 1, by omega⟩
    have hi : i < l.length := by omega
    have e3 : (0 : Int) < ((i : Int) + 1) := by omega
    have e5 : ¬ ((i : Int) + 1 = 0) := by omega
    have hlt' : (i : Int) + 1 < (l.length : Int) := by omega
    have e4 : ((i : Int) + 1) - 1 = (i : Int) := by omega
    have hp := prevT_s hi
    obtain ⟨y, hy⟩ : ∃ y, l[i] = y := ⟨_, rfl⟩
    rw [hy] at hp
    by_cases a2 : y.t < x.f
    · have e0 := scan_hit (f := recF l) (e := (((i + 1 : Nat) : Int), 5)) hlt (by rw [hx]; simp [recF, a1, hp, a2]) ha
      subst e0
      clear go ha hv
      simp (maxSteps := 2000000) (disch := first | omega | (simp; done) | (simp; omega) | assumption) [hlt, hlt', hi, recs, Rec.v, hx, hy, isC, a1, a2, e, e3, e4, e5, wrap64, boxV, boxO, fresh_no, List.filter_cons, setB, aggN, op_build, List.set]
      refine hQ _ _ ?_
      simp (maxSteps := 2000000) (disch := first | omega | (simp; done) | (simp; omega) | assumption) [Cl1_tup, Cl1_agg, Cl1_vs]
    by_cases a3 : x.f < y.t
    · have e0 := scan_hit (f := recF l) (e := (((i + 1 : Nat) : Int), 6)) hlt (by rw [hx]; simp [recF, a1, hp, a2, a3]) ha
      subst e0
      clear go ha hv
      simp (maxSteps := 2000000) (disch := first | omega | (simp; done) | (simp; omega) | assumption) [hlt, hlt', hi, recs, Rec.v, hx, hy, isC, a1, a2, a3, e, e3, e4, e5, wrap64, boxV, boxO, fresh_no, List.filter_cons, setB, aggN, op_build, List.set]
      refine hQ _ _ ?_
      simp (maxSteps := 2000000) (disch := first | omega | (simp; done) | (simp; omega) | assumption) [Cl1_tup, Cl1_agg, Cl1_vs]
    · have go := go (scan_go (f := recF l) hlt (by rw [hx]; simp [recF, a1, hp, a2, a3]) ha)
      clear ha hv
      simp (maxSteps := 2000000) (disch := first | omega | (simp; done) | (simp; omega) | assumption) [hlt, hlt', hi, recs, Rec.v, hx, hy, isC, a1, a2, a3, e, e3, e4, e5, wrap64, boxV, boxO, fresh_no, List.filter_cons, setB, aggN, op_build, List.set]
      exact ⟨n' - 1, by omega, go⟩
  · have e := scan_end (by omega) ha
    subst e
    clear go ha hv
    have hlt' : ¬ ((j : Int) < l.length) := by omega
    simp (maxSteps := 2000000) (disch := first | omega | (simp; done) | (simp; omega) | assumption) [hlt, hlt']
    refine hQ _ _ ?_
    simp (maxSteps := 2000000) (disch := first | omega | (simp; done) | (simp; omega) | assumption) [Cl1_tup, Cl1_agg, Cl1_vs]
end ZD
open Go Go.AM Go.Proofs Go.AM.Pl
set_option maxRecDepth 100000
set_option maxHeartbeats 4000000
namespace ZD
theorem take_eq {α : Type} {a b : List α} {j : Nat} (h1 : j < a.length) (h2 : j < b.length) (h : a.take j = b.take j) (e : a[j] = b[j]) : a.take (j + 1) = b.take (j + 1) := by
  rw [List.take_succ_eq_append_getElem h1, List.take_succ_eq_append_getElem h2, h, e]
theorem take_all_eq {α : Type} {a b : List α} {j : Nat} (h1 : a.length ≤ j) (hn : a.length = b.length) (h : a.take j = b.take j) : a = b := by
  rwa [List.take_of_length_le h1, List.take_of_length_le (by omega)] at h
theorem ne_at {α : Type} {a b : List α} {j : Nat} (h1 : j < a.length) (h2 : j < b.length) (e : a[j] ≠ b[j]) : a ≠ b := by
  rintro rfl; exact e rfl
theorem rec_ext (x y : Rec) : (x = y) ↔ (x.k = y.k ∧ x.f = y.f ∧ x.t = y.t) := by cases x; cases y; simp
theorem s194g {lo : Nat} {a b : List Rec} {h : H} (hl : a.length ≤ 9000000000000000000) (hl2 : b.length ≤ 9000000000000000000) : den cx lo 194 [AM.vs .dead 3 (recs a), AM.vs .dead 3 (recs b)] h = some (.b (decide (a = b)), h) := by
  refine den_pure (fn := Tryz.f194) (by rfl) (by rfl) (by rfl) (by rfl) (by simp [Tryz.f194]) (by simp) ?_
  by_cases hn : a.length = b.length
  case neg =>
    have hn' : ¬ ((a.length : Int) = b.length) := by omega
    have e : ¬ a = b := fun e => hn (by rw [e])
    simp (maxSteps := 2000000) (disch := first | omega | (simp; done) | (simp; omega) | assumption) [Tryz.f194, argsE, isC, hn, hn', e]
  obtain ⟨v, hv⟩ : ∃ v, decide (a = b) = v := ⟨_, rfl⟩
  rw [hv]
  simp (maxSteps := 2000000) (disch := first | omega | (simp; done) | (simp; omega) | assumption) [Tryz.f194, argsE, isC, hn]
  obtain ⟨I, hI⟩ : ∃ I : Nat → List Ent → List (Nat × List V) → H → Prop, I = (fun n' vs lb g => ∃ j : Nat, n' + j = b.length ∧ (a.take j = b.take j) ∧ vs = [.v (.i (j : Int))] ∧ lb = [] ∧ g = h) := ⟨_, rfl⟩
  refine Wp.loopQ I (n := b.length) (by rw [hI]; exact ⟨0, by simp, rfl, by simp, by simp, by simp⟩) ?_
  intro n' vs lb g hi Q hQ; rw [hI] at hi; obtain ⟨j, hj, ha, rfl, rfl, rfl⟩ := hi
  have go : j < b.length → (a.take (j + 1) = b.take (j + 1)) → I (n' - 1) [.v (.i ((j : Int) + 1))] [] g := fun hlt q => by rw [hI]; exact ⟨j + 1, by omega, q, by simp, by simp, rfl⟩
  clear hI
  by_cases hlt : j < b.length
  · have hla : j < a.length := by omega
    obtain ⟨x, hx⟩ : ∃ x, a[j] = x := ⟨_, rfl⟩
    obtain ⟨y, hy⟩ : ∃ y, b[j] = y := ⟨_, rfl⟩
    by_cases q : x = y
    · have go := go hlt (take_eq hla hlt ha (by rw [hx, hy, q]))
      subst q
      clear ha hv
      simp (maxSteps := 2000000) (disch := first | omega | (simp; done) | (simp; omega) | assumption) [hlt, hla, recs, Rec.v, hx, hy, isC, wrap64, boxV, boxO, fresh_no, List.filter_cons, setB, aggN, op_build, List.set, foot, Op.operands, opTmps]
      exact ⟨indep_of bf194_6 (by rfl), n' - 1, by omega, go⟩
    · have e : a ≠ b := ne_at hla hlt (by rw [hx, hy]; exact q)
      simp only [e, decide_false] at hv
      subst hv
      rw [rec_ext] at q
      clear ha go e
      simp (maxSteps := 2000000) (disch := first | omega | (simp; done) | (simp; omega) | assumption) [hlt, hla, recs, Rec.v, hx, hy, isC, wrap64, boxV, boxO, fresh_no, List.filter_cons, setB, aggN, op_build, List.set, foot, Op.operands, opTmps, q]
      exact ⟨indep_of bf194_6 (by rfl), hQ _ _ (by simp)⟩
  · have e : a = b := take_all_eq (by omega) hn ha
    simp only [e, decide_true] at hv
    subst hv
    clear go ha
    have hlt' : ¬ ((j : Int) < b.length) := by omega
    simp (maxSteps := 2000000) (disch := first | omega | (simp; done) | (simp; omega) | assumption) [hlt, hlt', hn]
    refine hQ _ _ ?_
    simp (maxSteps := 2000000) (disch := first | omega | (simp; done) | (simp; omega) | assumption) []
theorem s167 {lo : Nat} {n a b : Int} {h : H} : den cx lo 167 [.i n, .i a, .i b] h = some (.b (decide (a ≤ n) && decide (n ≤ b)), h) := by
  refine den_pure (fn := Tryz.f167) (by rfl) (by rfl) (by rfl) (by rfl) (by simp [Tryz.f167]) (by simp) ?_
  by_cases h1 : a ≤ n <;> simp (maxSteps := 2000000) (disch := first | omega | (simp; done) | (simp; omega) | assumption) [Tryz.f167, argsE, isC, h1]
/-- What is wrong with a past. -/
def pastC (l : List Rec) : Int := if (recsC l).2 ≠ 0 then (recsC l).2 else match l with | [] => 0 | r :: _ => if r.f = 0 then 0 else 5
theorem s168 {lo : Nat} {l : List Rec} {h : H} (hl : l.length ≤ 100000000) : den cx lo 168 [AM.vs .dead 3 (recs l)] h = some (.i (pastC l), h) := by
  have e := fun lo => s145g (lo := lo) (h := h) hl
  refine den_pure (fn := Tryz.f168) (by rfl) (by rfl) (by rfl) (by rfl) (by simp [Tryz.f168]) (by simp) ?_
  unfold pastC
  by_cases q : (recsC l).2 = 0
  case neg => simp (maxSteps := 2000000) (disch := first | omega | (simp; done) | (simp; omega) | assumption) [Tryz.f168, argsE, e, q, isC]
  cases l with
  | nil =>
    simp only [q]
    simp (maxSteps := 2000000) (disch := first | omega | (simp; done) | (simp; omega) | assumption) [Tryz.f168, argsE, e, q, isC]
  | cons r t =>
    have h0 : (0 : Int) < ((t.length : Int) + 1) := by omega
    by_cases q2 : r.f = 0
    · simp (maxSteps := 2000000) (disch := first | omega | (simp; done) | (simp; omega) | assumption) [Tryz.f168, argsE, e, q, isC, h0, q2]
      simp (maxSteps := 2000000) (disch := first | omega | (simp; done) | (simp; omega) | assumption) [isC, recs, Rec.v, q2]
    · simp (maxSteps := 2000000) (disch := first | omega | (simp; done) | (simp; omega) | assumption) [Tryz.f168, argsE, e, q, isC, h0, q2]
      simp (maxSteps := 2000000) (disch := first | omega | (simp; done) | (simp; omega) | assumption) [isC, recs, Rec.v, q2]
end ZD

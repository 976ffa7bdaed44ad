/- What the law PaperReads tells, of whatever may be handed in. No condition. -/
import Derived.Test.YtieenbjncimikaaGreatDoorWB
set_option linter.all false
open Go Go.AM Go.Proofs Go.AM.Pl
set_option maxRecDepth 100000
set_option maxHeartbeats 4000000
namespace ZD
theorem s163 {lo : Nat} {l : List Spn} {h : H} (hl : l.length ≤ 9000000000000000000) : den cx lo 163 [AM.vs .dead 2 (spns l), AM.vs .dead 2 (spns l)] h = some (.b true, h) := by
  refine den_pure (fn := Tryz.f163) (by rfl) (by rfl) (by rfl) (by rfl) (by simp [Tryz.f163]) (by simp) ?_
  simp (maxSteps := 2000000) (disch := first | omega | (simp; done) | (simp; omega) | assumption) [Tryz.f163, argsE]
  obtain ⟨I, hI⟩ : ∃ I : Nat → List Ent → List (Nat × List V) → H → Prop, I = (fun n' vs lb g => ∃ j : Nat, n' + j = l.length ∧ (True) ∧ vs = [.v (.i (j : Int))] ∧ lb = [] ∧ g = h) := ⟨_, rfl⟩
  refine Wp.loopQ I (n := l.length) (by rw [hI]; exact ⟨0, by simp, trivial, by simp, by simp, by simp⟩) ?_
  intro n' vs lb g hi Q hQ; rw [hI] at hi; obtain ⟨j, hj, ha, rfl, rfl, rfl⟩ := hi
  have go : j < l.length → (True) → I (n' - 1) [.v (.i ((j : Int) + 1))] [] g := fun hlt q => by rw [hI]; exact ⟨j + 1, by omega, q, by simp, by simp, rfl⟩
  clear hI
  by_cases hlt : j < l.length
  · have go := go hlt trivial
    simp (maxSteps := 2000000) (disch := first | omega | (simp; done) | (simp; omega) | assumption) [isC, hlt, wrap64, foot, Op.operands, opTmps, Spn.v, spns, boxV, boxO, fresh_no, List.filter_cons, setB, aggN, op_build, List.set]
    exact ⟨indep_of bf163_6 (by rfl), n' - 1, by omega, go⟩
  · clear go
    simp (maxSteps := 2000000) (disch := first | omega | (simp; done) | (simp; omega) | assumption) [hlt]
    refine hQ _ _ ?_
    simp (maxSteps := 2000000) (disch := first | omega | (simp; done) | (simp; omega) | assumption) []
theorem s132 {lo : Nat} {o : Ord} {h : H} (hl : o.os.length ≤ 1000000) : den cx lo 132 [o.v, o.v] h = some (.b true, h) := by
  have e163 := fun lo => s163 (lo := lo) (l := o.os) (h := h) (by omega)
  obtain ⟨a, b, c, d, os⟩ := o
  simp only [Ord.v, Ord.cs]
  simp only at e163
  refine den_pure (fn := Tryz.f132) (by rfl) (by rfl) (by rfl) (by rfl) (by simp [Tryz.f132]) (by simp) ?_
  simp (maxSteps := 2000000) (disch := first | omega | (simp; done) | (simp; omega) | assumption) [Tryz.f132, argsE, isC, boxV, boxO, fresh_no, List.filter_cons, setB, aggN, op_build, List.set, e163]
theorem s78 {lo : Nat} {l : List Ord} {h : H} (hl : l.length ≤ 9000000000000000000) (ho : ∀ o ∈ l, o.os.length ≤ 1000000) : den cx lo 78 [AM.vs .dead 5 (ordsV l), AM.vs .dead 5 (ordsV l)] h = some (.b true, h) := by
  refine den_pure (fn := Tryz.f78) (by rfl) (by rfl) (by rfl) (by rfl) (by simp [Tryz.f78]) (by simp) ?_
  simp (maxSteps := 2000000) (disch := first | omega | (simp; done) | (simp; omega) | assumption) [Tryz.f78, argsE]
  obtain ⟨I, hI⟩ : ∃ I : Nat → List Ent → List (Nat × List V) → H → Prop, I = (fun n' vs lb g => ∃ j : Nat, n' + j = l.length ∧ (True) ∧ vs = [.v (.i (j : Int))] ∧ lb = [] ∧ g = h) := ⟨_, rfl⟩
  refine Wp.loopQ I (n := l.length) (by rw [hI]; exact ⟨0, by simp, trivial, by simp, by simp, by simp⟩) ?_
  intro n' vs lb g hi Q hQ; rw [hI] at hi; obtain ⟨j, hj, ha, rfl, rfl, rfl⟩ := hi
  have go : j < l.length → (True) → I (n' - 1) [.v (.i ((j : Int) + 1))] [] g := fun hlt q => by rw [hI]; exact ⟨j + 1, by omega, q, by simp, by simp, rfl⟩
  clear hI
  by_cases hlt : j < l.length
  · have go := go hlt trivial
    have e132 := fun lo => s132 (lo := lo) (o := l[j]) (h := g) (ho _ (List.getElem_mem hlt))
    obtain ⟨x, hx⟩ : ∃ x, l[j] = x := ⟨_, rfl⟩
    rw [hx] at e132
    obtain ⟨a, b, c, d, os⟩ := x
    simp only [Ord.v, Ord.cs] at e132
    simp (maxSteps := 2000000) (disch := first | omega | (simp; done) | (simp; omega) | assumption) [isC, hlt, wrap64, foot, Op.operands, opTmps, ordsV, Ord.v, Ord.cs, hx, boxV, boxO, fresh_no, List.filter_cons, setB, aggN, op_build, List.set, e132]
    exact ⟨indep_of bf78_6 (by rfl), n' - 1, by omega, go⟩
  · clear go
    simp (maxSteps := 2000000) (disch := first | omega | (simp; done) | (simp; omega) | assumption) [hlt]
    refine hQ _ _ ?_
    simp (maxSteps := 2000000) (disch := first | omega | (simp; done) | (simp; omega) | assumption) []
theorem s133 {lo : Nat} {t : Trk} {h : H} (hl : t.past.length ≤ 1000000) : den cx lo 133 [t.v, t.v] h = some (.b true, h) := by
  have e53 := fun lo => s53g (lo := lo) (a := t.past) (b := t.past) (h := h) (by omega) (by omega)
  simp only [decide_true] at e53
  obtain ⟨a1, a2, a3, a4, a5, rs⟩ := t
  simp only [Trk.v]
  simp only at e53
  refine den_pure (fn := Tryz.f133) (by rfl) (by rfl) (by rfl) (by rfl) (by simp [Tryz.f133]) (by simp) ?_
  simp (maxSteps := 2000000) (disch := first | omega | (simp; done) | (simp; omega) | assumption) [Tryz.f133, argsE, isC, boxV, boxO, fresh_no, List.filter_cons, setB, aggN, op_build, List.set, e53]
theorem s79 {lo : Nat} {l : List Trk} {h : H} (hl : l.length ≤ 9000000000000000000) (ho : ∀ t ∈ l, t.past.length ≤ 1000000) : den cx lo 79 [AM.vs .dead 6 (trksV l), AM.vs .dead 6 (trksV l)] h = some (.b true, h) := by
  refine den_pure (fn := Tryz.f79) (by rfl) (by rfl) (by rfl) (by rfl) (by simp [Tryz.f79]) (by simp) ?_
  simp (maxSteps := 2000000) (disch := first | omega | (simp; done) | (simp; omega) | assumption) [Tryz.f79, argsE]
  obtain ⟨I, hI⟩ : ∃ I : Nat → List Ent → List (Nat × List V) → H → Prop, I = (fun n' vs lb g => ∃ j : Nat, n' + j = l.length ∧ (True) ∧ vs = [.v (.i (j : Int))] ∧ lb = [] ∧ g = h) := ⟨_, rfl⟩
  refine Wp.loopQ I (n := l.length) (by rw [hI]; exact ⟨0, by simp, trivial, by simp, by simp, by simp⟩) ?_
  intro n' vs lb g hi Q hQ; rw [hI] at hi; obtain ⟨j, hj, ha, rfl, rfl, rfl⟩ := hi
  have go : j < l.length → (True) → I (n' - 1) [.v (.i ((j : Int) + 1))] [] g := fun hlt q => by rw [hI]; exact ⟨j + 1, by omega, q, by simp, by simp, rfl⟩
  clear hI
  by_cases hlt : j < l.length
  · have go := go hlt trivial
    have e133 := fun lo => s133 (lo := lo) (t := l[j]) (h := g) (ho _ (List.getElem_mem hlt))
    obtain ⟨x, hx⟩ : ∃ x, l[j] = x := ⟨_, rfl⟩
    rw [hx] at e133
    obtain ⟨a1, a2, a3, a4, a5, rs⟩ := x
    simp only [Trk.v] at e133
    simp (maxSteps := 2000000) (disch := first | omega | (simp; done) | (simp; omega) | assumption) [isC, hlt, wrap64, foot, Op.operands, opTmps, trksV, Trk.v, hx, boxV, boxO, fresh_no, List.filter_cons, setB, aggN, op_build, List.set, e133]
    exact ⟨indep_of bf79_6 (by rfl), n' - 1, by omega, go⟩
  · clear go
    simp (maxSteps := 2000000) (disch := first | omega | (simp; done) | (simp; omega) | assumption) [hlt]
    refine hQ _ _ ?_
    simp (maxSteps := 2000000) (disch := first | omega | (simp; done) | (simp; omega) | assumption) []
theorem s77 {lo : Nat} {w : List (List Int)} {h : H} (hl : w.length ≤ 9000000000000000000) (ho : ∀ l ∈ w, l.length ≤ 1000000) : den cx lo 77 [AM.vs .dead 1 (rowsV w), AM.vs .dead 1 (rowsV w)] h = some (.b true, h) := by
  refine den_pure (fn := Tryz.f77) (by rfl) (by rfl) (by rfl) (by rfl) (by simp [Tryz.f77]) (by simp) ?_
  simp (maxSteps := 2000000) (disch := first | omega | (simp; done) | (simp; omega) | assumption) [Tryz.f77, argsE]
  obtain ⟨I, hI⟩ : ∃ I : Nat → List Ent → List (Nat × List V) → H → Prop, I = (fun n' vs lb g => ∃ j : Nat, n' + j = w.length ∧ (True) ∧ vs = [.v (.i (j : Int))] ∧ lb = [] ∧ g = h) := ⟨_, rfl⟩
  refine Wp.loopQ I (n := w.length) (by rw [hI]; exact ⟨0, by simp, trivial, by simp, by simp, by simp⟩) ?_
  intro n' vs lb g hi Q hQ; rw [hI] at hi; obtain ⟨j, hj, ha, rfl, rfl, rfl⟩ := hi
  have go : j < w.length → (True) → I (n' - 1) [.v (.i ((j : Int) + 1))] [] g := fun hlt q => by rw [hI]; exact ⟨j + 1, by omega, q, by simp, by simp, rfl⟩
  clear hI
  by_cases hlt : j < w.length
  · have go := go hlt trivial
    have hxl := ho _ (List.getElem_mem hlt)
    obtain ⟨x, hx⟩ : ∃ x, w[j] = x := ⟨_, rfl⟩
    rw [hx] at hxl
    have hlt' : (j : Int) < w.length := by omega
    simp (maxSteps := 2000000) (disch := first | omega | (simp; done) | (simp; omega) | assumption) [isC, hlt, hlt', wrap64, foot, Op.operands, opTmps, rowsV, rowV, hx, boxV, boxO, fresh_no, List.filter_cons, setB, aggN, op_build, List.set]
    refine ⟨indep_of bf77_6 (by rfl), ?_⟩
    obtain ⟨J, hJ⟩ : ∃ J : Nat → List Ent → List (Nat × List V) → H → Prop, J = (fun n2 vs lb g2 => ∃ i : Nat, n2 + i = x.length ∧ vs = [.v (.i i)] ∧ lb = [] ∧ g2 = g) := ⟨_, rfl⟩
    refine Wp.loopQ J (n := x.length) (by rw [hJ]; exact ⟨0, by simp, by simp, by simp, by simp⟩) ?_
    intro n2 vs lb g2 hi Q2 hQ2; rw [hJ] at hi; obtain ⟨i, hi, rfl, rfl, rfl⟩ := hi
    by_cases hit : i < x.length
    · have go2 : J (n2 - 1) [.v (.i ((i : Int) + 1))] [] g2 := by rw [hJ]; exact ⟨i + 1, by omega, by simp, rfl, rfl⟩
      clear hJ go hQ
      simp (maxSteps := 2000000) (disch := first | omega | (simp; done) | (simp; omega) | assumption) [isC, hlt, hlt', hit, wrap64, foot, Op.operands, opTmps, rowsV, rowV, hx, boxV, boxO, fresh_no, List.filter_cons, setB, aggN, op_build, List.set, ints]
      exact ⟨indep_of bf77_11 (by rfl), n2 - 1, by omega, go2⟩
    · have hit' : ¬ ((i : Int) < x.length) := by omega
      clear hJ
      simp (maxSteps := 2000000) (disch := first | omega | (simp; done) | (simp; omega) | assumption) [hlt, hlt', hit, hit', rowsV, rowV, hx]
      refine hQ2 _ _ ?_
      simp (maxSteps := 2000000) (disch := first | omega | (simp; done) | (simp; omega) | assumption) [wrap64]
      exact ⟨n' - 1, by omega, go⟩
  · clear go
    simp (maxSteps := 2000000) (disch := first | omega | (simp; done) | (simp; omega) | assumption) [hlt]
    refine hQ _ _ ?_
    simp (maxSteps := 2000000) (disch := first | omega | (simp; done) | (simp; omega) | assumption) []
theorem s26 {lo : Nat} {d : Dep} {h : H} (hs : d.sm) : den cx lo 26 [d.v, d.v] h = some (.b true, h) := by
  obtain ⟨hb, h1, h2, h3, h4, h5, h6⟩ := hs
  have e77 := fun lo => s77 (lo := lo) (w := d.ways) (h := h) (by omega) h2
  have e78 := fun lo => s78 (lo := lo) (l := d.ords) (h := h) (by omega) h4
  have e79 := fun lo => s79 (lo := lo) (l := d.trks) (h := h) (by omega) h6
  obtain ⟨D, hDv, n22, n19, t22, t19, fD, d19, d20, d21⟩ := deps hb
  obtain ⟨B, hBv, n19', t19', f19, _⟩ := bks hb
  have heq : binOpV cx .eql 50 (.agg B) (.agg B) = some (.b true) := by
    rw [← hBv]
    obtain ⟨b0, b1, b2, b3, b4, b5, b6, b7, b8, b9, b10, b11, b12, b13, b14, b15, b16, b17, b18, hbb⟩ := len19 hb
    rw [hbb]
    simp [bkv, ints]
  rw [hBv] at t19
  have t19 : D.take 19 = B := V.agg.inj t19
  rw [hDv]
  refine den_pure (fn := Tryz.f26) (by rfl) (by rfl) (by rfl) (by rfl) (by simp [Tryz.f26]) (by simp [fD]) ?_
  simp (maxSteps := 2000000) (disch := first | omega | (simp; done) | (simp; omega) | assumption) [Tryz.f26, argsE, isC, boxV, boxO, fresh_no, List.filter_cons, setB, aggN, op_build, List.set, n22, n19, t22, t19, fD, d19, d20, d21, heq, e77, e78, e79]
/-- What is read is of no size. -/
theorem parR_sm {l : List UInt8} (hty : ∀ ls, lin [] l = some ls → Tx ls) : (parR l).1.sm := by
  have h0 : dep0.sm := ⟨rfl, by simp [dep0], by simp [dep0], by simp [dep0], by simp [dep0], by simp [dep0], by simp [dep0]⟩
  unfold parR
  split
  · rename_i ls hl
    obtain ⟨h1, _⟩ := all_ok ls
    rw [h1]
    split
    · have hd : (allX ls).d = (ph ls 6).d := by
        show (checkX (ph ls 6)).d = _
        unfold checkX; split
        · split <;> rfl
        · rfl
      simp only
      rw [hd]; exact (ph6 (hty ls hl)).2
    · exact h0
  · exact h0
theorem lin_small {l : List UInt8} {ls : List Ln} (h : lin [] l = some ls) : ls.length ≤ l.length ∧ ∀ x ∈ ls, x.length ≤ l.length := by
  have e := lin_back l [] ls h
  simp only [List.nil_append] at e
  have key : ∀ a : List Ln, a.length ≤ (unl a).length ∧ ∀ x ∈ a, x.length ≤ (unl a).length := by
    intro a
    induction a with
    | nil => simp
    | cons s a ih =>
      rw [unl_cons]
      simp only [List.length_append, List.length_cons]
      refine ⟨by omega, fun x hx => ?_⟩
      rcases List.mem_cons.1 hx with rfl | hx
      · omega
      · have := ih.2 x hx; omega
  rw [e]; exact key ls
theorem ty_of {l : List UInt8} (h : l.length ≤ 300000) : ∀ ls, lin [] l = some ls → Ty ls := fun ls hl => ⟨fun x hx => by have := (lin_small hl).2 x hx; omega, by have := (lin_small hl).1; omega⟩
/-- THE LAW PaperReads. -/
theorem s6 {lo : Nat} {l : List UInt8} {h : H} : den cx lo 6 [.t l] h = some (.b true, h) := by
  have e21 := fun lo => s21 (lo := lo) (h := h)
  by_cases q : 4000 < l.length
  · have q' : (4000 : Int) < (l.length : Int) := by omega
    refine den_pure (fn := Tryz.f6) (by rfl) (by rfl) (by rfl) (by rfl) (by simp [Tryz.f6]) (by simp) ?_
    simp (maxSteps := 2000000) (disch := first | omega | (simp; done) | (simp; omega) | assumption) [Tryz.f6, argsE, isC, q, q', e21]
  have q' : ¬ ((4000 : Int) < (l.length : Int)) := by omega
  have hty := ty_of (l := l) (by omega)
  have htx := fun ls hl => (hty ls hl).x
  have e24 := fun lo => s24 (lo := lo) (h := h) (by omega) htx
  have e25 := fun lo => s25 (lo := lo) (h := h) (by omega) hty
  have hsm := parR_sm htx
  have e26 := fun lo => s26 (lo := lo) (h := h) hsm
  unfold parV at e24 e25
  obtain ⟨D, hDv, n22, n19, t22, t19, fD, d19, d20, d21⟩ := deps hsm.1
  obtain ⟨⟨d, a, e⟩, hP⟩ : ∃ P, parR l = P := ⟨_, rfl⟩
  rw [hP] at e24 e25 e26 hDv
  simp only at e24 e25 e26 hDv
  rw [hDv] at e24 e25 e26
  have hz : (.agg z55 : V) = .agg [V.i 0, V.i 0, V.i 0, V.i 0, V.i 0, V.i 0, V.i 0, V.i 0, V.i 0, V.i 0, V.i 0, V.i 0, V.i 0, V.i 0, V.i 0, V.i 0, V.i 0, V.i 0, V.i 0, AM.vs .nil 0 [], AM.vs .nil 0 [], AM.vs .nil 0 []] := rfl
  have zo : zeroOf cx.P 55 = some (.agg z55) := by rw [hz]; exact zo55
  have hDl : D.length = 22 := by
    have : d.v = .agg D := hDv
    have hb : (parR l).1.bk.length = 19 := hsm.1
    rw [hP] at hb
    have hD : D = d.cs := V.agg.inj this.symm
    rw [hD]; simp [Dep.cs, ints]; exact hb
  have hwr := wr_all z55_len hDl (by omega)
  refine den_pure (fn := Tryz.f6) (by rfl) (by rfl) (by rfl) (by rfl) (by simp [Tryz.f6]) (by simp) ?_
  simp (maxSteps := 2000000) (disch := first | omega | (simp; done) | (simp; omega) | assumption) [Tryz.f6, argsE, -zo55, zo, isC, boxV, boxO, fresh_no, List.filter_cons, setB, aggN, op_build, List.set, q, q', e24, e25, z55_len, hDl, hwr, t22, fD, e26, e21]
end ZD
open Go Go.AM Go.Proofs Go.AM.Pl
set_option maxRecDepth 100000
set_option maxHeartbeats 4000000
namespace ZD
theorem arg9 {v : V} (h : TArg cx.P 6 9 v) : ∃ l : List UInt8, v = .t l := by
  obtain ⟨us, rfl, h⟩ := h
  obtain ⟨l, rfl⟩ := tv_str (m := 5) u9' h
  exact ⟨l, by simp [AM.mkV, u9']⟩
/-- THE LAW, on all that may be handed in. -/
theorem law6 {a : V} (ha : TArg cx.P 6 9 a) : ∃ k h', denK cx k 0 6 [a] [] = some (.b true, h') := by
  obtain ⟨l, rfl⟩ := arg9 ha
  obtain ⟨k, hk⟩ := den_iff.1 (s6 (lo := 0) (l := l) (h := []))
  exact ⟨k, _, hk⟩
end ZD

/- What the law ScriptLines tells, of whatever may be handed in. No condition. -/
import Derived.Test.YtieenbjncimikaaGreatDoorSE
import Derived.Test.YtieenbjncimikaaGreatDoorAmE
set_option linter.all false
open Go Go.AM Go.Proofs Go.AM.Pl
set_option maxRecDepth 100000
set_option maxHeartbeats 4000000
namespace ZD
theorem s13 {lo : Nat} {c : Cmd} {h : H} : den cx lo 13 [c.v] h = some (c.v, h) := by
  obtain ⟨k, ⟨a, b, c, d, os⟩, id, rs, m, u, li, bu, ds⟩ := c
  refine den_pure (fn := Tryz.f13) (by rfl) (by rfl) (by rfl) (by rfl) (by simp [Tryz.f13]) (by simp) ?_
  simp (disch := first | omega | (simp; done) | (simp; omega) | assumption) [Tryz.f13, argsE, Cmd.v, Cmd.cs, boxV, boxO, fresh_no, List.filter_cons, setB, aggN, op_build, List.set, Cl1_tup, Cl1_agg, Cl1_vs]
theorem s18 {lo : Nat} {c : Cmd} {h : H} : den cx lo 18 [c.v] h = some (c.v, h) := by
  obtain ⟨k, ⟨a, b, c, d, os⟩, id, rs, m, u, li, bu, ds⟩ := c
  refine den_pure (fn := Tryz.f18) (by rfl) (by rfl) (by rfl) (by rfl) (by simp [Tryz.f18]) (by simp) ?_
  simp (disch := first | omega | (simp; done) | (simp; omega) | assumption) [Tryz.f18, argsE, Cmd.v, Cmd.cs, boxV, boxO, fresh_no, List.filter_cons, setB, aggN, op_build, List.set, Cl1_tup, Cl1_agg, Cl1_vs]
def fewR (c : Cmd) : Bool := decide (c.o.os.length ≤ 20) && decide (c.rs.length ≤ 60) && decide (c.ds.length ≤ 60)
theorem s10 {lo : Nat} {c : Cmd} {h : H} : den cx lo 10 [c.v] h = some (.b (fewR c), h) := by
  obtain ⟨k, ⟨a, b, c, d, os⟩, id, rs, m, u, li, bu, ds⟩ := c
  refine den_pure (fn := Tryz.f10) (by rfl) (by rfl) (by rfl) (by rfl) (by simp [Tryz.f10]) (by simp) ?_
  by_cases h1 : os.length ≤ 20
  case neg =>
    have h1' : ¬ ((os.length : Int) ≤ 20) := by omega
    simp (disch := first | omega | (simp; done) | (simp; omega) | assumption) [Tryz.f10, argsE, Cmd.v, Cmd.cs, boxV, boxO, fresh_no, List.filter_cons, setB, aggN, op_build, List.set, isC, fewR, h1, h1']
  have h1' : (os.length : Int) ≤ 20 := by omega
  by_cases h2 : rs.length ≤ 60
  case neg =>
    have h2' : ¬ ((rs.length : Int) ≤ 60) := by omega
    simp (disch := first | omega | (simp; done) | (simp; omega) | assumption) [Tryz.f10, argsE, Cmd.v, Cmd.cs, boxV, boxO, fresh_no, List.filter_cons, setB, aggN, op_build, List.set, isC, fewR, h1, h1', h2, h2']
  have h2' : (rs.length : Int) ≤ 60 := by omega
  by_cases h3 : ds.length ≤ 60
  · have h3' : (ds.length : Int) ≤ 60 := by omega
    simp (disch := first | omega | (simp; done) | (simp; omega) | assumption) [Tryz.f10, argsE, Cmd.v, Cmd.cs, boxV, boxO, fresh_no, List.filter_cons, setB, aggN, op_build, List.set, isC, fewR, h1, h1', h2, h2', h3, h3']
  · have h3' : ¬ ((ds.length : Int) ≤ 60) := by omega
    simp (disch := first | omega | (simp; done) | (simp; omega) | assumption) [Tryz.f10, argsE, Cmd.v, Cmd.cs, boxV, boxO, fresh_no, List.filter_cons, setB, aggN, op_build, List.set, isC, fewR, h1, h1', h2, h2', h3, h3']
theorem s54 {lo : Nat} {l : List Int} {h : H} (hl : l.length ≤ 9000000000000000000) : den cx lo 54 [AM.vs .dead 1 (ints l), AM.vs .dead 1 (ints l)] h = some (.b true, h) := by
  refine den_pure (fn := Tryz.f54) (by rfl) (by rfl) (by rfl) (by rfl) (by simp [Tryz.f54]) (by simp) ?_
  simp (disch := first | omega | (simp; done) | (simp; omega) | assumption) [Tryz.f54, argsE]
  obtain ⟨I, hI⟩ : ∃ I : Nat → List Ent → List (Nat × List V) → H → Prop, I = (fun n vs lb g => ∃ j : Nat, n + j = l.length ∧ vs = [.v (.i j)] ∧ lb = [] ∧ g = h) := ⟨_, rfl⟩
  refine Wp.loopQ I (n := l.length) (by rw [hI]; exact ⟨0, by simp, by simp, by simp, by simp⟩) ?_
  intro n vs lb g hi Q hQ; rw [hI] at hi; obtain ⟨j, hj, rfl, rfl, rfl⟩ := hi
  by_cases hlt : j < l.length
  · have go : I (n - 1) [.v (.i ((j : Int) + 1))] [] g := by rw [hI]; exact ⟨j + 1, by omega, by simp, rfl, rfl⟩
    clear hI
    simp (disch := first | omega | (simp; done) | (simp; omega) | assumption) [isC, hlt, wrap64, foot, Op.operands, opTmps]
    exact ⟨indep_of bf54_6 (by rfl), n - 1, by omega, go⟩
  · clear hI
    simp (disch := first | omega | (simp; done) | (simp; omega) | assumption) [hlt]
    refine hQ _ _ ?_
    simp (disch := first | omega | (simp; done) | (simp; omega) | assumption) []
theorem s53 {lo : Nat} {l : List Rec} {h : H} (hl : l.length ≤ 9000000000000000000) : den cx lo 53 [AM.vs .dead 3 (recs l), AM.vs .dead 3 (recs l)] h = some (.b true, h) := by
  refine den_pure (fn := Tryz.f53) (by rfl) (by rfl) (by rfl) (by rfl) (by simp [Tryz.f53]) (by simp) ?_
  simp (disch := first | omega | (simp; done) | (simp; omega) | assumption) [Tryz.f53, argsE]
  obtain ⟨I, hI⟩ : ∃ I : Nat → List Ent → List (Nat × List V) → H → Prop, I = (fun n vs lb g => ∃ j : Nat, n + j = l.length ∧ vs = [.v (.i j)] ∧ lb = [] ∧ g = h) := ⟨_, rfl⟩
  refine Wp.loopQ I (n := l.length) (by rw [hI]; exact ⟨0, by simp, by simp, by simp, by simp⟩) ?_
  intro n vs lb g hi Q hQ; rw [hI] at hi; obtain ⟨j, hj, rfl, rfl, rfl⟩ := hi
  by_cases hlt : j < l.length
  · have go : I (n - 1) [.v (.i ((j : Int) + 1))] [] g := by rw [hI]; exact ⟨j + 1, by omega, by simp, rfl, rfl⟩
    clear hI
    simp (disch := first | omega | (simp; done) | (simp; omega) | assumption) [isC, hlt, wrap64, foot, Op.operands, opTmps, Rec.v, boxV, boxO, fresh_no, List.filter_cons, setB, aggN, op_build, List.set]
    exact ⟨indep_of bf53_6 (by rfl), n - 1, by omega, go⟩
  · clear hI
    simp (disch := first | omega | (simp; done) | (simp; omega) | assumption) [hlt]
    refine hQ _ _ ?_
    simp (disch := first | omega | (simp; done) | (simp; omega) | assumption) []
theorem s17 {lo : Nat} {c : Cmd} {h : H} (hw : c.o.wf) (h1 : c.rs.length ≤ 100000000) (h2 : c.ds.length ≤ 100000000) : den cx lo 17 [c.v, c.v] h = some (.b true, h) := by
  have e38 := fun lo g => s38 (lo := lo) (o := c.o) (h := g) hw
  have e53 := fun lo g => s53 (lo := lo) (l := c.rs) (h := g) (by omega)
  have e54 := fun lo g => s54 (lo := lo) (l := c.ds) (h := g) (by omega)
  clear hw
  obtain ⟨k, ⟨a, b, c, d, os⟩, id, rs, m, u, li, bu, ds⟩ := c
  simp only [Ord.v, Ord.cs] at e38 e53 e54
  refine den_pure (fn := Tryz.f17) (by rfl) (by rfl) (by rfl) (by rfl) (by simp [Tryz.f17]) (by simp) ?_
  simp (disch := first | omega | (simp; done) | (simp; omega) | assumption) [Tryz.f17, argsE, Cmd.v, Cmd.cs, boxV, boxO, fresh_no, List.filter_cons, setB, aggN, op_build, List.set, isC, e38, e53, e54, foot, Op.operands, opTmps]
  exact indep_of bf17_1 (by rfl)
end ZD
open Go Go.AM Go.Proofs Go.AM.Pl
set_option maxRecDepth 100000
set_option maxHeartbeats 4000000
namespace ZD
theorem b0 : i64B 0 := by unfold i64B; omega
theorem numR_b (l : List UInt8) (m : Int) : i64B (numR l m).1 := by have := numR_range l m; unfold i64B; omega
theorem sgnR_b (l : List UInt8) : i64B (sgnR l).1 := by
  have := numR_range (l.drop 1) M9
  unfold sgnR
  split
  · split
    · split
      · exact b0
      · simp only; unfold i64B; omega
    · exact b0
  · exact numR_b _ _
theorem spanP_b (p q : List UInt8) : i64B (spanP p q).1 ∧ i64B (spanP p q).2.1 := by
  unfold spanP
  split
  · split
    · split
      · split
        · exact ⟨b0, b0⟩
        · exact ⟨numR_b _ _, numR_b _ _⟩
      · exact ⟨b0, b0⟩
    · exact ⟨b0, b0⟩
  · exact ⟨b0, b0⟩
theorem spanR_b (l : List UInt8) : i64B (spanR l).1 ∧ i64B (spanR l).2.1 := by
  unfold spanR
  split
  · exact spanP_b _ _
  · exact ⟨b0, b0⟩
theorem spansR_ok : ∀ (r : List (List UInt8)) (os : List Spn), (∀ s ∈ os, spanB64 s) → (∀ s ∈ (spansR r os).1, spanB64 s) ∧ (spansR r os).1.length ≤ os.length + r.length
  | [], os, h => ⟨h, Nat.le_refl _⟩
  | w :: r, os, h => by
    simp only [spansR]
    split
    · obtain ⟨a, b⟩ := spansR_ok r (os ++ [⟨(spanR w).1, (spanR w).2.1⟩]) (fun s hs => by
        rcases List.mem_append.1 hs with hs | hs
        · exact h s hs
        · rw [List.mem_singleton.1 hs]; exact spanR_b w)
      exact ⟨a, by simp at b ⊢; omega⟩
    · exact ⟨fun s hs => (by cases hs), by simp⟩
theorem zer_wf (e : Int) : (OrdR.o (zer e)).wf := by
  refine And.intro b0 (And.intro b0 (And.intro b0 (And.intro b0 (And.intro ?_ ?_))))
  · intro s hs; simp [OrdR.o, zer] at hs
  · simp [OrdR.o, zer]
theorem zo_wf : zo.wf := by
  refine And.intro b0 (And.intro b0 (And.intro b0 (And.intro b0 (And.intro ?_ ?_))))
  · intro s hs; simp [zo] at hs
  · simp [zo]
theorem ordR_wf (ls : List (List UInt8)) (hl : ls.length ≤ 1000000) : (OrdR.o (ordR ls)).wf := by
  unfold ordR
  split
  · rename_i w0 w1 w2 w3 w4 r
    split
    · unfold ord5
      split
      · split
        · split
          · split
            · split
              · obtain ⟨a, b⟩ := spansR_ok r [] (fun s hs => by cases hs)
                exact ⟨numR_b _ _, numR_b _ _, sgnR_b _, numR_b _ _, a, by simp [OrdR.o] at b hl ⊢; omega⟩
              · exact zer_wf _
            · exact zer_wf _
          · exact zer_wf _
        · exact zer_wf _
      · exact zer_wf _
    · exact zer_wf _
  · exact zer_wf _
theorem readO_wf (l : List UInt8) (hl : l.length ≤ 300000) : (OrdR.o (readO l)).wf := by
  unfold readO
  split
  · rename_i ws hs
    have := splR_count hs
    exact ordR_wf _ (by simp; omega)
  · exact zer_wf _
theorem pairsR_len : ∀ (r : List (List UInt8)) (out : List Rec), (pairsR r out).1.length ≤ out.length + r.length
  | [], out => by simp [pairsR]
  | [_], out => by simp [pairsR]
  | a :: b :: r, out => by
    simp only [pairsR]
    split
    · split
      · have := pairsR_len r (out ++ [⟨(kindL a).1, (spanR b).1, (spanR b).2.1⟩])
        simp at this ⊢; omega
      · simp
    · simp
structure CmdOk (c : Cmd) : Prop where
  o : c.o.wf
  r : c.rs.length ≤ 100000000
  d : c.ds.length ≤ 100000000
theorem zc_ok : CmdOk zc := ⟨zo_wf, by simp [zc], by simp [zc]⟩
theorem cntR_ok {ws : List Wd} {n : Nat} {op : Bool} {C : List Int → Cmd} (hl : ws.length ≤ 1000000) (hC : ∀ x : List Int, x.length ≤ 100000000 → CmdOk (C x)) : CmdOk (cntR ws n op C).1 := by
  unfold cntR
  split
  · exact zc_ok
  · split
    · rename_i q
      exact hC _ (by rw [numsR_len q]; simp; omega)
    · exact zc_ok
theorem recR_ok (ls : List (List UInt8)) (hl : ls.length ≤ 1000000) : CmdOk (recR ls).1 := by
  unfold recR
  split
  · rename_i w0 w1 r
    split
    · split
      · split
        · have := pairsR_len r []
          exact ⟨zo_wf, by simp [C3] at this hl ⊢; omega, by simp [C3]⟩
        · exact zc_ok
      · exact zc_ok
    · exact zc_ok
  · exact zc_ok
theorem readC_ok (l : List UInt8) (hl : l.length ≤ 300000) : CmdOk (readC l).1 := by
  unfold readC
  split
  · exact zc_ok
  · rename_i ws hs
    have hc := splR_count hs
    split
    · exact zc_ok
    · rename_i w0 r
      have h2 : (w0 :: r).length ≤ 1000000 := by omega
      split
      · split
        · exact ⟨readO_wf l hl, by simp [C1], by simp [C1]⟩
        · exact zc_ok
      split
      · exact cntR_ok h2 fun x hx => ⟨zo_wf, by simp [C2], by simp [C2]⟩
      split
      · exact recR_ok _ (by simpa using h2)
      split
      · exact cntR_ok h2 fun x hx => ⟨zo_wf, by simp [C4], by simp [C4]⟩
      split
      · exact cntR_ok h2 fun x hx => ⟨zo_wf, by simp [C5], by simp [C5]; omega⟩
      split
      · exact cntR_ok h2 fun x hx => ⟨zo_wf, by simp [C6], by simp [C6]⟩
      · exact zc_ok
def aliveL : List UInt8 := [114, 101, 99, 111, 114, 100, 32, 52, 32, 68, 32, 48, 45, 51, 48, 32, 87, 32, 51, 48, 45, 51, 53]
theorem alive_read : readC aliveL = (C3 4 [⟨3, 0, 30⟩, ⟨2, 30, 35⟩], 0) := by rfl
theorem s11 {lo : Nat} {h : H} : den cx lo 11 [] h = some (.b true, h) := by
  have e := fun lo => s15 (lo := lo) (l := aliveL) (h := h) (by decide)
  rw [alive_read] at e
  simp only [cmdV, C3, Cmd.v, Cmd.cs, zo, aliveL, recs, List.map_cons, List.map_nil, Rec.v] at e
  refine den_pure (fn := Tryz.f11) (by rfl) (by rfl) (by rfl) (by rfl) (by simp [Tryz.f11]) (by simp) ?_
  simp (disch := first | omega | (simp; done) | (simp; omega) | assumption) [Tryz.f11, argsE, e, boxV, boxO, fresh_no, List.filter_cons, setB, aggN, op_build, List.set, isC]
/-- All numbers of a command, as they come. -/
structure Cmd.rng (c : Cmd) : Prop where
  oa : i64B c.o.a
  ob : i64B c.o.b
  oc : i64B c.o.c
  od : i64B c.o.d
  oos : ∀ s ∈ c.o.os, spanB64 s
  id : i64B c.id
  m : i64B c.m
  u : i64B c.u
  li : i64B c.li
  bu : i64B c.bu
  ds : ∀ n ∈ c.ds, i64B n
theorem s3 {lo : Nat} {c : Cmd} {l : List UInt8} {h : H} (hr : c.rng) : den cx lo 3 [c.v, .t l] h = some (.b true, h) := by
  have e10 := fun lo => s10 (lo := lo) (c := c) (h := h)
  refine den_pure (fn := Tryz.f3) (by rfl) (by rfl) (by rfl) (by rfl) (by simp [Tryz.f3]) (by simp) ?_
  by_cases hf : fewR c = true
  case neg =>
    simp only [Cmd.v, Cmd.cs] at e10
    simp (disch := first | omega | (simp; done) | (simp; omega) | assumption) [Tryz.f3, argsE, Cmd.v, Cmd.cs, boxV, boxO, fresh_no, List.filter_cons, setB, aggN, op_build, List.set, isC, e10, hf, s11]
  by_cases hl : l.length ≤ 600
  case neg =>
    have hl' : (600 : Int) < l.length := by omega
    simp only [Cmd.v, Cmd.cs] at e10
    simp (disch := first | omega | (simp; done) | (simp; omega) | assumption) [Tryz.f3, argsE, Cmd.v, Cmd.cs, boxV, boxO, fresh_no, List.filter_cons, setB, aggN, op_build, List.set, isC, e10, hf, hl', s11]
  have hl' : ¬ ((600 : Int) < l.length) := by omega
  have hf' := hf
  simp only [fewR, Bool.and_eq_true, decide_eq_true_eq] at hf'
  obtain ⟨⟨f1, f2⟩, f3⟩ := hf'
  have hw : c.wf := ⟨⟨hr.oa, hr.ob, hr.oc, hr.od, hr.oos, by omega⟩, hr.id, hr.m, hr.u, hr.li, hr.bu, hr.ds, by omega, by omega⟩
  have e13 := fun lo => s13 (lo := lo) (c := c) (h := h)
  have e12 := fun lo => s12 (lo := lo) (c := c) (h := h) hw
  have e14 := fun lo => s14 (lo := lo) (c := c) (h := h) hw
  have e15 := fun lo => s15 (lo := lo) (l := l) (h := h) (by omega)
  have e16 := fun lo => s16 (lo := lo) (l := l) (h := h) (by omega)
  have hk := readC_ok l (by omega)
  have e18 := fun lo => s18 (lo := lo) (c := (readC l).1) (h := h)
  have e17 := fun lo => s17 (lo := lo) (c := (readC l).1) (h := h) hk.o hk.r hk.d
  generalize readC l = X at *
  generalize lineC c = Y at *
  simp only [cmdV, lineV, Cmd.v, Cmd.cs] at e10 e12 e13 e14 e15 e16 e17 e18
  simp (disch := first | omega | (simp; done) | (simp; omega) | assumption) [Tryz.f3, argsE, Cmd.v, Cmd.cs, boxV, boxO, fresh_no, List.filter_cons, setB, aggN, op_build, List.set, isC, e10, hf, hl', e13, e12, e14, e15, e16, e18, e17, s11, foot, Op.operands, opTmps]
  exact indep_of bf3_7 (by rfl)
end ZD
open Go Go.AM Go.Proofs Go.AM.Pl
set_option maxRecDepth 100000
set_option maxHeartbeats 4000000
namespace Go.AM
/-- A field's place, type and cells. -/
def fieldAt (P : Program) (t : TypeId) (k : Nat) : Option (Nat × TypeId × Nat) := match P.underlying t with
  | some (.struct fs) => (fs[k]?).map fun f => (f.offset, f.type, P.cellsOf f.type)
  | _ => none
theorem tv_field {P : Program} {m t k o u n : Nat} {us : List V} (h : TV P (m + 1) t us) (hf : fieldAt P t k = some (o, u, n)) : us.length = P.cellsOf t ∧ TV P m u ((us.drop o).take n) := by
  unfold fieldAt at hf
  split at hf
  · rename_i fs hu
    obtain ⟨f, h1, h2⟩ := Option.map_eq_some_iff.1 hf
    cases h2
    simp only [TV, hu] at h
    exact ⟨h.1, h.2 f (by rw [← Array.getElem?_toList] at h1; exact List.mem_of_getElem? h1)⟩
  · cases hf
theorem tv_i64 {P : Program} {m t : Nat} {us : List V} (hu : P.underlying t = some (.int .i64)) (h : TV P (m + 1) t us) : ∃ n : Int, us = [.i n] ∧ i64B n := by
  simp only [TV, hu] at h
  obtain ⟨n, rfl, hw⟩ := h
  refine ⟨n, rfl, ?_⟩
  have e1 : IntKind.i64.min = -9223372036854775808 := rfl
  have e2 : IntKind.i64.max = 9223372036854775807 := rfl
  simp [Lit.wf, e1, e2] at hw
  unfold i64B; omega
theorem tv_str {P : Program} {m t : Nat} {us : List V} (hu : P.underlying t = some .string) (h : TV P (m + 1) t us) : ∃ l : List UInt8, us = [.t l] := by
  simp only [TV, hu] at h
  obtain ⟨s, rfl, _⟩ := h
  exact ⟨s.data.toList, rfl⟩
theorem tv_row {α : Type} {P : Program} {m t e : Nat} {us : List V} {f : α → V} {ok : α → Prop} (hu : P.underlying t = some (.slice e)) (h : TV P (m + 1) t us) (hf : ∀ us, us.length = P.cellsOf e → TV P m e us → ∃ x, mkV P e us = f x ∧ ok x) : ∃ l : List α, us = [AM.vs .dead (P.cellsOf e) (l.map f)] ∧ ∀ x ∈ l, ok x := by
  simp only [TV, hu] at h
  obtain ⟨l, rfl, _, h⟩ := h
  have key : ∀ l : List V, (∀ v ∈ l, ∃ us, v = mkV P e us ∧ us.length = P.cellsOf e ∧ TV P m e us) → ∃ xs : List α, l = xs.map f ∧ ∀ x ∈ xs, ok x := by
    intro l
    induction l with
    | nil => exact fun _ => ⟨[], rfl, fun _ h => by cases h⟩
    | cons v l ih =>
      intro h
      obtain ⟨us, rfl, h2, h3⟩ := h v (by simp)
      obtain ⟨x, h4, h5⟩ := hf us h2 h3
      obtain ⟨xs, rfl, h6⟩ := ih fun u hu => h u (by simp [hu])
      exact ⟨x :: xs, by rw [h4]; rfl, fun y hy => by rcases List.mem_cons.1 hy with rfl | hy; exact h5; exact h6 y hy⟩
  obtain ⟨xs, rfl, h'⟩ := key l h
  exact ⟨xs, rfl, h'⟩
theorem mk_agg {P : Program} {t : TypeId} {us : List V} (h : ∃ fs, P.underlying t = some (.struct fs)) : mkV P t us = .agg us := by
  obtain ⟨fs, h⟩ := h; simp [mkV, h]
end Go.AM
namespace ZD
theorem u3' : cx.P.underlying 3 = some (.int .i64) := by rfl
theorem u9' : cx.P.underlying 9 = some .string := by rfl
theorem tv81 {m : Nat} {us : List V} (h : TV cx.P (m + 1 + 1) 81 us) : ∃ s : Spn, AM.mkV cx.P 81 us = Spn.v s ∧ us = [.i s.f0, .i s.f1] ∧ spanB64 s := by
  obtain ⟨hl, h0⟩ := tv_field (k := 0) (o := 0) (u := 3) (n := 1) h (by rfl)
  obtain ⟨_, h1⟩ := tv_field (k := 1) (o := 1) (u := 3) (n := 1) h (by rfl)
  have e : cx.P.cellsOf 81 = 2 := by rfl
  rw [e] at hl
  match us, hl with
  | [x, y], _ =>
    obtain ⟨a, ha, ra⟩ := tv_i64 u3' h0
    obtain ⟨b, hb, rb⟩ := tv_i64 u3' h1
    simp at ha hb
    subst ha; subst hb
    exact ⟨⟨a, b⟩, mk_agg ⟨_, by rfl⟩, rfl, ra, rb⟩
theorem tv70 {m : Nat} {us : List V} (h : TV cx.P (m + 1 + 1) 70 us) : ∃ r : Rec, AM.mkV cx.P 70 us = Rec.v r := by
  obtain ⟨hl, h0⟩ := tv_field (k := 0) (o := 0) (u := 3) (n := 1) h (by rfl)
  obtain ⟨_, h1⟩ := tv_field (k := 1) (o := 1) (u := 3) (n := 1) h (by rfl)
  obtain ⟨_, h2⟩ := tv_field (k := 2) (o := 2) (u := 3) (n := 1) h (by rfl)
  have e : cx.P.cellsOf 70 = 3 := by rfl
  rw [e] at hl
  match us, hl with
  | [x, y, z], _ =>
    obtain ⟨a, ha, ra⟩ := tv_i64 u3' h0
    obtain ⟨b, hb, rb⟩ := tv_i64 u3' h1
    obtain ⟨c, hc, rc⟩ := tv_i64 u3' h2
    simp at ha hb hc
    subst ha; subst hb; subst hc
    exact ⟨⟨a, b, c⟩, mk_agg ⟨_, by rfl⟩⟩
theorem tv24 {m : Nat} {us : List V} (h : TV cx.P (m + 1 + 1 + 1 + 1) 24 us) : ∃ o : Ord, us = o.cs ∧ i64B o.a ∧ i64B o.b ∧ i64B o.c ∧ i64B o.d ∧ ∀ s ∈ o.os, spanB64 s := by
  obtain ⟨hl, h0⟩ := tv_field (k := 0) (o := 0) (u := 3) (n := 1) h (by rfl)
  obtain ⟨_, h1⟩ := tv_field (k := 1) (o := 1) (u := 3) (n := 1) h (by rfl)
  obtain ⟨_, h2⟩ := tv_field (k := 2) (o := 2) (u := 3) (n := 1) h (by rfl)
  obtain ⟨_, h3⟩ := tv_field (k := 3) (o := 3) (u := 3) (n := 1) h (by rfl)
  obtain ⟨_, h4⟩ := tv_field (k := 4) (o := 4) (u := 22) (n := 1) h (by rfl)
  have e : cx.P.cellsOf 24 = 5 := by rfl
  rw [e] at hl
  match us, hl with
  | [x0, x1, x2, x3, x4], _ =>
    obtain ⟨a, ha, ra⟩ := tv_i64 u3' h0
    obtain ⟨b, hb, rb⟩ := tv_i64 u3' h1
    obtain ⟨c, hc, rc⟩ := tv_i64 u3' h2
    obtain ⟨d, hd, rd⟩ := tv_i64 u3' h3
    obtain ⟨os, ho, ro⟩ := tv_row (e := 81) (f := Spn.v) (ok := spanB64) (by rfl) h4 (fun us _ h => let ⟨s, h1, _, h3⟩ := tv81 h; ⟨s, h1, h3⟩)
    simp at ha hb hc hd ho
    subst ha; subst hb; subst hc; subst hd; subst ho
    exact ⟨⟨a, b, c, d, os⟩, rfl, ra, rb, rc, rd, ro⟩
theorem ints_row {m : Nat} {us : List V} (h : TV cx.P (m + 1 + 1) 26 us) : ∃ l : List Int, us = [AM.vs .dead 1 (ints l)] ∧ ∀ n ∈ l, i64B n := by
  refine tv_row (e := 3) (f := V.i) (ok := i64B) (by rfl) h (fun us _ h => ?_)
  obtain ⟨n, rfl, hn⟩ := tv_i64 u3' h
  exact ⟨n, by simp [AM.mkV, u3'], hn⟩
theorem tv28 {m : Nat} {us : List V} (h : TV cx.P (m + 1 + 1 + 1) 28 us) : ∃ (a b c : Int) (l : List Int), us = [.i a, .i b, .i c, AM.vs .dead 1 (ints l)] ∧ i64B a ∧ i64B b ∧ i64B c ∧ ∀ n ∈ l, i64B n := by
  obtain ⟨hl, h0⟩ := tv_field (k := 0) (o := 0) (u := 3) (n := 1) h (by rfl)
  obtain ⟨_, h1⟩ := tv_field (k := 1) (o := 1) (u := 3) (n := 1) h (by rfl)
  obtain ⟨_, h2⟩ := tv_field (k := 2) (o := 2) (u := 3) (n := 1) h (by rfl)
  obtain ⟨_, h3⟩ := tv_field (k := 3) (o := 3) (u := 26) (n := 1) h (by rfl)
  have e : cx.P.cellsOf 28 = 4 := by rfl
  rw [e] at hl
  match us, hl with
  | [x0, x1, x2, x3], _ =>
    obtain ⟨a, ha, ra⟩ := tv_i64 u3' h0
    obtain ⟨b, hb, rb⟩ := tv_i64 u3' h1
    obtain ⟨c, hc, rc⟩ := tv_i64 u3' h2
    obtain ⟨l, ho, ro⟩ := ints_row h3
    simp at ha hb hc ho
    subst ha; subst hb; subst hc; subst ho
    exact ⟨a, b, c, l, rfl, ra, rb, rc, ro⟩
/-- What is handed in as a command is one. -/
theorem arg30 {v : V} (h : TArg cx.P 6 30 v) : ∃ c : Cmd, v = c.v ∧ c.rng := by
  obtain ⟨us, rfl, h⟩ := h
  obtain ⟨hl, h0⟩ := tv_field (m := 5) (k := 0) (o := 0) (u := 3) (n := 1) h (by rfl)
  obtain ⟨_, h1⟩ := tv_field (m := 5) (k := 1) (o := 1) (u := 24) (n := 5) h (by rfl)
  obtain ⟨_, h2⟩ := tv_field (m := 5) (k := 2) (o := 6) (u := 3) (n := 1) h (by rfl)
  obtain ⟨_, h3⟩ := tv_field (m := 5) (k := 3) (o := 7) (u := 25) (n := 1) h (by rfl)
  obtain ⟨_, h4⟩ := tv_field (m := 5) (k := 4) (o := 8) (u := 3) (n := 1) h (by rfl)
  obtain ⟨_, h5⟩ := tv_field (m := 5) (k := 5) (o := 9) (u := 28) (n := 4) h (by rfl)
  have e : cx.P.cellsOf 30 = 13 := by rfl
  rw [e] at hl
  match us, hl with
  | [x0, x1, x2, x3, x4, x5, x6, x7, x8, x9, x10, x11, x12], _ =>
    obtain ⟨k, hk, _⟩ := tv_i64 (m := 4) u3' h0
    obtain ⟨o, ho, r1, r2, r3, r4, r5⟩ := tv24 (m := 1) h1
    obtain ⟨id, hi, ri⟩ := tv_i64 (m := 4) u3' h2
    obtain ⟨rs, hrs, _⟩ := tv_row (m := 4) (e := 70) (f := Rec.v) (ok := fun _ => True) (by rfl) h3 (fun us _ h => let ⟨s, h1⟩ := tv70 (m := 2) h; ⟨s, h1, trivial⟩)
    obtain ⟨mm, hm, rm⟩ := tv_i64 (m := 4) u3' h4
    obtain ⟨a, b, c, l, hx, ra, rb, rc, rl⟩ := tv28 (m := 2) h5
    simp [Ord.cs] at hk ho hi hrs hm hx
    obtain ⟨rfl, rfl, rfl, rfl, rfl⟩ := ho
    obtain ⟨rfl, rfl, rfl, rfl⟩ := hx
    subst hk; subst hi; subst hrs; subst hm
    exact ⟨⟨k, o, id, rs, mm, a, b, c, l⟩, mk_agg ⟨_, by rfl⟩, ⟨r1, r2, r3, r4, r5, ri, rm, ra, rb, rc, rl⟩⟩
theorem arg9 {v : V} (h : TArg cx.P 6 9 v) : ∃ l : List UInt8, v = .t l := by
  obtain ⟨us, rfl, h⟩ := h
  obtain ⟨l, rfl⟩ := tv_str (m := 5) u9' h
  exact ⟨l, by simp [AM.mkV, u9']⟩
/-- THE LAW, on all that may be handed in. -/
theorem law3 {a b : V} (ha : TArg cx.P 6 30 a) (hb : TArg cx.P 6 9 b) : ∃ k h', denK cx k 0 3 [a, b] [] = some (.b true, h') := by
  obtain ⟨c, rfl, hr⟩ := arg30 ha
  obtain ⟨l, rfl⟩ := arg9 hb
  obtain ⟨k, hk⟩ := den_iff.1 (s3 (lo := 0) (l := l) (h := []) hr)
  exact ⟨k, _, hk⟩
end ZD

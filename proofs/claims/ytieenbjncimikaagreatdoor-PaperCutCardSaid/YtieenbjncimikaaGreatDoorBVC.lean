/- The walk of PaperBack; what is read is what is told. No condition. -/
import Derived.Test.YtieenbjncimikaaGreatDoorBVA
import Derived.Test.YtieenbjncimikaaGreatDoorBVB
set_option linter.all false
open Go Go.AM Go.Proofs Go.AM.Pl
set_option maxRecDepth 100000
set_option maxHeartbeats 4000000
namespace ZD
theorem z55_lit : zeroOf cx.P 55 = some (.agg z55) := by
  have hz : (.agg z55 : V) = .agg [V.i 0, V.i 0, V.i 0, V.i 0, V.i 0, V.i 0, V.i 0, V.i 0, V.i 0, V.i 0, V.i 0, V.i 0, V.i 0, V.i 0, V.i 0, V.i 0, V.i 0, V.i 0, V.i 0, AM.vs .nil 0 [], AM.vs .nil 0 [], AM.vs .nil 0 []] := rfl
  rw [hz]; exact zo55
theorem dl22 {d : Dep} {D : List V} (hb : d.bk.length = 19) (h : d.v = .agg D) : D.length = 22 := by
  have hD : D = d.cs := V.agg.inj h.symm
  rw [hD]; simp [Dep.cs, ints]; exact hb
/-- THE LAW PaperBack. -/
theorem s8 {lo : Nat} {d : Dep} {h : H} (hr : d.rng) : den cx lo 8 [d.v] h = some (.b true, h) := by
  have hb := hr.1
  have e20 := fun lo => s20 (lo := lo) (h := h) hr.1
  have e21 := fun lo g => s21 (lo := lo) (h := g)
  obtain ⟨D, hDv, n22, n19, t22, t19, fD, d19, d20, d21⟩ := deps hr.1
  cases q : lgtD d with
  | false =>
    rw [q] at e20
    refine den_pure (fn := Tryz.f8) (by rfl) (by rfl) (by rfl) (by rfl) (by simp [Tryz.f8]) (by simp) ?_
    rw [hDv] at e20 ⊢
    simp (maxSteps := 2000000) (disch := first | omega | (simp; done) | (simp; omega) | assumption) [Tryz.f8, argsE, isC, boxV, boxO, fresh_no, List.filter_cons, setB, aggN, op_build, List.set, n22, t22, fD, e20, e21]
  | true =>
    obtain ⟨hs, ht⟩ := lgt_sm hr q
    have e22 := fun lo => s22 (lo := lo) (h := h) hs ht
    have e27 := fun lo => s27 (lo := lo) (h := h) hs
    rw [q] at e20
    by_cases hc : (depC d).2.2 = 0
    case neg =>
      unfold prtD at e22
      rw [if_neg hc] at e22
      unfold tup3 at e27
      obtain ⟨⟨c1, c2, c3⟩, hC⟩ : ∃ C, depC d = C := ⟨_, rfl⟩
      rw [hC] at e22 e27 hc
      simp only at e22 e27 hc
      refine den_pure (fn := Tryz.f8) (by rfl) (by rfl) (by rfl) (by rfl) (by simp [Tryz.f8]) (by simp) ?_
      rw [hDv] at e20 e22 e27 ⊢
      simp (maxSteps := 2000000) (disch := first | omega | (simp; done) | (simp; omega) | assumption) [Tryz.f8, argsE, isC, boxV, boxO, fresh_no, List.filter_cons, setB, aggN, op_build, List.set, n22, t22, fD, e20, e21, e22, e27, hc]
    have ht := ht hc
    have hrd := rd_of hb hc
    have e24 := fun lo => s24 (lo := lo) (l := depT d) (h := h) (by have := dep_len ht hb; omega) (fun ls hl => by rw [lin_dep hrd] at hl; cases hl; exact ln_tx ht hb)
    have e28 := fun lo => s28 (lo := lo) (h := h) hs
    have hpar : parV (depT d) = .tup [d.v, .i 0, .i 0] := by unfold parV; rw [par_dep hb hc]
    rw [hpar] at e24
    unfold prtD at e22
    rw [if_pos hc] at e22
    have hT : tup3 (depC d) = .tup [.i (depC d).1, .i (depC d).2.1, .i 0] := by unfold tup3; rw [hc]
    rw [hT] at e27
    obtain ⟨T, hTT⟩ : ∃ T, depT d = T := ⟨_, rfl⟩
    rw [hTT] at e22 e24
    have hDl := dl22 hb hDv
    have hwr := wr_all z55_len hDl (by omega)
    have ho := fun o ho => (⟨(ht.2.2.2.1 o ho).1, (ht.2.2.2.1 o ho).2, ord_back hrd ho⟩ : o.wf ∧ o.os.length ≤ 20 ∧ _)
    have hon := ht.2.2.2.2.1
    have d20g : ∀ hh, D[20]'hh = AM.vs .dead 5 (ordsV d.ords) := fun hh => by rw [List.getElem?_eq_getElem hh] at d20; exact Option.some.inj d20
    clear hs ht hc hrd hpar hT hTT
    rw [hDv] at e20 e22 e24 e27 e28
    refine den_pure (fn := Tryz.f8) (by rfl) (by rfl) (by rfl) (by rfl) (by simp [Tryz.f8]) (by simp) ?_
    rw [hDv]
    simp (maxSteps := 2000000) (disch := first | omega | (simp; done) | (simp; omega) | assumption) [Tryz.f8, argsE, -zo55, z55_lit, isC, boxV, boxO, fresh_no, List.filter_cons, setB, aggN, op_build, List.set, n22, t22, fD, e20, e21, e22, e24, e27, e28, z55_len, hDl, hwr, d20g]
    clear e20 e22 e24 e27 e28
    obtain ⟨I, hI⟩ : ∃ I : Nat → List Ent → List (Nat × List V) → H → Prop, I = (fun n' vs lb g => ∃ j : Nat, n' + j = d.ords.length ∧ (True) ∧ vs = [.v (.i (j : Int))] ∧ lb = [(8, D), (1, D)] ∧ g = h) := ⟨_, rfl⟩
    refine Wp.loopQ I (n := d.ords.length) (by rw [hI]; exact ⟨0, by simp, trivial, by simp, by simp, by simp⟩) ?_
    intro n' vs lb g hi Q hQ; rw [hI] at hi; obtain ⟨j, hj, ha, rfl, rfl, rfl⟩ := hi
    have go : j < d.ords.length → (True) → I (n' - 1) [.v (.i ((j : Int) + 1))] [(8, D), (1, D)] g := fun hlt q => by rw [hI]; exact ⟨j + 1, by omega, q, by simp, by simp, rfl⟩
    clear hI
    by_cases hlt : j < d.ords.length
    · have go := go hlt trivial
      have hom := ho _ (List.getElem_mem hlt)
      obtain ⟨x, hx⟩ : ∃ x, d.ords[j] = x := ⟨_, rfl⟩
      rw [hx] at hom
      obtain ⟨h1, h2, h3⟩ := hom
      have e30 := fun lo => s30 (lo := lo) (h := g) h1
      have e29 := fun lo => s29 (lo := lo) (l := x.l) (h := g) (by have := ord_small h1 h2; unfold ordLn at this; simp at this; omega)
      have e31 := fun lo => s31 (lo := lo) (o := x) (h := g) (by omega)
      rw [h3] at e29
      have e : ordV (x.a, x.b, x.c, x.d, x.os, 0) = .tup [x.v, .i 0] := rfl
      rw [e] at e29
      obtain ⟨xl, hxl⟩ : ∃ xl, x.l = xl := ⟨_, rfl⟩
      rw [hxl] at e29 e30
      obtain ⟨a, b, c, f, os⟩ := x
      simp only [Ord.v, Ord.cs] at e29 e30 e31
      simp (maxSteps := 2000000) (disch := first | omega | (simp; done) | (simp; omega) | assumption) [isC, hlt, wrap64, ordsV, Ord.v, Ord.cs, hx, boxV, boxO, fresh_no, List.filter_cons, setB, aggN, op_build, List.set, e29, e30, e31, foot, Op.operands, opTmps]
      exact ⟨n' - 1, by omega, go⟩
    · clear go
      simp (maxSteps := 2000000) (disch := first | omega | (simp; done) | (simp; omega) | assumption) [hlt]
      refine hQ _ _ ?_
      simp (maxSteps := 2000000) (disch := first | omega | (simp; done) | (simp; omega) | assumption) [e21]
end ZD
open Go Go.AM Go.Proofs Go.AM.Pl
set_option maxRecDepth 100000
set_option maxHeartbeats 4000000
namespace ZD
theorem jn_wrds {l : Ln} (h : wrds l ≠ []) : jn (wrds l) = l := by
  unfold wrds wordsR at h ⊢
  split at h
  · rename_i ws hw
    split at h
    · exact absurd rfl h
    · rename_i h2
      rw [if_neg h2]
      exact (splR_ok hw).1
  · exact absurd rfl h
theorem rowR_canon {w : List Ln} {nm : Ln} {n : Int} (hn : 0 ≤ n) (h : (rowR w nm n).2 = 0) : w = rowWs nm (rowR w nm n).1 ∧ ((rowR w nm n).1.length : Int) = n := by
  unfold rowR at h ⊢
  by_cases q : w.headD [] = nm ∧ (w.length : Int) = n + 1
  · rw [if_pos q] at h ⊢
    cases w with
    | nil => simp at q; omega
    | cons a r =>
      simp only [List.tail_cons] at h ⊢
      unfold allR at h ⊢
      obtain ⟨x, h1, h2, _⟩ := numsR_canon r 0 [] h
      simp only [List.nil_append] at h1
      rw [h1]
      have e : a = nm := q.1
      have hl := q.2
      rw [h2] at hl
      simp only [List.length_cons, List.length_map] at hl
      exact ⟨by unfold rowWs; rw [← h2, e], by omega⟩
  · rw [if_neg q] at h; simp at h
theorem ordR_canon {w : List Ln} (h : OrdR.e (ordR w) = 0) : w = ordWs (OrdR.o (ordR w)) := by
  unfold ordR at h ⊢
  split at h
  · rename_i w0 w1 w2 w3 w4 r
    by_cases q : w0 = ordW
    case neg => rw [if_neg q] at h; simp [zer, OrdR.e] at h
    rw [if_pos q] at h
    rw [if_pos q]
    unfold ord5 at h ⊢
    by_cases k1 : (numR w1 M9).2 = 0
    case neg => rw [if_neg k1] at h; exact absurd h k1
    by_cases k2 : (numR w2 M9).2 = 0
    case neg => rw [if_pos k1, if_neg k2] at h; exact absurd h k2
    by_cases k3 : (sgnR w3).2 = 0
    case neg => rw [if_pos k1, if_pos k2, if_neg k3] at h; exact absurd h k3
    by_cases k4 : (numR w4 M9).2 = 0
    case neg => rw [if_pos k1, if_pos k2, if_pos k3, if_neg k4] at h; exact absurd h k4
    by_cases k5 : (spansR r []).2 = 0
    case neg => rw [if_pos k1, if_pos k2, if_pos k3, if_pos k4, if_neg k5] at h; exact absurd h k5
    rw [if_pos k1, if_pos k2, if_pos k3, if_pos k4, if_pos k5]
    obtain ⟨os, h1, h2, _⟩ := spansR_canon r [] k5
    simp only [List.nil_append] at h1
    unfold ordWs OrdR.o
    simp only [h1]
    rw [(numR_canon k1).1, (numR_canon k2).1, (sgnR_canon k3).1, (numR_canon k4).1, ← h2, q]
  · simp [zer, OrdR.e] at h
theorem kndL_canon {a : Ln} (h : (kndL a).2 = true) : a = [letR (kndL a).1] := by
  unfold kndL at h ⊢
  split
  · rename_i c
    simp only at h
    unfold kindR at h ⊢
    split
    · rename_i e; subst e; rfl
    split
    · rename_i e; subst e; rfl
    split
    · rename_i e; subst e; rfl
    split
    · rename_i e; subst e; rfl
    · rename_i e1 e2 e3 e4; rw [if_neg e1, if_neg e2, if_neg e3, if_neg e4] at h; cases h
  · rename_i hh
    exfalso
    split at h
    · rename_i c; exact hh c rfl
    · cases h
theorem recW3_canon {w : List Ln} (hw : w.headD [] = pastW) (h : (recW3 w).2 = 0) : w = pastWs (recW3 w).1 := by
  unfold recW3 at h ⊢
  split at h
  · rename_i x a b
    have hx : x = pastW := hw
    subst hx
    by_cases k1 : (kndL a).2 = true
    case neg => rw [if_neg k1] at h; simp at h
    rw [if_pos k1] at h
    by_cases k2 : (spanR b).2.2 = 0
    case neg => rw [if_neg k2] at h; exact absurd h k2
    simp only [k1, k2, if_true]
    unfold pastWs
    simp only
    rw [← kndL_canon k1]
    have := (span_canon (t := b) (a := (spanR b).1) (b := (spanR b).2.1) (by rw [← k2])).1
    rw [← this]
  · simp at h
/-- What was read is what is told. -/
def Iv (x : Rdg) (p : List Ln) : Prop :=
  (x.next = 0 ∧ p = [] ∧ x.d = dep0 ∧ x.rows = []) ∨
  (x.next = 1 ∧ p = [jn [hlW, [49]]] ∧ x.d = dep0 ∧ x.rows = []) ∨
  (x.next = 2 ∧ p = [jn [hlW, [49]], jn (rowWs bookW x.d.bk)] ∧ x.d.ways = [] ∧ x.d.ords = [] ∧ x.d.trks = [] ∧ x.rows = []) ∨
  (x.next = 3 ∧ x.d.ords = [] ∧ x.d.trks = [] ∧ x.rows.length = x.d.ways.length ∧ (x.d.ways.length : Int) < x.places ∧ p = [jn [hlW, [49]], jn (rowWs bookW x.d.bk), jn (rowWs placesW [x.places])] ++ (x.d.ways.map (rowWs rowW)).map jn) ∨
  ((x.next = 4 ∧ x.d.trks = [] ∨ x.next = 5 ∧ x.d.trks ≠ []) ∧ p = [jn [hlW, [49]], jn (rowWs bookW x.d.bk), jn (rowWs placesW [(x.d.ways.length : Int)])] ++ (x.d.ways.map (rowWs rowW) ++ x.d.ords.map ordWs ++ x.d.trks.flatMap trkWs).map jn) ∨
  (x.next = 6 ∧ p = lnD x.d)
theorem Iv_step {x x' : Rdg} {p : List Ln} {w : List Ln} {a : Int} (h : Iv x p) (ht : takeR x w a = (x', 0)) : Iv x' (p ++ [jn w]) := by
  unfold takeR firstR at ht
  rcases h with ⟨n, hp, hd, hr⟩ | ⟨n, hp, hd, hr⟩ | ⟨n, hp, h1, h2, h3, hr⟩ | ⟨n, h2, h3, hr, hlt, hp⟩ | ⟨n, hp⟩ | ⟨n, hp⟩
  · rw [if_pos (by omega), if_pos n] at ht
    by_cases q : w = [hlW, [49]]
    · rw [if_pos q] at ht
      cases ht
      exact .inr (.inl ⟨rfl, by rw [hp, q]; rfl, hd, hr⟩)
    · rw [if_neg q] at ht; cases ht
  · rw [if_pos (by omega), if_neg (by omega), if_pos n] at ht
    by_cases q : (rowR w bookW 19).2 = 0
    · rw [if_pos q] at ht
      obtain ⟨e1, e2⟩ := rowR_canon (by omega) q
      cases ht
      refine .inr (.inr (.inl ⟨rfl, ?_, by simp [hd, dep0], by simp [hd, dep0], by simp [hd, dep0], hr⟩))
      simp only
      rw [← e1, hp]; rfl
    · rw [if_neg q] at ht; exact absurd (Prod.mk.inj ht).2 q
  · rw [if_pos (by omega), if_neg (by omega), if_neg (by omega), if_pos n] at ht
    by_cases q : (rowR w placesW 1).2 = 0
    · rw [if_pos q] at ht
      obtain ⟨e1, e2⟩ := rowR_canon (by omega) q
      by_cases z : (rowR w placesW 1).1.getD 0 0 < 1 ∨ 200 < (rowR w placesW 1).1.getD 0 0
      · rw [if_pos z] at ht; cases ht
      · rw [if_neg z] at ht
        cases ht
        obtain ⟨L, hL⟩ : ∃ L, (rowR w placesW 1).1 = L := ⟨_, rfl⟩
        rw [hL] at e1 e2 z
        match L, e2 with
        | [m], _ =>
          simp only [List.getD_cons_zero] at z
          refine .inr (.inr (.inr (.inl ⟨rfl, h2, h3, by simp [hr, h1], by simp [h1, hL]; omega, ?_⟩)))
          simp only [h1, hL, List.map_nil, List.append_nil, List.getD_cons_zero]
          rw [← e1, hp]; rfl
    · rw [if_neg q] at ht; exact absurd (Prod.mk.inj ht).2 q
  · rw [if_pos (by omega), if_neg (by omega), if_neg (by omega), if_neg (by omega)] at ht
    by_cases q : (rowR w rowW x.places).2 = 0
    · rw [if_pos q] at ht
      obtain ⟨e1, e2⟩ := rowR_canon (by omega) q
      cases ht
      by_cases z : ((x.rows.length + 1 : Nat) : Int) = x.places
      · refine .inr (.inr (.inr (.inr (.inl ⟨.inl ⟨by rw [if_pos z], h3⟩, ?_⟩))))
        simp only [h2, h3, List.map_nil, List.flatMap_nil, List.append_nil, List.map_append, List.map_cons, List.length_append, List.length_cons, List.length_nil]
        rw [← e1, hp, ← hr, Nat.zero_add, z]; simp
      · refine .inr (.inr (.inr (.inl ⟨by rw [if_neg z]; exact n, h2, h3, by simp [hr], by simp; omega, ?_⟩)))
        simp only [List.map_append, List.map_cons, List.map_nil]
        rw [← e1, hp]; simp
    · rw [if_neg q] at ht; exact absurd (Prod.mk.inj ht).2 q
  · rw [if_neg (by omega), if_neg (by omega)] at ht
    by_cases q1 : w.headD [] = ordW ∧ x.next = 4
    · rw [if_pos q1] at ht
      have he : OrdR.e (ordR w) = 0 := (Prod.mk.inj ht).2
      have ht := (Prod.mk.inj ht).1
      subst ht
      have htr : x.d.trks = [] := by rcases n with ⟨_, n⟩ | ⟨n, _⟩; exact n; omega
      refine .inr (.inr (.inr (.inr (.inl ⟨.inl ⟨q1.2, htr⟩, ?_⟩))))
      rw [htr] at hp
      simp only [htr, List.flatMap_nil, List.append_nil, List.map_append, List.map_cons, List.map_nil] at hp ⊢
      rw [← ordR_canon he, hp]; simp
    rw [if_neg q1] at ht
    by_cases q2 : w.headD [] = truckW
    · rw [if_pos q2] at ht
      by_cases q : (rowR w truckW 5).2 = 0
      · rw [if_pos q] at ht
        obtain ⟨e1, e2⟩ := rowR_canon (by omega) q
        cases ht
        refine .inr (.inr (.inr (.inr (.inl ⟨.inr ⟨rfl, by simp⟩, ?_⟩))))
        obtain ⟨L, hL⟩ : ∃ L, (rowR w truckW 5).1 = L := ⟨_, rfl⟩
        rw [hL] at e1 e2
        match L, e2 with
        | [a1, a2, a3, a4, a5], _ =>
          have e3 : trkWs (trkOf [a1, a2, a3, a4, a5]) = [w] := by rw [e1]; rfl
          simp only [hL, List.flatMap_append, List.flatMap_cons, List.flatMap_nil, e3, List.map_append, List.map_cons, List.map_nil, List.append_nil] at hp ⊢
          rw [hp]; simp
      · rw [if_neg q] at ht; exact absurd (Prod.mk.inj ht).2 q
    rw [if_neg q2] at ht
    by_cases q3 : w.headD [] = pastW ∧ x.next = 5
    · rw [if_pos q3] at ht
      by_cases q : (recW3 w).2 = 0
      · rw [if_pos q] at ht
        have e1 := recW3_canon q3.1 q
        cases ht
        have htr : x.d.trks ≠ [] := by rcases n with ⟨n, _⟩ | ⟨_, n⟩; omega; exact n
        obtain ⟨l, t, hlt⟩ : ∃ l t, x.d.trks = l ++ [t] := ⟨_, _, (List.dropLast_concat_getLast htr).symm⟩
        rw [hlt] at hp
        refine .inr (.inr (.inr (.inr (.inl ⟨.inr ⟨q3.2, by rw [hlt, addPast_snoc]; simp⟩, ?_⟩))))
        have e3 : trkWs { t with past := t.past ++ [(recW3 w).1] } = trkWs t ++ [w] := by unfold trkWs trkNs; simp only [List.map_append, List.map_cons, List.map_nil]; rw [← e1]; rfl
        simp only [hlt, addPast_snoc, List.flatMap_append, List.flatMap_cons, List.flatMap_nil, e3, List.map_append, List.map_cons, List.map_nil, List.append_nil] at hp ⊢
        rw [hp]; simp
      · rw [if_neg q] at ht; exact absurd (Prod.mk.inj ht).2 q
    rw [if_neg q3] at ht
    by_cases q4 : w = [endW]
    · rw [if_pos q4] at ht
      cases ht
      refine .inr (.inr (.inr (.inr (.inr ⟨rfl, ?_⟩))))
      rw [hp, q4]; unfold lnD wsD; simp
    · rw [if_neg q4] at ht; cases ht
  · rw [if_neg (by omega), if_pos n] at ht; cases ht
theorem Iv_run : ∀ (ls : List Ln) (x y : Rdg) (a b : Int) (p : List Ln), Iv x p → runR x a ls = (y, b, 0) → Iv y (p ++ ls) ∧ y.next = 6
  | [], x, y, a, b, p, h, hr => by
    simp only [runR] at hr
    obtain ⟨rfl, hr⟩ := Prod.mk.inj hr
    obtain ⟨_, hr⟩ := Prod.mk.inj hr
    by_cases q : x.next = 6
    · exact ⟨by simpa using h, q⟩
    · rw [if_neg q] at hr; cases hr
  | l :: r, x, y, a, b, p, h, hr => by
    simp only [runR] at hr
    by_cases h1 : wrds l = []
    · rw [if_pos h1] at hr; cases hr
    rw [if_neg h1] at hr
    by_cases h2 : (takeR x (wrds l) a).2 = 0
    · rw [if_pos h2] at hr
      have := Iv_run r _ y _ b (p ++ [jn (wrds l)]) (Iv_step (x' := (takeR x (wrds l) a).1) (a := a) h (by rw [← h2])) hr
      rw [jn_wrds h1] at this
      simpa using this
    · rw [if_neg h2] at hr; exact absurd (Prod.mk.inj (Prod.mk.inj hr).2).2 h2
theorem atL_le (ls : List Ln) (j : Nat) : 0 ≤ atL ls j ∧ atL ls j ≤ (unl ls).length := by
  have key : ∀ (ls : List Ln) (j : Nat), 0 ≤ ((ls.take j).map fun (l : Ln) => (l.length : Int) + 1).sum ∧ ((ls.take j).map fun (l : Ln) => (l.length : Int) + 1).sum ≤ (unl ls).length := by
    intro ls
    induction ls with
    | nil => intro j; simp [unl]
    | cons s r ih =>
      intro j
      cases j with
      | zero => simp
      | succ j =>
        have := ih j
        rw [unl_cons, List.take_succ_cons, List.map_cons, List.sum_cons]
        simp only [List.length_append, List.length_cons]
        omega
  exact key ls j
/-- What is parsed is printed as it was. -/
theorem par_back {l : Ln} (h : (parR l).2.2 = 0) : depT (parR l).1 = l ∧ (depC (parR l).1).2.2 = 0 ∧ ∃ ls, lin [] l = some ls ∧ lnD (parR l).1 = ls := by
  unfold parR at h ⊢
  cases hl : lin [] l with
  | none => rw [hl] at h; simp at h
  | some ls =>
    rw [hl] at h
    simp only at h ⊢
    obtain ⟨⟨y, a, e⟩, hR⟩ : ∃ R, runR rdg0 0 ls = R := ⟨_, rfl⟩
    rw [hR] at h ⊢
    unfold finR at h ⊢
    simp only at h ⊢
    by_cases q : e = 0
    case neg => rw [if_neg q] at h; exact absurd h q
    rw [if_pos q] at h ⊢
    by_cases q2 : (depC y.d).2.2 = 0
    case neg => rw [if_neg q2] at h; exact absurd h q2
    rw [if_pos q2]
    simp only
    subst q
    obtain ⟨hi, h6⟩ := Iv_run ls rdg0 y 0 a [] (.inl ⟨rfl, rfl, rfl, rfl⟩) hR
    have hp : ls = lnD y.d := by
      rcases hi with ⟨n, _⟩ | ⟨n, _⟩ | ⟨n, _⟩ | ⟨n, _⟩ | ⟨n, _⟩ | ⟨n, hp⟩
      · omega
      · omega
      · omega
      · omega
      · omega
      · simpa using hp
    refine ⟨?_, q2, ls, rfl, hp.symm⟩
    rw [← unl_lnD, ← hp, ← lin_back l [] ls hl]; rfl
/-- Where what cannot be parsed is wrong. -/
theorem par_bad {l : Ln} (h : (parR l).2.2 ≠ 0) : (parR l).1 = dep0 ∧ 0 ≤ (parR l).2.1 ∧ (parR l).2.1 ≤ l.length := by
  unfold parR at h ⊢
  cases hl : lin [] l with
  | none => simp
  | some ls =>
    rw [hl] at h
    simp only at h ⊢
    obtain ⟨h1, h2, h3, _⟩ := all_ok ls
    rw [h1] at h ⊢
    by_cases q : (allX ls).e = 0
    · rw [if_pos q] at h; simp at h
    rw [if_neg q]
    have := atL_le ls (allX ls).i.toNat
    have e := lin_back l [] ls hl
    simp only [List.nil_append] at e
    rw [← e] at this
    exact ⟨rfl, this.1, this.2⟩
end ZD

/- What functions tell of depots: minutes' kinds, trucks. No condition. -/
import Derived.Test.YtieenbjncimikaaGreatDoorPB
set_option linter.all false
open Go Go.AM Go.Proofs Go.AM.Pl
set_option maxRecDepth 100000
set_option maxHeartbeats 4000000
namespace ZD
/-- A record more, joined to the last one if that is of its kind. -/
def addR (a : List Rec) (r : Rec) : List Rec := match a.getLast? with
  | some x => if x.k = r.k then a.dropLast ++ [⟨x.k, x.f, r.t⟩] else a ++ [r]
  | none => [r]
def mrg : List Rec → List Rec → List Rec
  | a, [] => a
  | a, r :: t => mrg (addR a r) t
@[simp] theorem addR_nil {r : Rec} : addR [] r = [r] := rfl
theorem addR_snoc {a : List Rec} {x r : Rec} : addR (a ++ [x]) r = if x.k = r.k then a ++ [⟨x.k, x.f, r.t⟩] else a ++ [x] ++ [r] := by simp [addR]
theorem addR_len {a : List Rec} {r : Rec} : (addR a r).length ≤ a.length + 1 := by
  unfold addR; split
  · split <;> simp
  · simp
def rc (W : List Rec) : List V := (recs W).flatMap cellsOf
theorem rc_snoc {W : List Rec} {x : Rec} : rc (W ++ [x]) = rc W ++ [.i x.k, .i x.f, .i x.t] := by simp [rc, recs, Rec.v]
@[simp] theorem rc_len {W : List Rec} : (rc W).length = W.length * 3 := by
  induction W with
  | nil => rfl
  | cons x W ih =>
    have : rc (x :: W) = [.i x.k, .i x.f, .i x.t] ++ rc W := by simp [rc, recs, Rec.v]
    rw [this]; simp [ih]; omega
theorem rc_get0 {W : List Rec} {a b d : V} : (rc W ++ [a, b, d])[W.length * 3]? = some a := by
  rw [List.getElem?_append_right (by simp)]; simp
theorem rc_set2 {W : List Rec} {a b d x : V} : (rc W ++ [a, b, d]).set (W.length * 3 + 2) x = rc W ++ [a, b, x] := by
  rw [List.set_append_right _ _ (by simp)]; simp
theorem rc_chunks {W : List Rec} : chunks 3 W.length (rc W) = recs W := by
  have := chunks_flat (w := 3) (recs W) fun v hv => by
    obtain ⟨x, _, rfl⟩ := List.mem_map.1 hv
    exact .inl ⟨by omega, _, rfl, rfl⟩
  rw [recs_len] at this; exact this
theorem rc_clo {W : List Rec} : (rc W).all (clo 11) = true := by
  simp [rc, recs, Rec.v]
/-- Records in a row that is written to. -/
def RowR (h g : H) (W : List Rec) (X : V) : Prop := h.length ≤ g.length ∧ ((W = [] ∧ X = AM.vs .nil 0 []) ∨ (W ≠ [] ∧ ∃ b, X = .msl b 0 W.length 3 ∧ h.length ≤ b ∧ cellsAt g b = some (rc W)))
theorem RowR.fin {h g : H} {W : List Rec} {X : V} (r : RowR h g W X) : Cl1 g h.length X = some (AM.vs .dead 3 (recs W)) := by
  obtain ⟨_, ⟨rfl, rfl⟩ | ⟨hne, b, rfl, h1, h2⟩⟩ := r
  · rw [Cl1_vs (by rfl)]; rfl
  · rw [Cl1_msl h1 h2 (by simp) rc_clo rc_chunks, fgL_recs]
theorem RowR.val {h g : H} {W : List Rec} {X : V} (r : RowR h g W X) : (Ent.v X).val = some X := by obtain ⟨_, ⟨_, rfl⟩ | ⟨_, b, rfl, _⟩⟩ := r <;> rfl
theorem s213 {lo : Nat} {l : List Rec} {h : H} (hl : l.length ≤ 1000000) : den cx lo 213 [AM.vs .dead 3 (recs l)] h = some (AM.vs .dead 3 (recs (mrg [] l)), h) := by
  refine den_pure (fn := Tryz.f213) (by rfl) (by rfl) (by rfl) (by rfl) (by simp [Tryz.f213]) (by simp) ?_
  obtain ⟨v, hv⟩ : ∃ v, mrg [] l = v := ⟨_, rfl⟩
  rw [hv]
  simp (maxSteps := 2000000) (disch := first | omega | (simp; done) | (simp; omega) | assumption) [Tryz.f213, argsE]
  obtain ⟨I, hI⟩ : ∃ I : Nat → List Ent → List (Nat × List V) → H → Prop, I = (fun n vs lb g => ∃ (j : Nat) (W : List Rec) (X : V), n + j = l.length ∧ W.length ≤ j ∧ mrg W (l.drop j) = v ∧ RowR h g W X ∧ vs = [.v X, .v (.i j)] ∧ lb = []) := ⟨_, rfl⟩
  refine Wp.loopQ I (n := l.length) (by rw [hI]; exact ⟨0, [], AM.vs .nil 0 [], by simp, by simp, hv, ⟨Nat.le_refl _, .inl ⟨rfl, rfl⟩⟩, by simp, by simp⟩) ?_
  intro n vs lb g hi Q hQ; rw [hI] at hi; obtain ⟨j, W, X, hj, hw, ha, hr, rfl, rfl⟩ := hi
  have hX := hr.val
  by_cases hlt : j < l.length
  · have go : ∀ g' W' X', mrg W' (l.drop (j + 1)) = v → W'.length ≤ j + 1 → RowR h g' W' X' → I (n - 1) [.v X', .v (.i ((j : Int) + 1))] [] g' := by
      intro g' W' X' h1 h2 h3; rw [hI]; exact ⟨j + 1, W', X', by omega, h2, h1, h3, by simp, rfl⟩
    clear hI
    obtain ⟨x, hx⟩ : ∃ x, l[j] = x := ⟨_, rfl⟩
    rw [List.drop_eq_getElem_cons hlt, hx] at ha
    simp only [mrg] at ha
    have hwl := addR_len (a := W) (r := x)
    clear hv
    obtain ⟨hg, ⟨rfl, rfl⟩ | ⟨hne, b, rfl, hb1, hb2⟩⟩ := hr
    · have go := go (g ++ [.cells [.i x.k, .i x.f, .i x.t]]) [x] (.msl g.length 0 1 3) (by simpa using ha) (by simp) ⟨by simp; omega, .inr ⟨by simp, g.length, by simp, hg, by simp [rc, recs, Rec.v]⟩⟩
      clear ha hQ
      simp (maxSteps := 2000000) (disch := first | omega | (simp; done) | (simp; omega) | assumption) [hlt, recs, Rec.v, hx, isC, wrap64, boxV, boxO, fresh_no, List.filter_cons, setB, aggN, op_build, List.set, foot, Op.operands, opTmps, elemsV, push, hg]
      exact ⟨indep_of bf213_6 (by rfl), n - 1, by omega, go⟩
    · obtain ⟨W0, y, rfl⟩ : ∃ W0 y, W = W0 ++ [y] := ⟨W.dropLast, W.getLast hne, (List.dropLast_concat_getLast hne).symm⟩
      rw [rc_snoc] at hb2
      have hbg := cellsAt_lt hb2
      rw [addR_snoc] at ha hwl
      have hk : ((W0.length : Int) + 1) - 1 = W0.length := by omega
      have hwm : W0.length < 1000000 := by simp at hw; omega
      simp only [List.length_append, List.length_cons, List.length_nil] at *
      by_cases q : y.k = x.k
      · rw [if_pos q] at ha hwl
        have go := go (g.set b (.cells (rc W0 ++ [.i y.k, .i y.f, .i x.t]))) _ (.msl b 0 (W0.length + 1) 3) ha (by simp; omega) ⟨by simp; omega, .inr ⟨by simp, b, by simp, hb1, by rw [cellsAt_set hbg]; simp [rc_snoc]⟩⟩
        rw [q] at go
        clear ha hQ
        simp (maxSteps := 2000000) (disch := first | omega | (simp; done) | (simp; omega) | assumption) [hlt, recs, Rec.v, hx, isC, wrap64, boxV, boxO, fresh_no, List.filter_cons, setB, aggN, op_build, List.set, foot, Op.operands, opTmps, hk, hb1, hb2, rc_get0, rc_set2, q]
        exact ⟨indep_of bf213_6 (by rfl), n - 1, by omega, go⟩
      · rw [if_neg q] at ha hwl
        have go := go (g.set b .dead ++ [.cells (rc W0 ++ [.i y.k, .i y.f, .i y.t, .i x.k, .i x.f, .i x.t])]) _ (.msl g.length 0 (W0.length + 1 + 1) 3) ha (by simp; omega) ⟨by simp; omega, .inr ⟨by simp, g.length, by simp, hg, by rw [cellsAt_push' (by simp), rc_snoc, rc_snoc]; simp⟩⟩
        have ham := fun (env : List (Nat × Ent)) (lbx : List (Nat × List V)) => am25 (lo := h.length) (k := b) (n := W0.length + 1) (m := true) (st := ⟨env, lbx, g⟩) (tk' := .full) (l' := [x.v]) hb1 hb2 (by simp; omega) (by simp) (by simp; omega)
        simp only [Rec.v] at ham
        clear ha hQ
        simp (maxSteps := 2000000) (disch := first | omega | (simp; done) | (simp; omega) | assumption) [hlt, recs, Rec.v, hx, isC, wrap64, boxV, boxO, fresh_no, List.filter_cons, setB, aggN, op_build, List.set, foot, Op.operands, opTmps, elemsV, push, hk, hb1, hb2, rc_get0, q, ham]
        exact ⟨indep_of bf213_6 (by rfl), n - 1, by omega, go⟩
  · rw [List.drop_of_length_le (by omega)] at ha
    simp only [mrg] at ha
    subst ha
    have hf := hr.fin
    clear hI hr
    have hlt' : ¬ ((j : Int) < l.length) := by omega
    simp (maxSteps := 2000000) (disch := first | omega | (simp; done) | (simp; omega) | assumption) [hlt, hlt', hX]
    refine hQ _ _ ?_
    simp (maxSteps := 2000000) (disch := first | omega | (simp; done) | (simp; omega) | assumption) [hX, hf]
end ZD
open Go Go.AM Go.Proofs Go.AM.Pl
set_option maxRecDepth 100000
set_option maxHeartbeats 4000000
namespace ZD
/-- The kind of each minute. -/
def kindsR (l : List Rec) : List Int := l.flatMap fun r => List.replicate (r.t - r.f).toNat r.k
theorem kindsR_take {l : List Rec} {j : Nat} (h : j < l.length) : kindsR (l.take (j + 1)) = kindsR (l.take j) ++ List.replicate (l[j].t - l[j].f).toNat l[j].k := by
  rw [List.take_succ_eq_append_getElem h]; unfold kindsR; rw [List.flatMap_append]; simp only [List.flatMap_cons, List.flatMap_nil, List.append_nil]
theorem kindsR_len {l : List Rec} (h : ∀ r ∈ l, 0 ≤ r.f ∧ r.t ≤ 40320) : (kindsR l).length ≤ l.length * 40320 := by
  induction l with
  | nil => simp [kindsR]
  | cons x t ih =>
    have h1 := ih fun r hr => h r (List.mem_cons_of_mem _ hr)
    have h2 := h x List.mem_cons_self
    have : kindsR (x :: t) = List.replicate (x.t - x.f).toNat x.k ++ kindsR t := by simp [kindsR]
    rw [this]; simp; omega
theorem s158 {lo : Nat} {l : List Rec} {h : H} (hl : l.length ≤ 1000000) (hm : ∀ r ∈ l, 0 ≤ r.f ∧ r.t ≤ 40320) : den cx lo 158 [AM.vs .dead 3 (recs l)] h = some (AM.vs .dead 1 (ints (kindsR l)), h) := by
  refine den_pure (fn := Tryz.f158) (by rfl) (by rfl) (by rfl) (by rfl) (by simp [Tryz.f158]) (by simp) ?_
  simp (maxSteps := 2000000) (disch := first | omega | (simp; done) | (simp; omega) | assumption) [Tryz.f158, argsE]
  obtain ⟨I, hI⟩ : ∃ I : Nat → List Ent → List (Nat × List V) → H → Prop, I = (fun n vs lb g => ∃ (j : Nat) (t : Tk), n + j = l.length ∧ Apd h.length g t ∧ h.length ≤ g.length ∧ vs = [.v (.i j), .v (AM.vs t 1 (ints (kindsR (l.take j))))] ∧ lb = []) := ⟨_, rfl⟩
  refine Wp.loopQ I (n := l.length) (by rw [hI]; exact ⟨0, .nil, by simp, by simp, by simp, by simp [kindsR, ints], by simp⟩) ?_
  intro n vs lb g hi Q hQ; rw [hI] at hi; obtain ⟨j, t, hj, ha, hg, rfl, rfl⟩ := hi
  by_cases hlt : j < l.length
  · have go : ∀ g' t', Apd h.length g' t' → h.length ≤ g'.length → I (n - 1) [.v (.i ((j : Int) + 1)), .v (AM.vs t' 1 (ints (kindsR (l.take j) ++ List.replicate (l[j].t - l[j].f).toNat l[j].k)))] [] g' := by
      intro g' t' h1 h2; rw [hI]; exact ⟨j + 1, t', by omega, h1, h2, by rw [kindsR_take hlt]; simp, rfl⟩
    clear hI
    have hxm := hm _ (List.getElem_mem hlt)
    have hkl := kindsR_len (l := l.take j) fun r hr => hm r (List.mem_of_mem_take hr)
    have htl : (l.take j).length ≤ j := by simp; omega
    obtain ⟨K, hK⟩ : ∃ K, kindsR (l.take j) = K := ⟨_, rfl⟩
    rw [hK] at go hkl ⊢
    clear hK
    obtain ⟨x, hx⟩ : ∃ x, l[j] = x := ⟨_, rfl⟩
    rw [hx] at go hxm
    simp (maxSteps := 2000000) (disch := first | omega | (simp; done) | (simp; omega) | assumption) [hlt, recs, Rec.v, hx, isC, wrap64]
    obtain ⟨J, hJ⟩ : ∃ J : Nat → List Ent → List (Nat × List V) → H → Prop, J = (fun n vs lb g' => ∃ (i : Nat) (t' : Tk), n + i = (x.t - x.f).toNat ∧ Apd h.length g' t' ∧ h.length ≤ g'.length ∧ vs = [.v (.i (x.f + i)), .v (AM.vs t' 1 (ints (K ++ List.replicate i x.k)))] ∧ lb = []) := ⟨_, rfl⟩
    refine Wp.loopQ J (n := (x.t - x.f).toNat) (by rw [hJ]; exact ⟨0, t, by simp, ha, hg, by simp, by simp⟩) ?_
    intro n2 vs lb g' hi Q2 hQ2; rw [hJ] at hi; obtain ⟨i, t', hi, ha', hg', rfl, rfl⟩ := hi
    by_cases hlt2 : i < (x.t - x.f).toNat
    · have go2 : J (n2 - 1) [.v (.i (x.f + (i : Int) + 1)), .v (AM.vs (.tip g'.length) 1 (ints (K ++ List.replicate (i + 1) x.k)))] [] (apH g' t') := by
        rw [hJ]; exact ⟨i + 1, .tip g'.length, by omega, Apd_ap hg', by simp; omega, by simp; omega, rfl⟩
      clear hJ go
      rw [show List.replicate (i + 1) x.k = List.replicate i x.k ++ [x.k] from List.replicate_succ', ← List.append_assoc, ints_snoc] at go2
      have hc : x.f + (i : Int) < x.t := by omega
      have hil : i ≤ 40320 := by omega
      have hbl : ((ints (K ++ List.replicate i x.k)).length + 1) * 8 ≤ 70368744177664 := by simp [ints]; omega
      obtain ⟨Z, hZ⟩ : ∃ Z, ints (K ++ List.replicate i x.k) = Z := ⟨_, rfl⟩
      rw [hZ] at go2 hbl ⊢
      simp (maxSteps := 2000000) (disch := first | omega | (simp; done) | (simp; omega) | assumption) [hlt, recs, Rec.v, hx, isC, wrap64, hc, elemsV, boxV, boxO, fresh, Ent.isLp, List.filter_cons, setB, aggN, op_build, List.set]
      exact ⟨n2 - 1, by omega, go2⟩
    · have hc : ¬ (x.f + (i : Int) < x.t) := by omega
      have hi' : (x.t - x.f).toNat = i := by omega
      rw [hi'] at go
      have go := go _ _ ha' hg'
      clear hJ hQ
      simp (maxSteps := 2000000) (disch := first | omega | (simp; done) | (simp; omega) | assumption) [hlt, recs, Rec.v, hx, isC, wrap64, hc]
      refine hQ2 _ _ ?_
      simp (maxSteps := 2000000) (disch := first | omega | (simp; done) | (simp; omega) | assumption) [wrap64]
      exact ⟨n - 1, by omega, go⟩
  · rw [List.take_of_length_le (by omega)]
    have hlt' : ¬ ((j : Int) < l.length) := by omega
    clear hI
    simp (maxSteps := 2000000) (disch := first | omega | (simp; done) | (simp; omega) | assumption) [hlt, hlt']
    refine hQ _ _ ?_
    simp (maxSteps := 2000000) (disch := first | omega | (simp; done) | (simp; omega) | assumption) [Cl1_tup, Cl1_agg, Cl1_vs]
def ofK : List Rec → Int → List Int → List Rec
  | a, _, [] => a
  | a, m, k :: r => ofK (addR a ⟨k, m, m + 1⟩) (m + 1) r
theorem s207 {lo : Nat} {at0 : Int} {l : List Int} {h : H} (h0 : 0 ≤ at0) (h1 : at0 ≤ 100000000) (hl : l.length ≤ 100000000000) : den cx lo 207 [.i at0, AM.vs .dead 1 (ints l)] h = some (AM.vs .dead 3 (recs (ofK [] at0 l)), h) := by
  refine den_pure (fn := Tryz.f207) (by rfl) (by rfl) (by rfl) (by rfl) (by simp [Tryz.f207]) (by simp) ?_
  obtain ⟨v, hv⟩ : ∃ v, ofK [] at0 l = v := ⟨_, rfl⟩
  rw [hv]
  simp (maxSteps := 2000000) (disch := first | omega | (simp; done) | (simp; omega) | assumption) [Tryz.f207, argsE]
  obtain ⟨I, hI⟩ : ∃ I : Nat → List Ent → List (Nat × List V) → H → Prop, I = (fun n vs lb g => ∃ (j : Nat) (W : List Rec) (X : V), n + j = l.length ∧ W.length ≤ j ∧ ofK W (at0 + j) (l.drop j) = v ∧ RowR h g W X ∧ vs = [.v X, .v (.i j)] ∧ lb = []) := ⟨_, rfl⟩
  refine Wp.loopQ I (n := l.length) (by rw [hI]; exact ⟨0, [], AM.vs .nil 0 [], by simp, by simp, by simpa using hv, ⟨Nat.le_refl _, .inl ⟨rfl, rfl⟩⟩, by simp, by simp⟩) ?_
  intro n vs lb g hi Q hQ; rw [hI] at hi; obtain ⟨j, W, X, hj, hw, ha, hr, rfl, rfl⟩ := hi
  have hX := hr.val
  by_cases hlt : j < l.length
  · have go : ∀ g' W' X', ofK W' (at0 + j + 1) (l.drop (j + 1)) = v → W'.length ≤ j + 1 → RowR h g' W' X' → I (n - 1) [.v X', .v (.i ((j : Int) + 1))] [] g' := by
      intro g' W' X' h1 h2 h3; rw [hI]; exact ⟨j + 1, W', X', by omega, h2, by rw [← h1]; congr 1; omega, h3, by simp, rfl⟩
    clear hI
    obtain ⟨k, hx⟩ : ∃ k, l[j] = k := ⟨_, rfl⟩
    rw [List.drop_eq_getElem_cons hlt, hx] at ha
    simp only [ofK] at ha
    have hwl := addR_len (a := W) (r := ⟨k, at0 + j, at0 + j + 1⟩)
    clear hv
    obtain ⟨hg, ⟨rfl, rfl⟩ | ⟨hne, b, rfl, hb1, hb2⟩⟩ := hr
    · have go := go (g ++ [.cells [.i k, .i (at0 + j), .i (at0 + j + 1)]]) [⟨k, at0 + j, at0 + j + 1⟩] (.msl g.length 0 1 3) (by simpa using ha) (by simp) ⟨by simp; omega, .inr ⟨by simp, g.length, by simp, hg, by simp [rc, recs, Rec.v]⟩⟩
      clear ha hQ
      simp (maxSteps := 2000000) (disch := first | omega | (simp; done) | (simp; omega) | assumption) [hlt, ints, hx, isC, wrap64, boxV, boxO, fresh_no, List.filter_cons, setB, aggN, op_build, List.set, foot, Op.operands, opTmps, elemsV, push, hg]
      exact ⟨indep_of bf207_6 (by rfl), n - 1, by omega, go⟩
    · obtain ⟨W0, y, rfl⟩ : ∃ W0 y, W = W0 ++ [y] := ⟨W.dropLast, W.getLast hne, (List.dropLast_concat_getLast hne).symm⟩
      rw [rc_snoc] at hb2
      have hbg := cellsAt_lt hb2
      rw [addR_snoc] at ha hwl
      have hk : ((W0.length : Int) + 1) - 1 = W0.length := by omega
      have hwm : W0.length < 100000000000 := by simp at hw; omega
      simp only [List.length_append, List.length_cons, List.length_nil] at *
      have hps : (0 : Int) < (W0.length : Int) + 1 := by omega
      by_cases q : y.k = k
      · rw [if_pos q] at ha hwl
        have go := go (g.set b (.cells (rc W0 ++ [.i y.k, .i y.f, .i (at0 + j + 1)]))) _ (.msl b 0 (W0.length + 1) 3) ha (by simp; omega) ⟨by simp; omega, .inr ⟨by simp, b, by simp, hb1, by rw [cellsAt_set hbg]; simp [rc_snoc]⟩⟩
        rw [q] at go
        clear ha hQ
        simp (maxSteps := 2000000) (disch := first | omega | (simp; done) | (simp; omega) | assumption) [hlt, ints, hx, isC, wrap64, boxV, boxO, fresh_no, List.filter_cons, setB, aggN, op_build, List.set, foot, Op.operands, opTmps, hk, hb1, hb2, rc_get0, rc_set2, q, hps]
        exact ⟨indep_of bf207_6 (by rfl), n - 1, by omega, go⟩
      · rw [if_neg q] at ha hwl
        have go := go (g.set b .dead ++ [.cells (rc W0 ++ [.i y.k, .i y.f, .i y.t, .i k, .i (at0 + j), .i (at0 + j + 1)])]) _ (.msl g.length 0 (W0.length + 1 + 1) 3) ha (by simp; omega) ⟨by simp; omega, .inr ⟨by simp, g.length, by simp, hg, by rw [cellsAt_push' (by simp), rc_snoc, rc_snoc]; simp⟩⟩
        have ham := fun (env : List (Nat × Ent)) (lbx : List (Nat × List V)) => am25 (lo := h.length) (k := b) (n := W0.length + 1) (m := true) (st := ⟨env, lbx, g⟩) (tk' := .full) (l' := [.agg [.i k, .i (at0 + j), .i (at0 + j + 1)]]) hb1 hb2 (by simp; omega) (by simp) (by simp; omega)
        clear ha hQ
        simp (maxSteps := 2000000) (disch := first | omega | (simp; done) | (simp; omega) | assumption) [hlt, ints, hx, isC, wrap64, boxV, boxO, fresh_no, List.filter_cons, setB, aggN, op_build, List.set, foot, Op.operands, opTmps, elemsV, push, hk, hb1, hb2, rc_get0, q, ham, hps]
        exact ⟨indep_of bf207_6 (by rfl), n - 1, by omega, go⟩
  · rw [List.drop_of_length_le (by omega)] at ha
    simp only [ofK] at ha
    subst ha
    have hf := hr.fin
    clear hI hr
    have hlt' : ¬ ((j : Int) < l.length) := by omega
    simp (maxSteps := 2000000) (disch := first | omega | (simp; done) | (simp; omega) | assumption) [hlt, hlt', hX]
    refine hQ _ _ ?_
    simp (maxSteps := 2000000) (disch := first | omega | (simp; done) | (simp; omega) | assumption) [hX, hf]
end ZD
open Go Go.AM Go.Proofs Go.AM.Pl
set_option maxRecDepth 100000
set_option maxHeartbeats 4000000
namespace ZD
theorem scan_all {α β : Type} {f : Nat → α → Option β} : ∀ (l : List α) (k : Nat), scan f k l = none → ∀ i (h : i < l.length), f (k + i) l[i] = none
  | [], _, _, i, h => absurd h (by simp)
  | x :: t, k, hs, i, h => by
    simp only [scan] at hs
    split at hs
    · simp at hs
    · rename_i e
      cases i with
      | zero => exact e
      | succ i => have := scan_all t (k + 1) hs i (by simpa using h); rw [show k + (i + 1) = k + 1 + i by omega]; simpa using this
theorem scan_some {α β : Type} {f : Nat → α → Option β} {e : β} : ∀ (l : List α) (k : Nat), scan f k l = some e → ∃ i x, f i x = some e ∧ x ∈ l
  | [], _, hs => by simp [scan] at hs
  | x :: t, k, hs => by
    simp only [scan] at hs
    split at hs
    · rename_i e1; exact ⟨k, x, by rw [e1, hs], by simp⟩
    · obtain ⟨i, y, h1, h2⟩ := scan_some t (k + 1) hs; exact ⟨i, y, h1, by simp [h2]⟩
theorem recF_ne {l : List Rec} {j : Nat} {r : Rec} {e : Int × Int} (h : recF l j r = some e) : e.2 ≠ 0 := by
  unfold recF at h
  split at h
  · cases h; assumption
  split at h
  · cases h; simp
  split at h
  · cases h; simp
  · simp at h
theorem recsC_none {l : List Rec} (h : (recsC l).2 = 0) : ∀ i (hi : i < l.length), recF l i l[i] = none := by
  unfold recsC at h
  cases hs : scan (recF l) 0 l with
  | none => intro i hi; have := scan_all l 0 hs i hi; simpa using this
  | some e =>
    obtain ⟨i, x, h1, _⟩ := scan_some l 0 hs
    rw [hs] at h; exact absurd h (recF_ne h1)
theorem recE0 {r : Rec} (h : recE r = 0) : 0 ≤ r.k ∧ r.k < 4 ∧ 0 ≤ r.f ∧ r.t ≤ 40320 ∧ r.f < r.t := by
  unfold recE at h
  split at h
  case isFalse => simp at h
  rename_i h1
  split at h
  case isFalse => simp at h
  rename_i h2
  split at h
  case isFalse => simp at h
  rename_i h3
  split at h
  · simp at h
  · simp [kOk, inR] at h1 h2 h3; omega
/-- Records that hang together, from a minute on. -/
def Chn : Int → List Rec → Prop
  | _, [] => True
  | m, r :: t => r.f = m ∧ r.f < r.t ∧ 0 ≤ r.k ∧ r.k < 4 ∧ 0 ≤ r.f ∧ r.t ≤ 40320 ∧ Chn r.t t
def begR (l : List Rec) : Int := match l with | [] => 0 | r :: _ => r.f
theorem chn_of : ∀ (l : List Rec) (m : Int), (∀ i (h : i < l.length), recE l[i] = 0) → (∀ i (h : i + 1 < l.length), l[i + 1].f = l[i].t) → (∀ h : 0 < l.length, l[0].f = m) → Chn m l
  | [], _, _, _, _ => trivial
  | x :: t, m, h1, h2, h3 => by
    have e := recE0 (h1 0 (by simp))
    refine ⟨h3 (by simp), e.2.2.2.2, e.1, e.2.1, e.2.2.1, e.2.2.2.1, chn_of t _ (fun i h => h1 (i + 1) (by simpa using h)) (fun i h => h2 (i + 1) (by simpa using h)) fun h => ?_⟩
    have := h2 0 (by simpa using h); simpa using this
theorem recsC_chn {l : List Rec} (h : (recsC l).2 = 0) : Chn (begR l) l := by
  have hn := recsC_none h
  have h1 : ∀ i (hi : i < l.length), recE l[i] = 0 := by
    intro i hi; have := hn i hi; unfold recF at this; split at this
    · simp at this
    · rename_i q; simpa using q
  refine chn_of l _ h1 (fun i hi => ?_) fun h0 => ?_
  · have := hn (i + 1) hi
    unfold recF at this
    rw [if_neg (by simpa using h1 _ hi), prevT_s (by omega : i < l.length)] at this
    split at this
    · simp at this
    split at this
    · simp at this
    rename_i a b; omega
  · cases l with
    | nil => simp at h0
    | cons r t => rfl
theorem chn_mem : ∀ {l : List Rec} {m : Int}, Chn m l → ∀ r ∈ l, 0 ≤ r.f ∧ r.t ≤ 40320
  | [], _, _, r, hr => by simp at hr
  | x :: t, m, h, r, hr => by
    obtain ⟨_, _, _, _, a, b, c⟩ := h
    rcases List.mem_cons.1 hr with rfl | hr
    · exact ⟨a, b⟩
    · exact chn_mem c r hr
theorem snoc_of {α : Type} (a : List α) : a = [] ∨ ∃ b x, a = b ++ [x] := by
  by_cases h : a = []
  · exact .inl h
  · exact .inr ⟨a.dropLast, a.getLast h, (List.dropLast_concat_getLast h).symm⟩
theorem addR_addR {a : List Rec} {k m t m' t' : Int} : addR (addR a ⟨k, m, t⟩) ⟨k, m', t'⟩ = addR a ⟨k, m, t'⟩ := by
  obtain rfl | ⟨b, x, rfl⟩ := snoc_of a
  · simp [addR]
  · rw [addR_snoc, addR_snoc]
    split
    · rename_i q; rw [addR_snoc, if_pos q]
    · rw [addR_snoc, if_pos rfl]
theorem ofK_rep {k : Int} {r : List Int} : ∀ (n : Nat) (a : List Rec) (m : Int), ofK a m (List.replicate (n + 1) k ++ r) = ofK (addR a ⟨k, m, m + (n + 1 : Nat)⟩) (m + (n + 1 : Nat)) r
  | 0, a, m => by simp [ofK]
  | n + 1, a, m => by
    rw [List.replicate_succ, List.cons_append]
    simp only [ofK]
    rw [ofK_rep n, addR_addR]
    congr 1
    · congr 2; omega
    · omega
theorem ofK_mrg : ∀ (l : List Rec) (a : List Rec) (m : Int), Chn m l → ofK a m (kindsR l) = mrg a l
  | [], a, m, _ => by simp [kindsR, ofK, mrg]
  | x :: t, a, m, h => by
    obtain ⟨h1, h2, _, _, _, _, h3⟩ := h
    have e : kindsR (x :: t) = List.replicate ((x.t - x.f).toNat - 1 + 1) x.k ++ kindsR t := by
      rw [show (x.t - x.f).toNat - 1 + 1 = (x.t - x.f).toNat by omega]; simp [kindsR]
    rw [e, ofK_rep]
    have e2 : m + (((x.t - x.f).toNat - 1 + 1 : Nat) : Int) = x.t := by omega
    rw [e2, ofK_mrg t _ _ h3, ← h1]
    rfl
theorem s193 {lo : Nat} {l : List Rec} {h : H} (hl : l.length ≤ 1000000) : den cx lo 193 [AM.vs .dead 3 (recs l)] h = some (.tup [AM.vs .dead 3 (recs (if (recsC l).2 = 0 then mrg [] l else [])), .i (recsC l).2], h) := by
  have e := fun lo => s145g (lo := lo) (h := h) (l := l) (by omega)
  have e2 := fun lo => s213 (lo := lo) (h := h) (l := l) hl
  refine den_pure (fn := Tryz.f193) (by rfl) (by rfl) (by rfl) (by rfl) (by simp [Tryz.f193]) (by simp) ?_
  by_cases q : (recsC l).2 = 0
  · rw [if_pos q]
    simp (maxSteps := 2000000) (disch := first | omega | (simp; done) | (simp; omega) | assumption) [Tryz.f193, argsE, e, q, isC, e2, Cl1_tup, Cl1_agg, Cl1_vs]
  · rw [if_neg q]
    simp (maxSteps := 2000000) (disch := first | omega | (simp; done) | (simp; omega) | assumption) [Tryz.f193, argsE, e, q, isC, Cl1_tup, Cl1_agg, Cl1_vs]
    rfl
theorem mrg_len : ∀ (l a : List Rec), (mrg a l).length ≤ a.length + l.length
  | [], a => by simp [mrg]
  | x :: t, a => by simp only [mrg, List.length_cons]; have := mrg_len t (addR a x); have := addR_len (a := a) (r := x); omega
theorem s169 {lo : Nat} {l : List Rec} {h : H} (hl : l.length ≤ 1000000) : den cx lo 169 [AM.vs .dead 3 (recs l)] h = some (.b (decide ((recsC l).2 = 0) && decide (mrg [] l = l)), h) := by
  have e := fun lo => s193 (lo := lo) (h := h) hl
  have hm := mrg_len l []
  have e2 := fun lo => s194g (lo := lo) (h := h) (a := mrg [] l) (b := l) (by simp at hm; omega) (by omega)
  refine den_pure (fn := Tryz.f169) (by rfl) (by rfl) (by rfl) (by rfl) (by simp [Tryz.f169]) (by simp) ?_
  by_cases q : (recsC l).2 = 0
  · simp only [q, if_true] at e
    simp (maxSteps := 2000000) (disch := first | omega | (simp; done) | (simp; omega) | assumption) [Tryz.f169, argsE, e, q, isC, e2, Cl1_tup, Cl1_agg, Cl1_vs]
  · simp (maxSteps := 2000000) (disch := first | omega | (simp; done) | (simp; omega) | assumption) [Tryz.f169, argsE, e, q, isC]
theorem s180 {lo : Nat} {l : List Rec} {h : H} (hl : l.length ≤ 1000000) (q : (recsC l).2 = 0) : den cx lo 180 [AM.vs .dead 3 (recs l)] h = some (.tup [AM.vs .dead 3 (recs (mrg [] l)), .i 0], h) := by
  have hc := recsC_chn q
  have hmm := chn_mem hc
  have hkl := kindsR_len hmm
  have hb : 0 ≤ begR l ∧ begR l ≤ 40320 := by
    cases l with
    | nil => simp [begR]
    | cons r t => obtain ⟨_, _, _, _, a, b, _⟩ := hc; simp only [begR]; omega
  have e := fun lo => s146g (lo := lo) (h := h) (l := l) (by omega)
  have e1 : ∀ lo, den cx lo 156 [AM.vs .dead 3 (recs l)] h = some (.i (begR l), h) := fun lo => by
    have := s156 (lo := lo) (h := h) (l := l) (by omega)
    cases l <;> exact this
  have e2 := fun lo => s158 (lo := lo) (h := h) (l := l) hl hmm
  have e3 := fun lo => s207 (lo := lo) (at0 := begR l) (h := h) (l := kindsR l) hb.1 (by omega) (by omega)
  rw [ofK_mrg l [] _ hc] at e3
  refine den_pure (fn := Tryz.f180) (by rfl) (by rfl) (by rfl) (by rfl) (by simp [Tryz.f180]) (by simp) ?_
  simp (maxSteps := 2000000) (disch := first | omega | (simp; done) | (simp; omega) | assumption) [Tryz.f180, argsE, e, q, isC, e1, e2, e3, Cl1_tup, Cl1_agg, Cl1_vs]
end ZD
open Go Go.AM Go.Proofs Go.AM.Pl
set_option maxRecDepth 100000
set_option maxHeartbeats 4000000
namespace ZD
structure Trk where
  id : Int
  home : Int
  room : Int
  fixed : Int
  rate : Int
  past : List Rec
def Trk.v (t : Trk) : V := .agg [.i t.id, .i t.home, .i t.room, .i t.fixed, .i t.rate, AM.vs .dead 3 (recs t.past)]
@[simp] theorem fg_trk (t : Trk) : fg t.v = t.v := by simp [Trk.v, fg, fgL]
def trksV (l : List Trk) : List V := l.map Trk.v
@[simp] theorem fgL_trksV (l : List Trk) : fgL (trksV l) = trksV l := fgL_mapE _ (fun _ => by simp) l
@[simp] theorem trksV_len (l : List Trk) : (trksV l).length = l.length := by simp [trksV]
/-- What is wrong with a truck. -/
def trkC (t : Trk) (n : Int) : Int :=
  if t.id < 1 ∨ 999999 < t.id then 1 else if t.home < 0 ∨ n ≤ t.home then 10
  else if t.room < 0 ∨ 1000000000 < t.room ∨ t.fixed < 0 ∨ 1000000 < t.fixed ∨ t.rate < 0 ∨ 1000000 < t.rate then 4
  else if pastC t.past ≠ 0 then pastC t.past else if mrg [] t.past = t.past then 0 else 18
theorem pastC_recs {l : List Rec} (h : pastC l = 0) : (recsC l).2 = 0 := by
  unfold pastC at h; split at h
  · assumption
  · rename_i q; simpa using q
theorem s138 {lo : Nat} {t : Trk} {n : Int} {h : H} (hl : t.past.length ≤ 1000000) : den cx lo 138 [t.v, .i n] h = some (.i (trkC t n), h) := by
  obtain ⟨a, b, c, d, f, rs⟩ := t
  simp only at hl
  have e := fun lo => s168 (lo := lo) (l := rs) (h := h) (by omega)
  have e2 := fun lo => s169 (lo := lo) (l := rs) (h := h) (by omega)
  refine den_pure (fn := Tryz.f138) (by rfl) (by rfl) (by rfl) (by rfl) (by simp [Tryz.f138]) (by simp) ?_
  by_cases h1 : 1 ≤ a
  case neg => simp (maxSteps := 2000000) (disch := first | omega | (simp; done) | (simp; omega) | assumption) [Tryz.f138, argsE, Trk.v, boxV, boxO, fresh_no, List.filter_cons, setB, aggN, op_build, List.set, isC, s167, trkC, h1, show a < 1 by omega]
  by_cases h2 : a ≤ 999999
  case neg => simp (maxSteps := 2000000) (disch := first | omega | (simp; done) | (simp; omega) | assumption) [Tryz.f138, argsE, Trk.v, boxV, boxO, fresh_no, List.filter_cons, setB, aggN, op_build, List.set, isC, s167, trkC, h1, h2, show 999999 < a by omega]
  by_cases h3 : b < 0
  · simp (maxSteps := 2000000) (disch := first | omega | (simp; done) | (simp; omega) | assumption) [Tryz.f138, argsE, Trk.v, boxV, boxO, fresh_no, List.filter_cons, setB, aggN, op_build, List.set, isC, s167, trkC, h1, h2, h3, show ¬ a < 1 by omega, show ¬ 999999 < a by omega]
  by_cases h4 : n ≤ b
  · simp (maxSteps := 2000000) (disch := first | omega | (simp; done) | (simp; omega) | assumption) [Tryz.f138, argsE, Trk.v, boxV, boxO, fresh_no, List.filter_cons, setB, aggN, op_build, List.set, isC, s167, trkC, h1, h2, h3, h4, show ¬ a < 1 by omega, show ¬ 999999 < a by omega]
  have hh : trkC ⟨a, b, c, d, f, rs⟩ n = if c < 0 ∨ 1000000000 < c ∨ d < 0 ∨ 1000000 < d ∨ f < 0 ∨ 1000000 < f then 4 else if pastC rs ≠ 0 then pastC rs else if mrg [] rs = rs then 0 else 18 := by
    simp only [trkC]; rw [if_neg (by omega), if_neg (by omega)]
  rw [hh]
  by_cases h5 : 0 ≤ c
  case neg =>
    rw [if_pos (by omega)]
    simp (maxSteps := 2000000) (disch := first | omega | (simp; done) | (simp; omega) | assumption) [Tryz.f138, argsE, Trk.v, boxV, boxO, fresh_no, List.filter_cons, setB, aggN, op_build, List.set, isC, s167, h1, h2, h3, h4, h5]
  by_cases h6 : c ≤ 1000000000
  case neg =>
    rw [if_pos (by omega)]
    simp (maxSteps := 2000000) (disch := first | omega | (simp; done) | (simp; omega) | assumption) [Tryz.f138, argsE, Trk.v, boxV, boxO, fresh_no, List.filter_cons, setB, aggN, op_build, List.set, isC, s167, h1, h2, h3, h4, h5, h6]
  by_cases h7 : 0 ≤ d
  case neg =>
    rw [if_pos (by omega)]
    simp (maxSteps := 2000000) (disch := first | omega | (simp; done) | (simp; omega) | assumption) [Tryz.f138, argsE, Trk.v, boxV, boxO, fresh_no, List.filter_cons, setB, aggN, op_build, List.set, isC, s167, h1, h2, h3, h4, h5, h6, h7]
  by_cases h8 : d ≤ 1000000
  case neg =>
    rw [if_pos (by omega)]
    simp (maxSteps := 2000000) (disch := first | omega | (simp; done) | (simp; omega) | assumption) [Tryz.f138, argsE, Trk.v, boxV, boxO, fresh_no, List.filter_cons, setB, aggN, op_build, List.set, isC, s167, h1, h2, h3, h4, h5, h6, h7, h8]
  by_cases h9 : 0 ≤ f
  case neg =>
    rw [if_pos (by omega)]
    simp (maxSteps := 2000000) (disch := first | omega | (simp; done) | (simp; omega) | assumption) [Tryz.f138, argsE, Trk.v, boxV, boxO, fresh_no, List.filter_cons, setB, aggN, op_build, List.set, isC, s167, h1, h2, h3, h4, h5, h6, h7, h8, h9]
  by_cases h10 : f ≤ 1000000
  case neg =>
    rw [if_pos (by omega)]
    simp (maxSteps := 2000000) (disch := first | omega | (simp; done) | (simp; omega) | assumption) [Tryz.f138, argsE, Trk.v, boxV, boxO, fresh_no, List.filter_cons, setB, aggN, op_build, List.set, isC, s167, h1, h2, h3, h4, h5, h6, h7, h8, h9, h10]
  rw [if_neg (by omega)]
  by_cases q : pastC rs = 0
  case neg =>
    rw [if_pos q]
    simp (maxSteps := 2000000) (disch := first | omega | (simp; done) | (simp; omega) | assumption) [Tryz.f138, argsE, Trk.v, boxV, boxO, fresh_no, List.filter_cons, setB, aggN, op_build, List.set, isC, s167, h1, h2, h3, h4, h5, h6, h7, h8, h9, h10, e, q]
  rw [if_neg (by simpa using q)]
  have q1 := pastC_recs q
  by_cases q2 : mrg [] rs = rs
  · rw [if_pos q2]
    simp only [q1, q2] at e2
    simp (maxSteps := 2000000) (disch := first | omega | (simp; done) | (simp; omega) | assumption) [Tryz.f138, argsE, Trk.v, boxV, boxO, fresh_no, List.filter_cons, setB, aggN, op_build, List.set, isC, s167, h1, h2, h3, h4, h5, h6, h7, h8, h9, h10, e, q, e2]
  · rw [if_neg q2]
    simp only [q1, q2] at e2
    simp (maxSteps := 2000000) (disch := first | omega | (simp; done) | (simp; omega) | assumption) [Tryz.f138, argsE, Trk.v, boxV, boxO, fresh_no, List.filter_cons, setB, aggN, op_build, List.set, isC, s167, h1, h2, h3, h4, h5, h6, h7, h8, h9, h10, e, q, e2]
theorem s155 {lo : Nat} {t : Trk} {n : Int} {h : H} (hl : t.past.length ≤ 1000000) : den cx lo 155 [t.v, .i n] h = some (.i (trkC t n), h) := by
  obtain ⟨a, b, c, d, f, rs⟩ := t
  simp only at hl
  have e := fun lo => s179 (lo := lo) (l := rs) (h := h) (by omega)
  have hm := mrg_len rs []
  have e2 := fun lo => s53g (lo := lo) (h := h) (a := mrg [] rs) (b := rs) (by simp at hm; omega) (by omega)
  refine den_pure (fn := Tryz.f155) (by rfl) (by rfl) (by rfl) (by rfl) (by simp [Tryz.f155]) (by simp) ?_
  by_cases h1 : a < 1
  · simp (maxSteps := 2000000) (disch := first | omega | (simp; done) | (simp; omega) | assumption) [Tryz.f155, argsE, Trk.v, boxV, boxO, fresh_no, List.filter_cons, setB, aggN, op_build, List.set, isC, trkC, h1]
  by_cases h2 : 999999 < a
  · simp (maxSteps := 2000000) (disch := first | omega | (simp; done) | (simp; omega) | assumption) [Tryz.f155, argsE, Trk.v, boxV, boxO, fresh_no, List.filter_cons, setB, aggN, op_build, List.set, isC, trkC, h1, h2]
  by_cases h3 : b < 0
  · simp (maxSteps := 2000000) (disch := first | omega | (simp; done) | (simp; omega) | assumption) [Tryz.f155, argsE, Trk.v, boxV, boxO, fresh_no, List.filter_cons, setB, aggN, op_build, List.set, isC, trkC, h1, h2, h3]
  by_cases h4 : n ≤ b
  · simp (maxSteps := 2000000) (disch := first | omega | (simp; done) | (simp; omega) | assumption) [Tryz.f155, argsE, Trk.v, boxV, boxO, fresh_no, List.filter_cons, setB, aggN, op_build, List.set, isC, trkC, h1, h2, h3, h4]
  have hh : trkC ⟨a, b, c, d, f, rs⟩ n = if c < 0 ∨ 1000000000 < c ∨ d < 0 ∨ 1000000 < d ∨ f < 0 ∨ 1000000 < f then 4 else if pastC rs ≠ 0 then pastC rs else if mrg [] rs = rs then 0 else 18 := by
    simp only [trkC]; rw [if_neg (by omega), if_neg (by omega)]
  rw [hh]
  by_cases h5 : c < 0
  · rw [if_pos (by omega)]
    simp (maxSteps := 2000000) (disch := first | omega | (simp; done) | (simp; omega) | assumption) [Tryz.f155, argsE, Trk.v, boxV, boxO, fresh_no, List.filter_cons, setB, aggN, op_build, List.set, isC, h1, h2, h3, h4, h5]
  by_cases h6 : 1000000000 < c
  · rw [if_pos (by omega)]
    simp (maxSteps := 2000000) (disch := first | omega | (simp; done) | (simp; omega) | assumption) [Tryz.f155, argsE, Trk.v, boxV, boxO, fresh_no, List.filter_cons, setB, aggN, op_build, List.set, isC, h1, h2, h3, h4, h5, h6]
  by_cases h7 : d < 0
  · rw [if_pos (by omega)]
    simp (maxSteps := 2000000) (disch := first | omega | (simp; done) | (simp; omega) | assumption) [Tryz.f155, argsE, Trk.v, boxV, boxO, fresh_no, List.filter_cons, setB, aggN, op_build, List.set, isC, h1, h2, h3, h4, h5, h6, h7]
  by_cases h8 : 1000000 < d
  · rw [if_pos (by omega)]
    simp (maxSteps := 2000000) (disch := first | omega | (simp; done) | (simp; omega) | assumption) [Tryz.f155, argsE, Trk.v, boxV, boxO, fresh_no, List.filter_cons, setB, aggN, op_build, List.set, isC, h1, h2, h3, h4, h5, h6, h7, h8]
  by_cases h9 : f < 0
  · rw [if_pos (by omega)]
    simp (maxSteps := 2000000) (disch := first | omega | (simp; done) | (simp; omega) | assumption) [Tryz.f155, argsE, Trk.v, boxV, boxO, fresh_no, List.filter_cons, setB, aggN, op_build, List.set, isC, h1, h2, h3, h4, h5, h6, h7, h8, h9]
  by_cases h10 : 1000000 < f
  · rw [if_pos (by omega)]
    simp (maxSteps := 2000000) (disch := first | omega | (simp; done) | (simp; omega) | assumption) [Tryz.f155, argsE, Trk.v, boxV, boxO, fresh_no, List.filter_cons, setB, aggN, op_build, List.set, isC, h1, h2, h3, h4, h5, h6, h7, h8, h9, h10]
  rw [if_neg (by omega)]
  by_cases q : pastC rs = 0
  case neg =>
    rw [if_pos q]
    simp (maxSteps := 2000000) (disch := first | omega | (simp; done) | (simp; omega) | assumption) [Tryz.f155, argsE, Trk.v, boxV, boxO, fresh_no, List.filter_cons, setB, aggN, op_build, List.set, isC, h1, h2, h3, h4, h5, h6, h7, h8, h9, h10, e, q]
  rw [if_neg (by simpa using q)]
  have q1 := pastC_recs q
  have e3 := fun lo => s180 (lo := lo) (l := rs) (h := h) hl q1
  by_cases q2 : mrg [] rs = rs
  · rw [if_pos q2]
    simp only [q2] at e2
    rw [q2] at e3
    simp (maxSteps := 2000000) (disch := first | omega | (simp; done) | (simp; omega) | assumption) [Tryz.f155, argsE, Trk.v, boxV, boxO, fresh_no, List.filter_cons, setB, aggN, op_build, List.set, isC, h1, h2, h3, h4, h5, h6, h7, h8, h9, h10, e, q, e2, e3]
  · rw [if_neg q2]
    simp only [q2] at e2
    simp (maxSteps := 2000000) (disch := first | omega | (simp; done) | (simp; omega) | assumption) [Tryz.f155, argsE, Trk.v, boxV, boxO, fresh_no, List.filter_cons, setB, aggN, op_build, List.set, isC, h1, h2, h3, h4, h5, h6, h7, h8, h9, h10, e, q, e2, e3]
end ZD
open Go Go.AM Go.Proofs Go.AM.Pl
set_option maxRecDepth 100000
set_option maxHeartbeats 4000000
namespace ZD
theorem trkC_id {o : Trk} {n : Int} (h : trkC o n = 0) : 1 ≤ o.id := by
  unfold trkC at h; split at h
  · simp at h
  · omega
def pidT (l : List Trk) (j : Nat) : Int := if j = 0 then 0 else (l.getD (j - 1) ⟨0, 0, 0, 0, 0, []⟩).id
theorem pidT_s {l : List Trk} {j : Nat} (h : j < l.length) : pidT l (j + 1) = l[j].id := by simp [pidT, List.getD, h]
def trkF (l : List Trk) (n : Int) (j : Nat) (o : Trk) : Option (Int × Int) :=
  if trkC o n ≠ 0 then some (j, trkC o n) else if o.id = pidT l j then some (j, 11) else if o.id < pidT l j then some (j, 18) else none
def trksC (l : List Trk) (n : Int) : Int × Int := if 100 < l.length then (0, 12) else (scan (trkF l n) 0 l).getD (0, 0)
theorem s83 {lo : Nat} {l : List Trk} {n : Int} {h : H} (hb : l.length ≤ 100000000) (hl : ∀ o ∈ l, o.past.length ≤ 1000000) : den cx lo 83 [AM.vs .dead 6 (trksV l), .i n] h = some (.tup [.i (trksC l n).1, .i (trksC l n).2], h) := by
  refine den_pure (fn := Tryz.f83) (by rfl) (by rfl) (by rfl) (by rfl) (by simp [Tryz.f83]) (by simp) ?_
  by_cases h0 : 100 < l.length
  · have h0' : (100 : Int) < (l.length : Int) := by omega
    simp (maxSteps := 2000000) (disch := first | omega | (simp; done) | (simp; omega) | assumption) [Tryz.f83, argsE, isC, h0, h0', trksC, Cl1_tup, Cl1_agg, Cl1_vs]
  have h0' : ¬ ((100 : Int) < (l.length : Int)) := by omega
  obtain ⟨v, hv⟩ : ∃ v, scan (trkF l n) 0 l = v := ⟨_, rfl⟩
  simp only [trksC, h0, if_false, hv]
  simp (maxSteps := 2000000) (disch := first | omega | (simp; done) | (simp; omega) | assumption) [Tryz.f83, argsE, isC, h0, h0']
  obtain ⟨I, hI⟩ : ∃ I : Nat → List Ent → List (Nat × List V) → H → Prop, I = (fun n' vs lb g => ∃ j : Nat, n' + j = l.length ∧ (scan (trkF l n) j (l.drop j) = v) ∧ vs = [.v (.i j), .v (.i (pidT l j))] ∧ lb = [] ∧ g = h) := ⟨_, rfl⟩
  refine Wp.loopQ I (n := l.length) (by rw [hI]; exact ⟨0, by simp, hv, by simp [pidT], by simp, by simp⟩) ?_
  intro n' vs lb g hi Q hQ; rw [hI] at hi; obtain ⟨j, hj, ha, rfl, rfl, rfl⟩ := hi
  have go : ∀ (hlt : j < l.length), (scan (trkF l n) (j + 1) (l.drop (j + 1)) = v) → I (n' - 1) [.v (.i ((j : Int) + 1)), .v (.i (l[j].id))] [] g := fun hlt q => by rw [hI]; exact ⟨j + 1, by omega, q, by simp [pidT_s hlt], by simp, rfl⟩
  clear hI
  obtain ⟨p, hp⟩ : ∃ p, pidT l j = p := ⟨_, rfl⟩
  rw [hp]
  by_cases hlt : j < l.length
  · have go := go hlt
    obtain ⟨x, hx⟩ : ∃ x, l[j] = x := ⟨_, rfl⟩
    have e := fun lo => s138 (lo := lo) (t := x) (n := n) (h := g) (by rw [← hx]; exact hl _ (List.getElem_mem hlt))
    rw [hx] at go
    have hmap : (List.map Trk.v l)[j]? = some x.v := by simp [hlt, hx]
    obtain ⟨a, b, c, d, f, os⟩ := x
    by_cases a1 : trkC ⟨a, b, c, d, f, os⟩ n = 0
    case neg =>
      have e0 := scan_hit (f := trkF l n) (e := (j, trkC ⟨a, b, c, d, f, os⟩ n)) hlt (by rw [hx]; simp [trkF, a1]) ha
      subst e0
      simp only [Trk.v] at e
      clear go ha hv
      simp (maxSteps := 2000000) (disch := first | omega | (simp; done) | (simp; omega) | assumption) [hlt, trksV, Trk.v, hx, isC, a1, e, wrap64, boxV, boxO, fresh_no, List.filter_cons, setB, aggN, op_build, List.set]
      refine hQ _ _ ?_
      simp (maxSteps := 2000000) (disch := first | omega | (simp; done) | (simp; omega) | assumption) [Cl1_tup, Cl1_agg, Cl1_vs]
    by_cases a2 : a = p
    · have e0 := scan_hit (f := trkF l n) (e := (j, 11)) hlt (by rw [hx]; simp only [trkF]; rw [if_neg (by simpa using a1), if_pos (by rw [hp]; exact a2)]) ha
      subst e0
      simp only [Trk.v] at e
      clear go ha hv
      subst a2
      simp (maxSteps := 2000000) (disch := first | omega | (simp; done) | (simp; omega) | assumption) [hlt, trksV, Trk.v, hx, isC, a1, e, wrap64, boxV, boxO, fresh_no, List.filter_cons, setB, aggN, op_build, List.set]
      refine hQ _ _ ?_
      simp (maxSteps := 2000000) (disch := first | omega | (simp; done) | (simp; omega) | assumption) [Cl1_tup, Cl1_agg, Cl1_vs]
    by_cases a3 : a < p
    · have e0 := scan_hit (f := trkF l n) (e := (j, 18)) hlt (by rw [hx]; simp [trkF, a1, hp, a2, a3]) ha
      subst e0
      simp only [Trk.v] at e
      clear go ha hv
      simp (maxSteps := 2000000) (disch := first | omega | (simp; done) | (simp; omega) | assumption) [hlt, trksV, Trk.v, hx, isC, a1, a2, a3, e, wrap64, boxV, boxO, fresh_no, List.filter_cons, setB, aggN, op_build, List.set]
      refine hQ _ _ ?_
      simp (maxSteps := 2000000) (disch := first | omega | (simp; done) | (simp; omega) | assumption) [Cl1_tup, Cl1_agg, Cl1_vs]
    · have go := go (scan_go (f := trkF l n) hlt (by rw [hx]; simp [trkF, a1, hp, a2, a3]) ha)
      simp only [Trk.v] at e
      clear ha hv
      simp (maxSteps := 2000000) (disch := first | omega | (simp; done) | (simp; omega) | assumption) [hlt, trksV, Trk.v, hx, isC, a1, a2, a3, e, wrap64, boxV, boxO, fresh_no, List.filter_cons, setB, aggN, op_build, List.set]
      exact ⟨n' - 1, by omega, go⟩
  · have e := scan_end (by omega) ha
    subst e
    clear go ha hv
    have hlt' : ¬ ((j : Int) < l.length) := by omega
    simp (maxSteps := 2000000) (disch := first | omega | (simp; done) | (simp; omega) | assumption) [hlt, hlt']
    refine hQ _ _ ?_
    simp (maxSteps := 2000000) (disch := first | omega | (simp; done) | (simp; omega) | assumption) [Cl1_tup, Cl1_agg, Cl1_vs]
theorem s120 {lo : Nat} {l : List Trk} {n : Int} {h : H} (hb : l.length ≤ 100000000) (hl : ∀ o ∈ l, o.past.length ≤ 1000000) : den cx lo 120 [AM.vs .dead 6 (trksV l), .i n] h = some (.tup [.i (trksC l n).1, .i (trksC l n).2], h) := by
  refine den_pure (fn := Tryz.f120) (by rfl) (by rfl) (by rfl) (by rfl) (by simp [Tryz.f120]) (by simp) ?_
  by_cases h0 : 100 < l.length
  · have h0' : (100 : Int) < (l.length : Int) := by omega
    simp (maxSteps := 2000000) (disch := first | omega | (simp; done) | (simp; omega) | assumption) [Tryz.f120, argsE, isC, h0, h0', trksC, Cl1_tup, Cl1_agg, Cl1_vs]
  have h0' : ¬ ((100 : Int) < (l.length : Int)) := by omega
  obtain ⟨v, hv⟩ : ∃ v, scan (trkF l n) 0 l = v := ⟨_, rfl⟩
  simp only [trksC, h0, if_false, hv]
  simp (maxSteps := 2000000) (disch := first | omega | (simp; done) | (simp; omega) | assumption) [Tryz.f120, argsE, isC, h0, h0']
  obtain ⟨I, hI⟩ : ∃ I : Nat → List Ent → List (Nat × List V) → H → Prop, I = (fun n' vs lb g => ∃ j : Nat, n' + j = l.length ∧ (scan (trkF l n) j (l.drop j) = v) ∧ vs = [.v (.i (j : Int))] ∧ lb = [] ∧ g = h) := ⟨_, rfl⟩
  refine Wp.loopQ I (n := l.length) (by rw [hI]; exact ⟨0, by simp, hv, by simp, by simp, by simp⟩) ?_
  intro n' vs lb g hi Q hQ; rw [hI] at hi; obtain ⟨j, hj, ha, rfl, rfl, rfl⟩ := hi
  have go : j < l.length → (scan (trkF l n) (j + 1) (l.drop (j + 1)) = v) → I (n' - 1) [.v (.i ((j : Int) + 1))] [] g := fun hlt q => by rw [hI]; exact ⟨j + 1, by omega, q, by simp, by simp, rfl⟩
  clear hI
  by_cases hlt : j < l.length
  · have go := go hlt
    obtain ⟨x, hx⟩ : ∃ x, l[j] = x := ⟨_, rfl⟩
    have e := fun lo => s155 (lo := lo) (t := x) (n := n) (h := g) (by rw [← hx]; exact hl _ (List.getElem_mem hlt))
    by_cases a1 : trkC x n = 0
    case neg =>
      have e0 := scan_hit (f := trkF l n) (e := (j, trkC x n)) hlt (by rw [hx]; simp [trkF, a1]) ha
      subst e0
      obtain ⟨a, b, c, d, f, os⟩ := x
      simp only [Trk.v] at e
      clear go ha hv
      simp (maxSteps := 2000000) (disch := first | omega | (simp; done) | (simp; omega) | assumption) [hlt, trksV, Trk.v, hx, isC, a1, e, wrap64, boxV, boxO, fresh_no, List.filter_cons, setB, aggN, op_build, List.set, foot, Op.operands, opTmps]
      refine ⟨indep_of bf120_7 (by rfl), indep_of bf120_9 (by rfl), hQ _ _ ?_⟩
      simp (maxSteps := 2000000) (disch := first | omega | (simp; done) | (simp; omega) | assumption) [Cl1_tup, Cl1_agg, Cl1_vs]
    have hid := trkC_id a1
    by_cases a0 : j = 0
    · subst a0
      have go := go (scan_go (f := trkF l n) hlt (by rw [hx]; simp [trkF, a1, pidT, show ¬ x.id = 0 by omega, show ¬ x.id < 0 by omega]) ha)
      obtain ⟨a, b, c, d, f, os⟩ := x
      simp only [Trk.v] at e
      clear ha hv
      simp (maxSteps := 2000000) (disch := first | omega | (simp; done) | (simp; omega) | assumption) [hlt, trksV, Trk.v, hx, isC, a1, e, wrap64, boxV, boxO, fresh_no, List.filter_cons, setB, aggN, op_build, List.set, foot, Op.operands, opTmps]
      exact ⟨indep_of bf120_7 (by rfl), indep_of bf120_9 (by rfl), n' - 1, by omega, go⟩
    obtain ⟨i, rfl⟩ : ∃ i, j = i + 1 := ⟨j - 1, by omega⟩
    have hi : i < l.length := by omega
    have e3 : (0 : Int) < ((i : Int) + 1) := by omega
    have hlt' : (i : Int) + 1 < (l.length : Int) := by omega
    have e4 : ((i : Int) + 1) - 1 = (i : Int) := by omega
    have hp := pidT_s hi
    obtain ⟨y, hy⟩ : ∃ y, l[i] = y := ⟨_, rfl⟩
    rw [hy] at hp
    by_cases a2 : x.id = y.id
    · have e0 := scan_hit (f := trkF l n) (e := (((i + 1 : Nat) : Int), 11)) hlt (by rw [hx]; simp only [trkF]; rw [if_neg (by simpa using a1), if_pos (by rw [hp]; exact a2)]) ha
      subst e0
      obtain ⟨a, b, c, d, f, os⟩ := x
      simp only at a2; subst a2
      simp only [Trk.v] at e
      clear go ha hv
      simp (maxSteps := 2000000) (disch := first | omega | (simp; done) | (simp; omega) | assumption) [hlt, hlt', hi, trksV, Trk.v, hx, hy, isC, a1, e, e3, e4, wrap64, boxV, boxO, fresh_no, List.filter_cons, setB, aggN, op_build, List.set, foot, Op.operands, opTmps]
      refine ⟨indep_of bf120_7 (by rfl), indep_of bf120_9 (by rfl), hQ _ _ ?_⟩
      simp (maxSteps := 2000000) (disch := first | omega | (simp; done) | (simp; omega) | assumption) [Cl1_tup, Cl1_agg, Cl1_vs]
    by_cases a3 : x.id < y.id
    · have e0 := scan_hit (f := trkF l n) (e := (((i + 1 : Nat) : Int), 18)) hlt (by rw [hx]; simp [trkF, a1, hp, a2, a3]) ha
      subst e0
      obtain ⟨a, b, c, d, f, os⟩ := x
      simp only [Trk.v] at e
      simp only at a2 a3
      clear go ha hv
      simp (maxSteps := 2000000) (disch := first | omega | (simp; done) | (simp; omega) | assumption) [hlt, hlt', hi, trksV, Trk.v, hx, hy, isC, a1, a2, a3, e, e3, e4, wrap64, boxV, boxO, fresh_no, List.filter_cons, setB, aggN, op_build, List.set, foot, Op.operands, opTmps]
      refine ⟨indep_of bf120_7 (by rfl), indep_of bf120_9 (by rfl), hQ _ _ ?_⟩
      simp (maxSteps := 2000000) (disch := first | omega | (simp; done) | (simp; omega) | assumption) [Cl1_tup, Cl1_agg, Cl1_vs]
    · have go := go (scan_go (f := trkF l n) hlt (by rw [hx]; simp [trkF, a1, hp, a2, a3]) ha)
      obtain ⟨a, b, c, d, f, os⟩ := x
      simp only [Trk.v] at e
      simp only at a2 a3
      clear ha hv
      simp (maxSteps := 2000000) (disch := first | omega | (simp; done) | (simp; omega) | assumption) [hlt, hlt', hi, trksV, Trk.v, hx, hy, isC, a1, a2, a3, e, e3, e4, wrap64, boxV, boxO, fresh_no, List.filter_cons, setB, aggN, op_build, List.set, foot, Op.operands, opTmps]
      exact ⟨indep_of bf120_7 (by rfl), indep_of bf120_9 (by rfl), n' - 1, by omega, go⟩
  · have e := scan_end (by omega) ha
    subst e
    clear go ha hv
    have hlt' : ¬ ((j : Int) < l.length) := by omega
    simp (maxSteps := 2000000) (disch := first | omega | (simp; done) | (simp; omega) | assumption) [hlt, hlt']
    refine hQ _ _ ?_
    simp (maxSteps := 2000000) (disch := first | omega | (simp; done) | (simp; omega) | assumption) [Cl1_tup, Cl1_agg, Cl1_vs]
end ZD

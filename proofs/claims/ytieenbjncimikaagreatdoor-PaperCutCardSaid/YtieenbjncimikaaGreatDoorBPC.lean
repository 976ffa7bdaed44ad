/- What functions tell of depots: minutes' kinds, trucks. No condition. -/
import Derived.Test.YtieenbjncimikaaGreatDoorBPB
set_option linter.all false
open Go Go.AM Go.Proofs Go.AM.Pl
set_option maxRecDepth 100000
set_option maxHeartbeats 4000000
namespace ZD
/-- A record more, joined to the last one if that is of its kind. -/
def addR (a : List Rec) (r : Rec) : List Rec := match a.getLast? with
  | some x => if x.k = r.k then a.dropLast ++ [⟨x.k, x.f, r.t⟩] else a ++ [r]
  | none => [r]
def mrg : List Rec → List Rec → List Rec
  | a, [] => a
  | a, r :: t => mrg (addR a r) t
@[simp] theorem addR_nil {r : Rec} : addR [] r = [r] := rfl
theorem addR_snoc {a : List Rec} {x r : Rec} : addR (a ++ [x]) r = if x.k = r.k then a ++ [⟨x.k, x.f, r.t⟩] else a ++ [x] ++ [r] := by simp [addR]
theorem addR_len {a : List Rec} {r : Rec} : (addR a r).length ≤ a.length + 1 := by
  unfold addR; split
  · split <;> simp
  · simp
def rc (W : List Rec) : List V := (recs W).flatMap cellsOf
theorem rc_snoc {W : List Rec} {x : Rec} : rc (W ++ [x]) = rc W ++ [.i x.k, .i x.f, .i x.t] := by simp [rc, recs, Rec.v]
@[simp] theorem rc_len {W : List Rec} : (rc W).length = W.length * 3 := by
  induction W with
  | nil => rfl
  | cons x W ih =>
    have : rc (x :: W) = [.i x.k, .i x.f, .i x.t] ++ rc W := by simp [rc, recs, Rec.v]
    rw [this]; simp [ih]; omega
theorem rc_get0 {W : List Rec} {a b d : V} : (rc W ++ [a, b, d])[W.length * 3]? = some a := by
  rw [List.getElem?_append_right (by simp)]; simp
theorem rc_set2 {W : List Rec} {a b d x : V} : (rc W ++ [a, b, d]).set (W.length * 3 + 2) x = rc W ++ [a, b, x] := by
  rw [List.set_append_right _ _ (by simp)]; simp
theorem rc_chunks {W : List Rec} : chunks 3 W.length (rc W) = recs W := by
  have := chunks_flat (w := 3) (recs W) fun v hv => by
    obtain ⟨x, _, rfl⟩ := List.mem_map.1 hv
    exact .inl ⟨by omega, _, rfl, rfl⟩
  rw [recs_len] at this; exact this
theorem rc_clo {W : List Rec} : (rc W).all (clo 11) = true := by
  simp [rc, recs, Rec.v]
/-- Records in a row that is written to. -/
def RowR (h g : H) (W : List Rec) (X : V) : Prop := h.length ≤ g.length ∧ ((W = [] ∧ X = AM.vs .nil 0 []) ∨ (W ≠ [] ∧ ∃ b, X = .msl b 0 W.length 3 ∧ h.length ≤ b ∧ cellsAt g b = some (rc W)))
theorem RowR.fin {h g : H} {W : List Rec} {X : V} (r : RowR h g W X) : Cl1 g h.length X = some (AM.vs .dead 3 (recs W)) := by
  obtain ⟨_, ⟨rfl, rfl⟩ | ⟨hne, b, rfl, h1, h2⟩⟩ := r
  · rw [Cl1_vs (by rfl)]; rfl
  · rw [Cl1_msl h1 h2 (by simp) rc_clo rc_chunks, fgL_recs]
theorem RowR.val {h g : H} {W : List Rec} {X : V} (r : RowR h g W X) : (Ent.v X).val = some X := by obtain ⟨_, ⟨_, rfl⟩ | ⟨_, b, rfl, _⟩⟩ := r <;> rfl
theorem s213 {lo : Nat} {l : List Rec} {h : H} (hl : l.length ≤ 1000000) : den cx lo 213 [AM.vs .dead 3 (recs l)] h = some (AM.vs .dead 3 (recs (mrg [] l)), h) := by
  refine den_pure (fn := Tryz.f213) (by rfl) (by rfl) (by rfl) (by rfl) (by simp [Tryz.f213]) (by simp) ?_
  obtain ⟨v, hv⟩ : ∃ v, mrg [] l = v := ⟨_, rfl⟩
  rw [hv]
  simp (maxSteps := 2000000) (disch := first | omega | (simp; done) | (simp; omega) | assumption) [Tryz.f213, argsE]
  obtain ⟨I, hI⟩ : ∃ I : Nat → List Ent → List (Nat × List V) → H → Prop, I = (fun n vs lb g => ∃ (j : Nat) (W : List Rec) (X : V), n + j = l.length ∧ W.length ≤ j ∧ mrg W (l.drop j) = v ∧ RowR h g W X ∧ vs = [.v X, .v (.i j)] ∧ lb = []) := ⟨_, rfl⟩
  refine Wp.loopQ I (n := l.length) (by rw [hI]; exact ⟨0, [], AM.vs .nil 0 [], by simp, by simp, hv, ⟨Nat.le_refl _, .inl ⟨rfl, rfl⟩⟩, by simp, by simp⟩) ?_
  intro n vs lb g hi Q hQ; rw [hI] at hi; obtain ⟨j, W, X, hj, hw, ha, hr, rfl, rfl⟩ := hi
  have hX := hr.val
  by_cases hlt : j < l.length
  · have go : ∀ g' W' X', mrg W' (l.drop (j + 1)) = v → W'.length ≤ j + 1 → RowR h g' W' X' → I (n - 1) [.v X', .v (.i ((j : Int) + 1))] [] g' := by
      intro g' W' X' h1 h2 h3; rw [hI]; exact ⟨j + 1, W', X', by omega, h2, h1, h3, by simp, rfl⟩
    clear hI
    obtain ⟨x, hx⟩ : ∃ x, l[j] = x := ⟨_, rfl⟩
    rw [List.drop_eq_getElem_cons hlt, hx] at ha
    simp only [mrg] at ha
    have hwl := addR_len (a := W) (r := x)
    clear hv
    obtain ⟨hg, ⟨rfl, rfl⟩ | ⟨hne, b, rfl, hb1, hb2⟩⟩ := hr
    · have go := go (g ++ [.cells [.i x.k, .i x.f, .i x.t]]) [x] (.msl g.length 0 1 3) (by simpa using ha) (by simp) ⟨by simp; omega, .inr ⟨by simp, g.length, by simp, hg, by simp [rc, recs, Rec.v]⟩⟩
      clear ha hQ
      simp (maxSteps := 2000000) (disch := first | omega | (simp; done) | (simp; omega) | assumption) [hlt, recs, Rec.v, hx, isC, wrap64, boxV, boxO, fresh_no, List.filter_cons, setB, aggN, op_build, List.set, foot, Op.operands, opTmps, elemsV, push, hg]
      exact ⟨indep_of bf213_6 (by rfl), n - 1, by omega, go⟩
    · obtain ⟨W0, y, rfl⟩ : ∃ W0 y, W = W0 ++ [y] := ⟨W.dropLast, W.getLast hne, (List.dropLast_concat_getLast hne).symm⟩
      rw [rc_snoc] at hb2
      have hbg := cellsAt_lt hb2
      rw [addR_snoc] at ha hwl
      have hk : ((W0.length : Int) + 1) - 1 = W0.length := by omega
      have hwm : W0.length < 1000000 := by simp at hw; omega
      simp only [List.length_append, List.length_cons, List.length_nil] at *
      by_cases q : y.k = x.k
      · rw [if_pos q] at ha hwl
        have go := go (g.set b (.cells (rc W0 ++ [.i y.k, .i y.f, .i x.t]))) _ (.msl b 0 (W0.length + 1) 3) ha (by simp; omega) ⟨by simp; omega, .inr ⟨by simp, b, by simp, hb1, by rw [cellsAt_set hbg]; simp [rc_snoc]⟩⟩
        rw [q] at go
        clear ha hQ
        simp (maxSteps := 2000000) (disch := first | omega | (simp; done) | (simp; omega) | assumption) [hlt, recs, Rec.v, hx, isC, wrap64, boxV, boxO, fresh_no, List.filter_cons, setB, aggN, op_build, List.set, foot, Op.operands, opTmps, hk, hb1, hb2, rc_get0, rc_set2, q]
        exact ⟨indep_of bf213_6 (by rfl), n - 1, by omega, go⟩
      · rw [if_neg q] at ha hwl
        have go := go (g.set b .dead ++ [.cells (rc W0 ++ [.i y.k, .i y.f, .i y.t, .i x.k, .i x.f, .i x.t])]) _ (.msl g.length 0 (W0.length + 1 + 1) 3) ha (by simp; omega) ⟨by simp; omega, .inr ⟨by simp, g.length, by simp, hg, by rw [cellsAt_push' (by simp), rc_snoc, rc_snoc]; simp⟩⟩
        have ham := fun (env : List (Nat × Ent)) (lbx : List (Nat × List V)) => am25 (lo := h.length) (k := b) (n := W0.length + 1) (m := true) (st := ⟨env, lbx, g⟩) (tk' := .full) (l' := [x.v]) hb1 hb2 (by simp; omega) (by simp) (by simp; omega)
        simp only [Rec.v] at ham
        clear ha hQ
        simp (maxSteps := 2000000) (disch := first | omega | (simp; done) | (simp; omega) | assumption) [hlt, recs, Rec.v, hx, isC, wrap64, boxV, boxO, fresh_no, List.filter_cons, setB, aggN, op_build, List.set, foot, Op.operands, opTmps, elemsV, push, hk, hb1, hb2, rc_get0, q, ham]
        exact ⟨indep_of bf213_6 (by rfl), n - 1, by omega, go⟩
  · rw [List.drop_of_length_le (by omega)] at ha
    simp only [mrg] at ha
    subst ha
    have hf := hr.fin
    clear hI hr
    have hlt' : ¬ ((j : Int) < l.length) := by omega
    simp (maxSteps := 2000000) (disch := first | omega | (simp; done) | (simp; omega) | assumption) [hlt, hlt', hX]
    refine hQ _ _ ?_
    simp (maxSteps := 2000000) (disch := first | omega | (simp; done) | (simp; omega) | assumption) [hX, hf]
end ZD
open Go Go.AM Go.Proofs Go.AM.Pl
set_option maxRecDepth 100000
set_option maxHeartbeats 4000000
namespace ZD
/-- The kind of each minute. -/
def kindsR (l : List Rec) : List Int := l.flatMap fun r => List.replicate (r.t - r.f).toNat r.k
theorem kindsR_take {l : List Rec} {j : Nat} (h : j < l.length) : kindsR (l.take (j + 1)) = kindsR (l.take j) ++ List.replicate (l[j].t - l[j].f).toNat l[j].k := by
  rw [List.take_succ_eq_append_getElem h]; unfold kindsR; rw [List.flatMap_append]; simp only [List.flatMap_cons, List.flatMap_nil, List.append_nil]
def ofK : List Rec → Int → List Int → List Rec
  | a, _, [] => a
  | a, m, k :: r => ofK (addR a ⟨k, m, m + 1⟩) (m + 1) r
end ZD
open Go Go.AM Go.Proofs Go.AM.Pl
set_option maxRecDepth 100000
set_option maxHeartbeats 4000000
namespace ZD
theorem scan_all {α β : Type} {f : Nat → α → Option β} : ∀ (l : List α) (k : Nat), scan f k l = none → ∀ i (h : i < l.length), f (k + i) l[i] = none
  | [], _, _, i, h => absurd h (by simp)
  | x :: t, k, hs, i, h => by
    simp only [scan] at hs
    split at hs
    · simp at hs
    · rename_i e
      cases i with
      | zero => exact e
      | succ i => have := scan_all t (k + 1) hs i (by simpa using h); rw [show k + (i + 1) = k + 1 + i by omega]; simpa using this
theorem scan_some {α β : Type} {f : Nat → α → Option β} {e : β} : ∀ (l : List α) (k : Nat), scan f k l = some e → ∃ i x, f i x = some e ∧ x ∈ l
  | [], _, hs => by simp [scan] at hs
  | x :: t, k, hs => by
    simp only [scan] at hs
    split at hs
    · rename_i e1; exact ⟨k, x, by rw [e1, hs], by simp⟩
    · obtain ⟨i, y, h1, h2⟩ := scan_some t (k + 1) hs; exact ⟨i, y, h1, by simp [h2]⟩
theorem recF_ne {l : List Rec} {j : Nat} {r : Rec} {e : Int × Int} (h : recF l j r = some e) : e.2 ≠ 0 := by
  unfold recF at h
  split at h
  · cases h; assumption
  split at h
  · cases h; simp
  split at h
  · cases h; simp
  · simp at h
theorem recsC_none {l : List Rec} (h : (recsC l).2 = 0) : ∀ i (hi : i < l.length), recF l i l[i] = none := by
  unfold recsC at h
  cases hs : scan (recF l) 0 l with
  | none => intro i hi; have := scan_all l 0 hs i hi; simpa using this
  | some e =>
    obtain ⟨i, x, h1, _⟩ := scan_some l 0 hs
    rw [hs] at h; exact absurd h (recF_ne h1)
theorem recE0 {r : Rec} (h : recE r = 0) : 0 ≤ r.k ∧ r.k < 4 ∧ 0 ≤ r.f ∧ r.t ≤ 40320 ∧ r.f < r.t := by
  unfold recE at h
  split at h
  case isFalse => simp at h
  rename_i h1
  split at h
  case isFalse => simp at h
  rename_i h2
  split at h
  case isFalse => simp at h
  rename_i h3
  split at h
  · simp at h
  · simp [kOk, inR] at h1 h2 h3; omega
/-- Records that hang together, from a minute on. -/
def Chn : Int → List Rec → Prop
  | _, [] => True
  | m, r :: t => r.f = m ∧ r.f < r.t ∧ 0 ≤ r.k ∧ r.k < 4 ∧ 0 ≤ r.f ∧ r.t ≤ 40320 ∧ Chn r.t t
def begR (l : List Rec) : Int := match l with | [] => 0 | r :: _ => r.f
theorem chn_of : ∀ (l : List Rec) (m : Int), (∀ i (h : i < l.length), recE l[i] = 0) → (∀ i (h : i + 1 < l.length), l[i + 1].f = l[i].t) → (∀ h : 0 < l.length, l[0].f = m) → Chn m l
  | [], _, _, _, _ => trivial
  | x :: t, m, h1, h2, h3 => by
    have e := recE0 (h1 0 (by simp))
    refine ⟨h3 (by simp), e.2.2.2.2, e.1, e.2.1, e.2.2.1, e.2.2.2.1, chn_of t _ (fun i h => h1 (i + 1) (by simpa using h)) (fun i h => h2 (i + 1) (by simpa using h)) fun h => ?_⟩
    have := h2 0 (by simpa using h); simpa using this
theorem recsC_chn {l : List Rec} (h : (recsC l).2 = 0) : Chn (begR l) l := by
  have hn := recsC_none h
  have h1 : ∀ i (hi : i < l.length), recE l[i] = 0 := by
    intro i hi; have := hn i hi; unfold recF at this; split at this
    · simp at this
    · rename_i q; simpa using q
  refine chn_of l _ h1 (fun i hi => ?_) fun h0 => ?_
  · have := hn (i + 1) hi
    unfold recF at this
    rw [if_neg (by simpa using h1 _ hi), prevT_s (by omega : i < l.length)] at this
    split at this
    · simp at this
    split at this
    · simp at this
    rename_i a b; omega
  · cases l with
    | nil => simp at h0
    | cons r t => rfl
theorem chn_mem : ∀ {l : List Rec} {m : Int}, Chn m l → ∀ r ∈ l, 0 ≤ r.f ∧ r.t ≤ 40320
  | [], _, _, r, hr => by simp at hr
  | x :: t, m, h, r, hr => by
    obtain ⟨_, _, _, _, a, b, c⟩ := h
    rcases List.mem_cons.1 hr with rfl | hr
    · exact ⟨a, b⟩
    · exact chn_mem c r hr
theorem s193 {lo : Nat} {l : List Rec} {h : H} (hl : l.length ≤ 1000000) : den cx lo 193 [AM.vs .dead 3 (recs l)] h = some (.tup [AM.vs .dead 3 (recs (if (recsC l).2 = 0 then mrg [] l else [])), .i (recsC l).2], h) := by
  have e := fun lo => s145g (lo := lo) (h := h) (l := l) (by omega)
  have e2 := fun lo => s213 (lo := lo) (h := h) (l := l) hl
  refine den_pure (fn := Tryz.f193) (by rfl) (by rfl) (by rfl) (by rfl) (by simp [Tryz.f193]) (by simp) ?_
  by_cases q : (recsC l).2 = 0
  · rw [if_pos q]
    simp (maxSteps := 2000000) (disch := first | omega | (simp; done) | (simp; omega) | assumption) [Tryz.f193, argsE, e, q, isC, e2, Cl1_tup, Cl1_agg, Cl1_vs]
  · rw [if_neg q]
    simp (maxSteps := 2000000) (disch := first | omega | (simp; done) | (simp; omega) | assumption) [Tryz.f193, argsE, e, q, isC, Cl1_tup, Cl1_agg, Cl1_vs]
    rfl
theorem mrg_len : ∀ (l a : List Rec), (mrg a l).length ≤ a.length + l.length
  | [], a => by simp [mrg]
  | x :: t, a => by simp only [mrg, List.length_cons]; have := mrg_len t (addR a x); have := addR_len (a := a) (r := x); omega
theorem s169 {lo : Nat} {l : List Rec} {h : H} (hl : l.length ≤ 1000000) : den cx lo 169 [AM.vs .dead 3 (recs l)] h = some (.b (decide ((recsC l).2 = 0) && decide (mrg [] l = l)), h) := by
  have e := fun lo => s193 (lo := lo) (h := h) hl
  have hm := mrg_len l []
  have e2 := fun lo => s194g (lo := lo) (h := h) (a := mrg [] l) (b := l) (by simp at hm; omega) (by omega)
  refine den_pure (fn := Tryz.f169) (by rfl) (by rfl) (by rfl) (by rfl) (by simp [Tryz.f169]) (by simp) ?_
  by_cases q : (recsC l).2 = 0
  · simp only [q, if_true] at e
    simp (maxSteps := 2000000) (disch := first | omega | (simp; done) | (simp; omega) | assumption) [Tryz.f169, argsE, e, q, isC, e2, Cl1_tup, Cl1_agg, Cl1_vs]
  · simp (maxSteps := 2000000) (disch := first | omega | (simp; done) | (simp; omega) | assumption) [Tryz.f169, argsE, e, q, isC]
end ZD
open Go Go.AM Go.Proofs Go.AM.Pl
set_option maxRecDepth 100000
set_option maxHeartbeats 4000000
namespace ZD
structure Trk where
  id : Int
  home : Int
  room : Int
  fixed : Int
  rate : Int
  past : List Rec
def Trk.v (t : Trk) : V := .agg [.i t.id, .i t.home, .i t.room, .i t.fixed, .i t.rate, AM.vs .dead 3 (recs t.past)]
@[simp] theorem fg_trk (t : Trk) : fg t.v = t.v := by simp [Trk.v, fg, fgL]
def trksV (l : List Trk) : List V := l.map Trk.v
@[simp] theorem fgL_trksV (l : List Trk) : fgL (trksV l) = trksV l := fgL_mapE _ (fun _ => by simp) l
@[simp] theorem trksV_len (l : List Trk) : (trksV l).length = l.length := by simp [trksV]
/-- What is wrong with a truck. -/
def trkC (t : Trk) (n : Int) : Int :=
  if t.id < 1 ∨ 999999 < t.id then 1 else if t.home < 0 ∨ n ≤ t.home then 10
  else if t.room < 0 ∨ 1000000000 < t.room ∨ t.fixed < 0 ∨ 1000000 < t.fixed ∨ t.rate < 0 ∨ 1000000 < t.rate then 4
  else if pastC t.past ≠ 0 then pastC t.past else if mrg [] t.past = t.past then 0 else 18
theorem pastC_recs {l : List Rec} (h : pastC l = 0) : (recsC l).2 = 0 := by
  unfold pastC at h; split at h
  · assumption
  · rename_i q; simpa using q
theorem s138 {lo : Nat} {t : Trk} {n : Int} {h : H} (hl : t.past.length ≤ 1000000) : den cx lo 138 [t.v, .i n] h = some (.i (trkC t n), h) := by
  obtain ⟨a, b, c, d, f, rs⟩ := t
  simp only at hl
  have e := fun lo => s168 (lo := lo) (l := rs) (h := h) (by omega)
  have e2 := fun lo => s169 (lo := lo) (l := rs) (h := h) (by omega)
  refine den_pure (fn := Tryz.f138) (by rfl) (by rfl) (by rfl) (by rfl) (by simp [Tryz.f138]) (by simp) ?_
  by_cases h1 : 1 ≤ a
  case neg => simp (maxSteps := 2000000) (disch := first | omega | (simp; done) | (simp; omega) | assumption) [Tryz.f138, argsE, Trk.v, boxV, boxO, fresh_no, List.filter_cons, setB, aggN, op_build, List.set, isC, s167, trkC, h1, show a < 1 by omega]
  by_cases h2 : a ≤ 999999
  case neg => simp (maxSteps := 2000000) (disch := first | omega | (simp; done) | (simp; omega) | assumption) [Tryz.f138, argsE, Trk.v, boxV, boxO, fresh_no, List.filter_cons, setB, aggN, op_build, List.set, isC, s167, trkC, h1, h2, show 999999 < a by omega]
  by_cases h3 : b < 0
  · simp (maxSteps := 2000000) (disch := first | omega | (simp; done) | (simp; omega) | assumption) [Tryz.f138, argsE, Trk.v, boxV, boxO, fresh_no, List.filter_cons, setB, aggN, op_build, List.set, isC, s167, trkC, h1, h2, h3, show ¬ a < 1 by omega, show ¬ 999999 < a by omega]
  by_cases h4 : n ≤ b
  · simp (maxSteps := 2000000) (disch := first | omega | (simp; done) | (simp; omega) | assumption) [Tryz.f138, argsE, Trk.v, boxV, boxO, fresh_no, List.filter_cons, setB, aggN, op_build, List.set, isC, s167, trkC, h1, h2, h3, h4, show ¬ a < 1 by omega, show ¬ 999999 < a by omega]
  have hh : trkC ⟨a, b, c, d, f, rs⟩ n = if c < 0 ∨ 1000000000 < c ∨ d < 0 ∨ 1000000 < d ∨ f < 0 ∨ 1000000 < f then 4 else if pastC rs ≠ 0 then pastC rs else if mrg [] rs = rs then 0 else 18 := by
    simp only [trkC]; rw [if_neg (by omega), if_neg (by omega)]
  rw [hh]
  by_cases h5 : 0 ≤ c
  case neg =>
    rw [if_pos (by omega)]
    simp (maxSteps := 2000000) (disch := first | omega | (simp; done) | (simp; omega) | assumption) [Tryz.f138, argsE, Trk.v, boxV, boxO, fresh_no, List.filter_cons, setB, aggN, op_build, List.set, isC, s167, h1, h2, h3, h4, h5]
  by_cases h6 : c ≤ 1000000000
  case neg =>
    rw [if_pos (by omega)]
    simp (maxSteps := 2000000) (disch := first | omega | (simp; done) | (simp; omega) | assumption) [Tryz.f138, argsE, Trk.v, boxV, boxO, fresh_no, List.filter_cons, setB, aggN, op_build, List.set, isC, s167, h1, h2, h3, h4, h5, h6]
  by_cases h7 : 0 ≤ d
  case neg =>
    rw [if_pos (by omega)]
    simp (maxSteps := 2000000) (disch := first | omega | (simp; done) | (simp; omega) | assumption) [Tryz.f138, argsE, Trk.v, boxV, boxO, fresh_no, List.filter_cons, setB, aggN, op_build, List.set, isC, s167, h1, h2, h3, h4, h5, h6, h7]
  by_cases h8 : d ≤ 1000000
  case neg =>
    rw [if_pos (by omega)]
    simp (maxSteps := 2000000) (disch := first | omega | (simp; done) | (simp; omega) | assumption) [Tryz.f138, argsE, Trk.v, boxV, boxO, fresh_no, List.filter_cons, setB, aggN, op_build, List.set, isC, s167, h1, h2, h3, h4, h5, h6, h7, h8]
  by_cases h9 : 0 ≤ f
  case neg =>
    rw [if_pos (by omega)]
    simp (maxSteps := 2000000) (disch := first | omega | (simp; done) | (simp; omega) | assumption) [Tryz.f138, argsE, Trk.v, boxV, boxO, fresh_no, List.filter_cons, setB, aggN, op_build, List.set, isC, s167, h1, h2, h3, h4, h5, h6, h7, h8, h9]
  by_cases h10 : f ≤ 1000000
  case neg =>
    rw [if_pos (by omega)]
    simp (maxSteps := 2000000) (disch := first | omega | (simp; done) | (simp; omega) | assumption) [Tryz.f138, argsE, Trk.v, boxV, boxO, fresh_no, List.filter_cons, setB, aggN, op_build, List.set, isC, s167, h1, h2, h3, h4, h5, h6, h7, h8, h9, h10]
  rw [if_neg (by omega)]
  by_cases q : pastC rs = 0
  case neg =>
    rw [if_pos q]
    simp (maxSteps := 2000000) (disch := first | omega | (simp; done) | (simp; omega) | assumption) [Tryz.f138, argsE, Trk.v, boxV, boxO, fresh_no, List.filter_cons, setB, aggN, op_build, List.set, isC, s167, h1, h2, h3, h4, h5, h6, h7, h8, h9, h10, e, q]
  rw [if_neg (by simpa using q)]
  have q1 := pastC_recs q
  by_cases q2 : mrg [] rs = rs
  · rw [if_pos q2]
    simp only [q1, q2] at e2
    simp (maxSteps := 2000000) (disch := first | omega | (simp; done) | (simp; omega) | assumption) [Tryz.f138, argsE, Trk.v, boxV, boxO, fresh_no, List.filter_cons, setB, aggN, op_build, List.set, isC, s167, h1, h2, h3, h4, h5, h6, h7, h8, h9, h10, e, q, e2]
  · rw [if_neg q2]
    simp only [q1, q2] at e2
    simp (maxSteps := 2000000) (disch := first | omega | (simp; done) | (simp; omega) | assumption) [Tryz.f138, argsE, Trk.v, boxV, boxO, fresh_no, List.filter_cons, setB, aggN, op_build, List.set, isC, s167, h1, h2, h3, h4, h5, h6, h7, h8, h9, h10, e, q, e2]
end ZD
open Go Go.AM Go.Proofs Go.AM.Pl
set_option maxRecDepth 100000
set_option maxHeartbeats 4000000
namespace ZD
def pidT (l : List Trk) (j : Nat) : Int := if j = 0 then 0 else (l.getD (j - 1) ⟨0, 0, 0, 0, 0, []⟩).id
theorem pidT_s {l : List Trk} {j : Nat} (h : j < l.length) : pidT l (j + 1) = l[j].id := by simp [pidT, List.getD, h]
def trkF (l : List Trk) (n : Int) (j : Nat) (o : Trk) : Option (Int × Int) :=
  if trkC o n ≠ 0 then some (j, trkC o n) else if o.id = pidT l j then some (j, 11) else if o.id < pidT l j then some (j, 18) else none
def trksC (l : List Trk) (n : Int) : Int × Int := if 100 < l.length then (0, 12) else (scan (trkF l n) 0 l).getD (0, 0)
theorem s83 {lo : Nat} {l : List Trk} {n : Int} {h : H} (hb : l.length ≤ 100000000) (hl : ∀ o ∈ l, o.past.length ≤ 1000000) : den cx lo 83 [AM.vs .dead 6 (trksV l), .i n] h = some (.tup [.i (trksC l n).1, .i (trksC l n).2], h) := by
  refine den_pure (fn := Tryz.f83) (by rfl) (by rfl) (by rfl) (by rfl) (by simp [Tryz.f83]) (by simp) ?_
  by_cases h0 : 100 < l.length
  · have h0' : (100 : Int) < (l.length : Int) := by omega
    simp (maxSteps := 2000000) (disch := first | omega | (simp; done) | (simp; omega) | assumption) [Tryz.f83, argsE, isC, h0, h0', trksC, Cl1_tup, Cl1_agg, Cl1_vs]
  have h0' : ¬ ((100 : Int) < (l.length : Int)) := by omega
  obtain ⟨v, hv⟩ : ∃ v, scan (trkF l n) 0 l = v := ⟨_, rfl⟩
  simp only [trksC, h0, if_false, hv]
  simp (maxSteps := 2000000) (disch := first | omega | (simp; done) | (simp; omega) | assumption) [Tryz.f83, argsE, isC, h0, h0']
  obtain ⟨I, hI⟩ : ∃ I : Nat → List Ent → List (Nat × List V) → H → Prop, I = (fun n' vs lb g => ∃ j : Nat, n' + j = l.length ∧ (scan (trkF l n) j (l.drop j) = v) ∧ vs = [.v (.i j), .v (.i (pidT l j))] ∧ lb = [] ∧ g = h) := ⟨_, rfl⟩
  refine Wp.loopQ I (n := l.length) (by rw [hI]; exact ⟨0, by simp, hv, by simp [pidT], by simp, by simp⟩) ?_
  intro n' vs lb g hi Q hQ; rw [hI] at hi; obtain ⟨j, hj, ha, rfl, rfl, rfl⟩ := hi
  have go : ∀ (hlt : j < l.length), (scan (trkF l n) (j + 1) (l.drop (j + 1)) = v) → I (n' - 1) [.v (.i ((j : Int) + 1)), .v (.i (l[j].id))] [] g := fun hlt q => by rw [hI]; exact ⟨j + 1, by omega, q, by simp [pidT_s hlt], by simp, rfl⟩
  clear hI
  obtain ⟨p, hp⟩ : ∃ p, pidT l j = p := ⟨_, rfl⟩
  rw [hp]
  by_cases hlt : j < l.length
  · have go := go hlt
    obtain ⟨x, hx⟩ : ∃ x, l[j] = x := ⟨_, rfl⟩
    have e := fun lo => s138 (lo := lo) (t := x) (n := n) (h := g) (by rw [← hx]; exact hl _ (List.getElem_mem hlt))
    rw [hx] at go
    have hmap : (List.map Trk.v l)[j]? = some x.v := by simp [hlt, hx]
    obtain ⟨a, b, c, d, f, os⟩ := x
    by_cases a1 : trkC ⟨a, b, c, d, f, os⟩ n = 0
    case neg =>
      have e0 := scan_hit (f := trkF l n) (e := (j, trkC ⟨a, b, c, d, f, os⟩ n)) hlt (by rw [hx]; simp [trkF, a1]) ha
      subst e0
      simp only [Trk.v] at e
      clear go ha hv
      simp (maxSteps := 2000000) (disch := first | omega | (simp; done) | (simp; omega) | assumption) [hlt, trksV, Trk.v, hx, isC, a1, e, wrap64, boxV, boxO, fresh_no, List.filter_cons, setB, aggN, op_build, List.set]
      refine hQ _ _ ?_
      simp (maxSteps := 2000000) (disch := first | omega | (simp; done) | (simp; omega) | assumption) [Cl1_tup, Cl1_agg, Cl1_vs]
    by_cases a2 : a = p
    · have e0 := scan_hit (f := trkF l n) (e := (j, 11)) hlt (by rw [hx]; simp only [trkF]; rw [if_neg (by simpa using a1), if_pos (by rw [hp]; exact a2)]) ha
      subst e0
      simp only [Trk.v] at e
      clear go ha hv
      subst a2
      simp (maxSteps := 2000000) (disch := first | omega | (simp; done) | (simp; omega) | assumption) [hlt, trksV, Trk.v, hx, isC, a1, e, wrap64, boxV, boxO, fresh_no, List.filter_cons, setB, aggN, op_build, List.set]
      refine hQ _ _ ?_
      simp (maxSteps := 2000000) (disch := first | omega | (simp; done) | (simp; omega) | assumption) [Cl1_tup, Cl1_agg, Cl1_vs]
    by_cases a3 : a < p
    · have e0 := scan_hit (f := trkF l n) (e := (j, 18)) hlt (by rw [hx]; simp [trkF, a1, hp, a2, a3]) ha
      subst e0
      simp only [Trk.v] at e
      clear go ha hv
      simp (maxSteps := 2000000) (disch := first | omega | (simp; done) | (simp; omega) | assumption) [hlt, trksV, Trk.v, hx, isC, a1, a2, a3, e, wrap64, boxV, boxO, fresh_no, List.filter_cons, setB, aggN, op_build, List.set]
      refine hQ _ _ ?_
      simp (maxSteps := 2000000) (disch := first | omega | (simp; done) | (simp; omega) | assumption) [Cl1_tup, Cl1_agg, Cl1_vs]
    · have go := go (scan_go (f := trkF l n) hlt (by rw [hx]; simp [trkF, a1, hp, a2, a3]) ha)
      simp only [Trk.v] at e
      clear ha hv
      simp (maxSteps := 2000000) (disch := first | omega | (simp; done) | (simp; omega) | assumption) [hlt, trksV, Trk.v, hx, isC, a1, a2, a3, e, wrap64, boxV, boxO, fresh_no, List.filter_cons, setB, aggN, op_build, List.set]
      exact ⟨n' - 1, by omega, go⟩
  · have e := scan_end (by omega) ha
    subst e
    clear go ha hv
    have hlt' : ¬ ((j : Int) < l.length) := by omega
    simp (maxSteps := 2000000) (disch := first | omega | (simp; done) | (simp; omega) | assumption) [hlt, hlt']
    refine hQ _ _ ?_
    simp (maxSteps := 2000000) (disch := first | omega | (simp; done) | (simp; omega) | assumption) [Cl1_tup, Cl1_agg, Cl1_vs]
end ZD

/- The plain law of WeekCuts. -/
import Derived.Test.YtaaiamfolbcchaaDoorX03
import Derived.Test.YtaaiamfolbcchaaDoorPWeekA
import Derived.Test.YtaaiamfolbcchaaDoorPWeekOf
namespace Go.Proofs.YtaaiamfolbcchaaDoor.Pure
open Go.RowKit Go.Proofs.YtaaiamfolbcchaaDoor.X0 Go.Proofs.YtaaiamfolbcchaaDoor.Ext Go.Proofs.YtaaiamfolbcchaaDoorW.PrintWords Go.Proofs.YtaaiamfolbcchaaDoorW.PrintLast Go.Proofs.YtaaiamfolbcchaaDoorW.PrintMore

/-- The parts of a span from f on, cut where weeks begin. -/
inductive Segs (len tt : Int) : Int → List S23 → Prop where
  | nil {f : Int} (h : ¬ f < tt) : Segs len tt f []
  | cons {f e : Int} {r : List S23} (h : f < tt) (he : e = mn (f + (len - f % len)) tt) (hr : Segs len tt e r) : Segs len tt f (⟨f, e⟩ :: r)
theorem mn_le (a b : Int) : mn a b ≤ a ∧ mn a b ≤ b ∧ (mn a b = a ∨ mn a b = b) := by unfold mn; split <;> omega
theorem emod_bds (f len : Int) (hl : 1 ≤ len) : 0 ≤ f % len ∧ f % len < len := ⟨Int.emod_nonneg _ (by omega), Int.emod_lt_of_pos _ (by omega)⟩
theorem segs_is (len tt : Int) (hl : 1 ≤ len) (d : Nat) : ∀ f : Int, tt - f ≤ d → ∃ r, Segs len tt f r ∧ r.length ≤ d := by
  induction d with
  | zero => exact fun f h => ⟨[], .nil (by omega), by simp⟩
  | succ d ih =>
    intro f h
    by_cases hlt : f < tt
    · have hm := emod_bds f len hl
      have hn := mn_le (f + (len - f % len)) tt
      obtain ⟨r, hr, hlr⟩ := ih (mn (f + (len - f % len)) tt) (by omega)
      exact ⟨_, .cons hlt rfl hr, by simp; omega⟩
    · exact ⟨[], .nil hlt, by simp⟩
theorem cut_goes (len tt : Int) (hl : 1 ≤ len) (ht : tt ≤ 40320) (hl2 : len ≤ 9223372036854775807) {f : Int} {r : List S23} (h : Segs len tt f r) : 0 ≤ f → ∀ out : List S23, out.length + r.length ≤ 100000 →
    Ev (fun k => week_Cut.l0 k len out f tt) (out ++ r, 0) := by
  induction h with
  | nil h =>
    intro hf out hb
    refine Ev.step (f := fun _ => some (out ++ [], 0)) (fun k => ?_) (Ev.now _)
    simp only [week_Cut.l0]
    rw [if_neg h, List.append_nil]
  | @cons f e r h he hr ih =>
    intro hf out hb
    have hm := emod_bds f len hl
    have hn := mn_le (f + (len - f % len)) tt
    have hfe : f < e := by omega
    have e1 : Int.tmod f len = f % len := Int.tmod_eq_emod_of_nonneg hf
    have e2 : wrap64 (f + mn (wrap64 (len - f % len)) (wrap64 (tt - f))) = e := by
      rw [wrap_id (n := len - f % len) (by omega) (by omega), wrap_id (n := tt - f) (by omega) (by omega), wrap_id]
      · rw [he]; unfold mn; split <;> split <;> omega
      all_goals unfold mn; split <;> omega
    refine Ev.step (f := fun k => week_Cut.l0 k len (out ++ [⟨f, e⟩]) e tt) (fun k => ?_) ?_
    · simp only [week_Cut.l0]
      rw [if_pos h, if_neg (by omega), if_pos (by simp at hb; omega), e1, e2]
    · have := ih (by omega) (out ++ [⟨f, e⟩]) (by simp at hb ⊢; omega)
      simpa using this
theorem next_mult (len s m : Int) (hl : 1 ≤ len) (hm : m % len = 0) (hs : s < m) : s + (len - s % len) ≤ m := by
  have hb := emod_bds s len hl
  have h1 : len ∣ m := Int.dvd_of_emod_eq_zero hm
  have h2 : len ∣ s - s % len := ⟨s / len, by have := Int.emod_def s len; omega⟩
  have h3 : len ∣ m - (s - s % len) := Int.dvd_sub h1 h2
  have := Int.le_of_dvd (by omega) h3
  omega
theorem next_zero (len s : Int) : (s + (len - s % len)) % len = 0 := by
  have h2 : len ∣ s - s % len := ⟨s / len, by have := Int.emod_def s len; omega⟩
  have h3 : len ∣ (s - s % len) + len := Int.dvd_add h2 (Int.dvd_refl len)
  rw [show s + (len - s % len) = s - s % len + len by omega]
  exact Int.emod_eq_zero_of_dvd h3
theorem set_last {α : Type} (pre : List α) (a b : α) : (pre ++ [a]).set pre.length b = pre ++ [b] := by
  rw [List.set_append_right _ _ (Nat.le_refl _)]
  simp
theorem rd_last (pre : List S23) (a : S23) (i : Int) (hi : i = pre.length) : rd_T23 (pre ++ [a]) i = a := by
  subst hi
  unfold rd_T23
  rw [Int.toNat_natCast, List.getD_eq_getElem?_getD, List.getElem?_append_right (Nat.le_refl _)]
  simp
theorem ref_goes (len tt frm : Int) (hl : 1 ≤ len) (ht : tt ≤ 40320) (hl2 : len ≤ 9223372036854775807) (hf : 0 ≤ frm) (d : Nat) : ∀ (pre : List S23) (s m E : Int) (r : List S23), tt - m = d → frm ≤ s → s < m → m ≤ E → E = mn (s + (len - s % len)) tt →
    Segs len tt E r → pre.length + d ≤ 100000 → Ev (fun k => haulierref04_Cut.l0 k len (pre ++ [⟨s, m⟩]) m frm tt) (pre ++ ⟨s, E⟩ :: r, 0) := by
  induction d with
  | zero =>
    intro pre s m E r hd hs hsm hmE hE hr hb
    have hn := mn_le (s + (len - s % len)) tt
    obtain rfl : m = tt := by omega
    obtain rfl : E = m := by omega
    cases hr with
    | cons h _ _ => omega
    | nil _ =>
      refine Ev.step (f := fun _ => some (pre ++ [⟨s, E⟩], 0)) (fun k => ?_) (Ev.now _)
      simp only [haulierref04_Cut.l0]
      rw [if_neg (by omega)]
  | succ d ih =>
    intro pre s m E r hd hs hsm hmE hE hr hb
    have hn := mn_le (s + (len - s % len)) tt
    have hms := emod_bds s len hl
    have hmm := emod_bds m len hl
    have w1 : wrap64 (m + 1) = m + 1 := wrap_id (by omega) (by omega)
    have e1 : Int.tmod m len = m % len := Int.tmod_eq_emod_of_nonneg (by omega)
    by_cases hz : m % len = 0
    · have h1 := next_mult len s m hl hz hsm
      obtain rfl : E = m := by omega
      cases hr with
      | nil h => omega
      | @cons _ E' r' h he hr' =>
        have hn' := mn_le (E + (len - E % len)) tt
        refine Ev.step (f := fun k => haulierref04_Cut.l0 k len ((pre ++ [⟨s, E⟩]) ++ [⟨E, E + 1⟩]) (E + 1) frm tt) (fun k => ?_) ?_
        · simp only [haulierref04_Cut.l0]
          rw [if_pos (by omega), if_neg (by omega), if_neg (by omega), e1, if_pos hz, if_pos (by simp; omega), w1]
        · have := ih (pre ++ [⟨s, E⟩]) E (E + 1) E' r' (by omega) (by omega) (by omega) (by omega) he hr' (by simp; omega)
          simpa using this
    · have hE' : m + 1 ≤ E := by
        by_cases he : m = E
        · exfalso
          have h0 := next_zero len s
          have : E = s + (len - s % len) := by omega
          rw [← this, ← he] at h0
          exact hz h0
        · omega
      refine Ev.step (f := fun k => haulierref04_Cut.l0 k len (pre ++ [⟨s, m + 1⟩]) (m + 1) frm tt) (fun k => ?_) (ih pre s (m + 1) E r (by omega) hs (by omega) hE' hE hr (by omega))
      have hw : wrap64 (((pre ++ [(⟨s, m⟩ : S23)]).length : Int) - 1) = pre.length := by
        have : ((pre ++ [(⟨s, m⟩ : S23)]).length : Int) = pre.length + 1 := by simp
        rw [this, wrap_id (by omega) (by omega)]
        omega
      simp only [haulierref04_Cut.l0]
      rw [if_pos (by omega), if_neg (by omega), if_neg (by omega), e1, if_neg hz, hw, if_pos (by omega), if_pos (by simp; omega), w1, rd_last pre _ _ rfl, Int.toNat_natCast, set_last]
theorem of_yes (m l : Int) (h0 : 0 ≤ m) (h1 : m ≤ 9223372036854775807) (hl : 1 ≤ l) : week_Of.f m l = some (m / l, 0) := by
  rw [of_tells m l (by omega) h1, if_neg (by omega), if_neg (by omega)]
/-- What the parts are. -/
def Fits (len f : Int) : List S23 → Prop
  | [] => True
  | x :: r => x.f0 = f ∧ 0 ≤ f ∧ f < x.f1 ∧ x.f1 ≤ 40320 ∧ f / len = (x.f1 - 1) / len ∧ Fits len x.f1 r
theorem segs_fit (len tt : Int) (hl : 1 ≤ len) (ht : tt ≤ 40320) {f : Int} {r : List S23} (h : Segs len tt f r) : 0 ≤ f → Fits len f r := by
  induction h with
  | nil _ => exact fun _ => trivial
  | @cons f e r h he hr ih =>
    intro hf
    have hm := emod_bds f len hl
    have hn := mn_le (f + (len - f % len)) tt
    refine ⟨rfl, hf, by simp only; omega, by simp only; omega, ?_, ih (by omega)⟩
    simp only
    have h1 : f / len ≤ (e - 1) / len := Int.ediv_le_ediv (by omega) (by omega)
    have h2 : (e - 1) / len < f / len + 1 := by
      apply Int.ediv_lt_of_lt_mul (by omega)
      have h3 := Int.emod_def f len
      have h4 : (f / len + 1) * len = len * (f / len) + len := by rw [Int.add_mul, Int.one_mul, Int.mul_comm]
      omega
    omega
theorem rd_at (pre : List S23) (x : S23) (r : List S23) (i : Int) (hi : i = pre.length) : rd_T23 (pre ++ x :: r) i = x := by
  subst hi
  unfold rd_T23
  rw [Int.toNat_natCast, List.getD_eq_getElem?_getD, List.getElem?_append_right (Nat.le_refl _)]
  simp
theorem rd_before (pre : List S23) (y : S23) (r : List S23) (i : Int) (hi : i = pre.length) : rd_T23 ((pre ++ [y]) ++ r) i = y := by
  rw [List.append_assoc]
  exact rd_at pre y r i hi
theorem loop_goes (len : Int) (hl : 1 ≤ len) (hl2 : len ≤ 9223372036854775807) (B : Nat) (hB : (B : Int) ≤ 4611686018427387904) : ∀ (r pre : List S23) (f : Int), Fits len f r → (pre = [] ∨ ∃ q y, pre = q ++ [y] ∧ y.f1 = f) → pre.length + r.length ≤ B →
    Ev (fun k => haulierlaw04_WeekCuts.l0 k len (pre ++ r) pre.length) true := by
  intro r
  induction r with
  | nil =>
    intro pre f _ _ hb
    refine Ev.step (f := fun k => (haulierlaw04_alive.f k).bind fun t => some t) (fun k => ?_) (Ev.bind (Ev.step (f := fun _ => some true) (fun k => alive_yes k) (Ev.now _)) (Ev.now _))
    simp only [haulierlaw04_WeekCuts.l0]
    rw [if_neg (by simp)]
  | cons x r ih =>
    intro pre f hF hp hb
    have hb' : pre.length + (r.length + 1) ≤ B := hb
    obtain ⟨h1, h2, h3, h4, h5, h6⟩ := hF
    have H5 := Aside0.mk h5
    clear h5
    have hlen : ((pre ++ x :: r).length : Int) = pre.length + 1 + r.length := by simp; omega
    have w1 : Aside0 (wrap64 ((pre.length : Int) + 1) = pre.length + 1) := ⟨wrap_id (by omega) (by omega)⟩
    have w2 : Aside0 (wrap64 (x.f1 - 1) = x.f1 - 1) := ⟨wrap_id (by omega) (by omega)⟩
    have ihh := ih (pre ++ [x]) x.f1 h6 (.inr ⟨pre, x, rfl, rfl⟩) (by simp at hb ⊢; omega)
    rw [List.append_assoc, List.singleton_append, List.length_append] at ihh
    refine Ev.step (f := fun k => haulierlaw04_WeekCuts.l0 k len (pre ++ x :: r) ((pre.length + 1 : Nat) : Int)) (fun k => ?_) ihh
    simp only [haulierlaw04_WeekCuts.l0]
    have c1 : (pre.length : Int) < ((pre ++ x :: r).length : Int) := by rw [hlen]; omega
    rw [if_pos c1, if_pos (Int.natCast_nonneg _), rd_at pre x r _ rfl, w2.out, of_yes x.f0 len (by omega) (by omega) hl, of_yes (x.f1 - 1) len (by omega) (by omega) hl]
    simp only [Option.bind_some]
    rw [if_pos trivial, if_pos trivial, if_pos (by rw [h1]; exact H5.out)]
    rcases hp with rfl | ⟨q, y, rfl, hy⟩
    · rw [if_neg (by simp), w1.out]
      rfl
    · have w4 : ((q ++ [y]).length : Int) = q.length + 1 := by simp
      have w3 : Aside0 (wrap64 (((q ++ [y]).length : Int) - 1) = q.length) := ⟨by
        have hq : (q.length : Int) ≤ B := by omega
        rw [w4, show (q.length : Int) + 1 - 1 = q.length by omega]
        exact wrap_id (by omega) (by omega)⟩
      rw [if_pos (by simp), w3.out, if_pos (by omega), if_pos (by simp; omega), rd_before q y _ _ rfl, if_pos (by rw [h1, hy]), w1.out]
      rfl
theorem same_goes (B : Nat) (hB : (B : Int) ≤ 4611686018427387904) : ∀ (r pre : List S23), pre.length + r.length ≤ B → Ev (fun k => haulierref03_Same.l0 k (pre ++ r) (pre ++ r) pre.length) true := by
  intro r
  induction r with
  | nil =>
    intro pre hb
    refine Ev.step (f := fun _ => some true) (fun k => ?_) (Ev.now _)
    simp only [haulierref03_Same.l0]
    rw [if_neg (by simp)]
  | cons x r ih =>
    intro pre hb
    have w1 : Aside0 (wrap64 ((pre.length : Int) + 1) = pre.length + 1) := ⟨wrap_id (by omega) (by simp at hb; omega)⟩
    have ihh := ih (pre ++ [x]) (by simp at hb ⊢; omega)
    rw [List.append_assoc, List.singleton_append, List.length_append] at ihh
    refine Ev.step (f := fun k => haulierref03_Same.l0 k (pre ++ x :: r) (pre ++ x :: r) ((pre.length + 1 : Nat) : Int)) (fun k => ?_) ihh
    simp only [haulierref03_Same.l0]
    rw [if_pos (by simp; omega), if_pos (by omega), if_pos (by simp; omega), if_neg (by simp), w1.out]
    rfl
theorem same_yes (l : List S23) (h : l.length ≤ 100000) : Ev (fun k => haulierref03_Same.f k l l) true := by
  refine Ev.congr (fun k => ?_) (same_goes 100000 (by omega) l [] (by simpa using h))
  unfold haulierref03_Same.f
  rw [if_pos rfl]
  rfl
/-- Both tell the same, and the law holds. -/
theorem cuts_of (len s t : Int) (l : List S23) (e : Int) (hl : l.length ≤ 100000) (h1 : Ev (fun k => week_Cut.f k s t len) (l, e)) (h2 : Ev (fun k => haulierref04_Cut.f k s t len) (l, e))
    (h3 : Ev (fun k => haulierlaw04_WeekCuts.l0 k len l 0) true) : ∃ k, haulierlaw04_WeekCuts.f k s t len = some true := by
  refine Ev.rounds ?_
  unfold haulierlaw04_WeekCuts.f
  refine Ev.bind h1 (Ev.bind h2 ?_)
  simp only [if_true]
  refine Ev.bind (same_yes l hl) ?_
  refine Ev.step (f := fun k => haulierlaw04_WeekCuts.l0 k len l 0) (fun k => ?_) h3
  simp only [haulierlaw04_WeekCuts.j0]
  rw [if_neg (by simp)]
theorem empty_loop (len : Int) : Ev (fun k => haulierlaw04_WeekCuts.l0 k len [] 0) true := by
  refine Ev.step (f := fun k => (haulierlaw04_alive.f k).bind fun t => some t) (fun k => ?_) (Ev.bind (Ev.step (f := fun _ => some true) (fun k => alive_yes k) (Ev.now _)) (Ev.now _))
  simp only [haulierlaw04_WeekCuts.l0]
  rw [if_neg (by simp)]
theorem WeekCuts (s t len : Int) (_ : (Lit.int .i64 s).wf = true) (_ : (Lit.int .i64 t).wf = true) (hl : (Lit.int .i64 len).wf = true) : ∃ k, haulierlaw04_WeekCuts.f k s t len = some true := by
  obtain ⟨l0, l1⟩ := bounds_i64 hl
  by_cases c1 : len < 1
  · refine cuts_of len s t [] 1 (by simp) ⟨0, fun k _ => ?_⟩ ⟨0, fun k _ => ?_⟩ (empty_loop len)
    · show week_Cut.f k s t len = _; unfold week_Cut.f; rw [if_pos c1]
    · show haulierref04_Cut.f k s t len = _; unfold haulierref04_Cut.f; rw [if_pos c1]
  by_cases c2 : s < t
  case neg =>
    refine cuts_of len s t [] 3 (by simp) ⟨0, fun k _ => ?_⟩ ⟨0, fun k _ => ?_⟩ (empty_loop len)
    · show week_Cut.f k s t len = _; unfold week_Cut.f ival_Right.f; rw [if_neg c1]; simp [c2]
    · show haulierref04_Cut.f k s t len = _; unfold haulierref04_Cut.f haulierref02_Right.f; rw [if_neg c1]; simp [c2]
  by_cases c3 : s < 0 ∨ 40320 < t
  · refine cuts_of len s t [] 4 (by simp) ⟨0, fun k _ => ?_⟩ ?_ (empty_loop len)
    · show week_Cut.f k s t len = _
      unfold week_Cut.f ival_Right.f
      rw [if_neg c1]
      simp only [decide_eq_true c2, Option.bind_some, if_true]
      by_cases c4 : s < 0
      · rw [if_pos c4]
      · rw [if_neg c4, if_pos (by omega)]
    · unfold haulierref04_Cut.f haulierref02_Right.f
      simp only [if_neg c1, decide_eq_true c2, Option.bind_some, if_true]
      have hj : Ev (fun k => haulierref04_Cut.j0 k len true s t) ([], 4) := Ev.step (f := fun _ => some ([], 4)) (fun k => by simp only [haulierref04_Cut.j0]; rw [if_pos trivial]) (Ev.now _)
      by_cases c4 : s < 0
      · simp only [if_pos c4]; exact hj
      · simp only [if_neg c4, decide_eq_true (show t > 40320 by omega)]; exact hj
  · obtain ⟨r, hr, hrl⟩ := segs_is len t (by omega) (t - s).toNat s (by omega)
    have hs0 : 0 ≤ s := by omega
    refine cuts_of len s t r 0 (by omega) ?_ ?_ (by simpa using loop_goes len (by omega) l1 100000 (by omega) r [] s (segs_fit len t (by omega) (by omega) hr hs0) (.inl rfl) (by simp; omega))
    · refine Ev.congr (fun k => ?_) (by simpa using cut_goes len t (by omega) (by omega) l1 hr hs0 [] (by simp; omega))
      unfold week_Cut.f ival_Right.f
      rw [if_neg c1]
      simp only [decide_eq_true c2, Option.bind_some, if_true]
      rw [if_neg (by omega), if_neg (by omega)]
    · cases hr with
      | nil h => omega
      | @cons _ E r h he hr =>
        have hn := mn_le (s + (len - s % len)) t
        have hms := emod_bds s len (by omega)
        have hgo := ref_goes len t s (by omega) (by omega) l1 hs0 (t - (s + 1)).toNat [] s (s + 1) E r (by omega) (by omega) (by omega) (by omega) he hr (by simp; omega)
        unfold haulierref04_Cut.f haulierref02_Right.f
        simp only [if_neg c1, decide_eq_true c2, Option.bind_some, if_true, if_neg (show ¬ s < 0 by omega), decide_eq_false (show ¬ t > 40320 by omega)]
        refine Ev.step (f := fun k => haulierref04_Cut.l0 k len [] s s t) (fun k => by simp only [haulierref04_Cut.j0]; rw [if_neg (by simp)]) ?_
        refine Ev.step (f := fun k => haulierref04_Cut.l0 k len ([] ++ [⟨s, s + 1⟩]) (s + 1) s t) (fun k => ?_) (by simpa using hgo)
        simp only [haulierref04_Cut.l0]
        rw [if_pos c2, if_pos trivial, if_pos (by simp), wrap_id (by omega) (by omega)]
end Go.Proofs.YtaaiamfolbcchaaDoor.Pure

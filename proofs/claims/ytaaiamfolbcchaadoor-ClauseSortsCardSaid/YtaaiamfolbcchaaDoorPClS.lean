/- Plain law of findings in order (layer 15). -/
import Derived.Test.YtaaiamfolbcchaaDoorPClA
import Derived.Test.YtaaiamfolbcchaaDoorExtQ
import Derived.Test.YtaaiamfolbcchaaDoorX71
namespace Go.Proofs.YtaaiamfolbcchaaDoor.Pure
set_option linter.unusedVariables false
set_option linter.unusedSimpArgs false
open Go.RowKit Go.Proofs.YtaaiamfolbcchaaDoor.Y0 Go.Proofs.YtaaiamfolbcchaaDoor.X1 Go.Proofs.YtaaiamfolbcchaaDoor.X2 Go.Proofs.YtaaiamfolbcchaaDoor.X5 Go.Proofs.YtaaiamfolbcchaaDoor.X7 Go.Proofs.YtaaiamfolbcchaaDoor.Ext Go.Proofs.YtaaiamfolbcchaaDoorW.PrintWords Go.Proofs.YtaaiamfolbcchaaDoorW.PrintLast Go.Proofs.YtaaiamfolbcchaaDoorW.PrintMore

theorem Before_tells (x y : SF) : haulierref15_Before.f x.f0 x.f1 x.f2 y.f0 y.f1 y.f2 = some (ltB x y) := by
  unfold haulierref15_Before.f
  have key : ∀ p : Prop, [Decidable p] → (ltF x y ↔ p) → some (decide p) = some (ltB x y) := fun p _ hp => by
    congr 1
    cases hb : ltB x y with
    | true => exact decide_eq_true (hp.1 (ltB_iff.1 hb))
    | false => exact decide_eq_false fun e => by rw [ltB_iff.2 (hp.2 e)] at hb; cases hb
  split
  · split
    · exact key _ (by unfold ltF; omega)
    · exact key _ (by unfold ltF; omega)
  · exact key _ (by unfold ltF; omega)
/-- May it come after the last of p? -/
def cand (p : List SF) (y : SF) : Bool := match p.getLast? with
  | none => true
  | some z => ltB z y
def stp (p : List SF) (st : Bool × SF) (y : SF) : Bool × SF := if cand p y = true then (if st.1 = true then (if ltB y st.2 = true then (true, y) else st) else (true, y)) else st
theorem stp_spec (p : List SF) : ∀ (l : List SF) (st : Bool × SF) (seen : List SF), ((st.1 = false ∧ ∀ y ∈ seen, cand p y = false) ∨ (st.1 = true ∧ st.2 ∈ seen ∧ cand p st.2 = true ∧ ∀ y ∈ seen, cand p y = true → ¬ ltF y st.2)) →
    (((l.foldl (stp p) st).1 = false ∧ ∀ y ∈ seen ++ l, cand p y = false) ∨ ((l.foldl (stp p) st).1 = true ∧ (l.foldl (stp p) st).2 ∈ seen ++ l ∧ cand p (l.foldl (stp p) st).2 = true ∧ ∀ y ∈ seen ++ l, cand p y = true → ¬ ltF y (l.foldl (stp p) st).2))
  | [], st, seen, h => by simpa using h
  | y :: l, st, seen, h => by
    rw [List.foldl_cons, show seen ++ y :: l = (seen ++ [y]) ++ l by simp]
    refine stp_spec p l _ (seen ++ [y]) ?_
    unfold stp
    by_cases hc : cand p y = true
    · rw [if_pos hc]
      rcases h with ⟨h1, h2⟩ | ⟨h1, h2, h3, h4⟩
      · right
        rw [if_neg (by rw [h1]; decide)]
        refine ⟨rfl, by simp, hc, fun z hz hcz => ?_⟩
        rcases List.mem_append.1 hz with hz | hz
        · rw [h2 z hz] at hcz; cases hcz
        · rw [List.mem_singleton.1 hz]; exact ltF_irr y
      · right
        rw [if_pos h1]
        by_cases hl : ltB y st.2 = true
        · rw [if_pos hl]
          refine ⟨rfl, by simp, hc, fun z hz hcz hlt => ?_⟩
          have hlt : ltF z y := hlt
          rcases List.mem_append.1 hz with hz | hz
          · exact h4 z hz hcz (ltF_trans hlt (ltB_iff.1 hl))
          · rw [List.mem_singleton.1 hz] at hlt; exact ltF_irr y hlt
        · rw [if_neg hl]
          refine ⟨h1, by simp [h2], h3, fun z hz hcz => ?_⟩
          rcases List.mem_append.1 hz with hz | hz
          · exact h4 z hz hcz
          · rw [List.mem_singleton.1 hz]; exact fun e => hl (ltB_iff.2 e)
    · rw [if_neg hc]
      rcases h with ⟨h1, h2⟩ | ⟨h1, h2, h3, h4⟩
      · left
        refine ⟨h1, fun z hz => ?_⟩
        rcases List.mem_append.1 hz with hz | hz
        · exact h2 z hz
        · rw [List.mem_singleton.1 hz]; simpa using hc
      · right
        refine ⟨h1, by simp [h2], h3, fun z hz hcz => ?_⟩
        rcases List.mem_append.1 hz with hz | hz
        · exact h4 z hz hcz
        · rw [List.mem_singleton.1 hz] at hcz; exact absurd hcz hc
theorem rd_at (l : List SF) (i : Nat) (h : i < l.length) : rd_T62 l (i : Int) = l[i] := by
  unfold rd_T62
  rw [Int.toNat_natCast, List.getD_eq_getElem?_getD, List.getElem?_eq_getElem h]
  rfl
theorem rd_last (p : List SF) (z : SF) (h : p.length < 1000) (e : p.getLast? = some z) : (p.length : Int) ≠ 0 ∧ 0 ≤ wrap64 ((p.length : Int) - 1) ∧ wrap64 ((p.length : Int) - 1) < (p.length : Int) ∧ rd_T62 p (wrap64 ((p.length : Int) - 1)) = z := by
  have hp : p ≠ [] := by rintro rfl; cases e
  have h0 : 0 < p.length := List.length_pos_iff.2 hp
  rw [wrp (by omega) (by omega)]
  refine ⟨by omega, by omega, by omega, ?_⟩
  rw [show (p.length : Int) - 1 = ((p.length - 1 : Nat) : Int) by omega, rd_at p _ (by omega)]
  rw [List.getLast?_eq_getElem?, List.getElem?_eq_getElem (by omega)] at e
  exact Option.some.inj e
theorem sort_l1 (l p : List SF) (hl : l.length < 1000) (hp : p.length < 1000) (r : List SF) : ∀ (d i : Nat) (st : Bool × SF), i + d = l.length →
    Ev (fun k => if ((l.drop i).foldl (stp p) st).1 = true then haulierref15_Sort.l0 k l (p ++ [((l.drop i).foldl (stp p) st).2]) else some p) r →
    Ev (fun k => haulierref15_Sort.l1 k l p st.1 (i : Int) st.2.f0 st.2.f1 st.2.f2) r := by
  intro d
  induction d with
  | zero =>
    intro i st hi h
    obtain rfl : i = l.length := by omega
    rw [List.drop_length] at h
    refine Ev.step (fun k => ?_) h
    have c3 : p.length < 5864062014805 := by omega
    simp only [haulierref15_Sort.l1, List.foldl_nil]
    rw [if_neg (by omega), if_pos c3]
    rfl
  | succ d ih =>
    intro i st hi h
    have hil : i < l.length := by omega
    have e := rd_at l i hil
    have c0 : (i : Int) < (l.length : Int) := by omega
    have c1 : (0 : Int) ≤ (i : Int) := by omega
    have w1 : wrap64 ((i : Int) + 1) = ((i + 1 : Nat) : Int) := by rw [wrp (by omega) (by omega)]; omega
    rw [List.drop_eq_getElem_cons hil] at h
    simp only [List.foldl_cons] at h
    have := ih (i + 1) _ (by omega) h
    refine Ev.step (fun k => ?_) this
    obtain ⟨b, m⟩ := st
    generalize l[i] = y at e
    simp only [haulierref15_Sort.l1, e, if_pos c0, if_pos c1, w1]
    unfold stp cand
    cases hq : p.getLast? with
    | none =>
      obtain rfl : p = [] := List.getLast?_eq_none_iff.1 hq
      simp only [List.length_nil, Int.ofNat_zero, Int.natCast_zero, if_true]
      cases b with
      | true =>
        simp only [if_true, Before_tells, Option.bind_some]
        cases ltB y m <;> rfl
      | false => rfl
    | some z =>
      obtain ⟨n0, n1, n2, n3⟩ := rd_last p z hp hq
      simp only [if_neg n0, if_pos n1, if_pos n2, n3, Before_tells, Option.bind_some]
      cases ltB z y with
      | false => rfl
      | true =>
        cases b with
        | true =>
          simp only [if_true, Before_tells, Option.bind_some]
          cases ltB y m <;> rfl
        | false => rfl
theorem insU_len (x : SF) : ∀ l, (insU x l).length ≤ l.length + 1
  | [] => by simp [insU]
  | y :: r => by
    have := insU_len x r
    unfold insU
    split
    · simp
    · split
      · simp; omega
      · simp
theorem sortU_len : ∀ l, (sortU l).length ≤ l.length
  | [] => Nat.le_refl _
  | x :: l => by
    have h1 := insU_len x (sortU l)
    have h2 := sortU_len l
    show (insU x (sortU l)).length ≤ _
    simp only [List.length_cons]
    omega
theorem sort_l0 (l : List SF) (hl : l.length < 1000) : ∀ (q p : List SF), sortU l = p ++ q → Ev (fun k => haulierref15_Sort.l0 k l p) (sortU l) := by
  have hs := sortU_str l
  have hn := sortU_len l
  intro q
  induction q with
  | nil =>
    intro p hpq
    rw [List.append_nil] at hpq
    have hpl : p.length ≤ l.length := by rw [← hpq]; exact hn
    refine Ev.step (f := fun k => haulierref15_Sort.l1 k l p false ((0 : Nat) : Int) 0 0 0) (fun k => ?_) ?_
    · simp only [haulierref15_Sort.l0]
      rw [if_pos (by omega)]
      rfl
    refine sort_l1 l p hl (by omega) _ l.length 0 (false, ⟨0, 0, 0⟩) (by omega) ?_
    rw [List.drop_zero]
    have key : ∀ y ∈ l, cand p y = false := fun y hy => by
      have hy : y ∈ p := by rw [← hpq]; exact (sortU_mem y l).2 hy
      unfold cand
      rcases List.eq_nil_or_concat p with rfl | ⟨p', z, rfl⟩
      · cases hy
      · rw [List.concat_eq_append, List.getLast?_append]
        show ltB z y = false
        cases hb : ltB z y with
        | false => rfl
        | true =>
          have h1 := ltB_iff.1 hb
          rw [hpq, List.concat_eq_append] at hs
          rcases List.mem_append.1 (by rw [← List.concat_eq_append]; exact hy) with h2 | h2
          · exact absurd (ltF_trans h1 ((List.pairwise_append.1 hs).2.2 y h2 z (by simp))) (ltF_irr z)
          · rw [List.mem_singleton.1 h2] at h1; exact absurd h1 (ltF_irr z)
    rcases stp_spec p l (false, ⟨0, 0, 0⟩) [] (.inl ⟨rfl, fun y hy => by cases hy⟩) with ⟨h1, _⟩ | ⟨h1, h2, h3, _⟩
    · rw [h1, hpq]
      exact Ev.now _
    · rw [List.nil_append] at h2
      rw [key _ h2] at h3
      cases h3
  | cons m q ih =>
    intro p hpq
    have hpl : p.length < l.length := by
      have := congrArg List.length hpq
      simp at this
      omega
    have hs' := hs
    rw [hpq] at hs'
    obtain ⟨s1, s2, s3⟩ := List.pairwise_append.1 hs'
    obtain ⟨s4, s5⟩ := List.pairwise_cons.1 s2
    refine Ev.step (f := fun k => haulierref15_Sort.l1 k l p false ((0 : Nat) : Int) 0 0 0) (fun k => ?_) ?_
    · simp only [haulierref15_Sort.l0]
      rw [if_pos (by omega)]
      rfl
    refine sort_l1 l p hl (by omega) _ l.length 0 (false, ⟨0, 0, 0⟩) (by omega) ?_
    rw [List.drop_zero]
    have hml : m ∈ l := (sortU_mem m l).1 (by rw [hpq]; simp)
    have hmc : cand p m = true := by
      unfold cand
      rcases List.eq_nil_or_concat p with rfl | ⟨p', z, rfl⟩
      · rfl
      · rw [List.concat_eq_append, List.getLast?_append]
        exact ltB_iff.2 (s3 z (by simp) m (by simp))
    have key : ∀ y ∈ l, cand p y = true → ¬ ltF y m := fun y hy hc hlt => by
      have hy : y ∈ p ++ m :: q := by rw [← hpq]; exact (sortU_mem y l).2 hy
      rcases List.mem_append.1 hy with hy | hy
      · unfold cand at hc
        rcases List.eq_nil_or_concat p with rfl | ⟨p', z, rfl⟩
        · cases hy
        · rw [List.concat_eq_append, List.getLast?_append] at hc
          have h1 : ltF z y := ltB_iff.1 hc
          rw [List.concat_eq_append] at s1 hy
          rcases List.mem_append.1 hy with h2 | h2
          · exact ltF_irr z (ltF_trans h1 ((List.pairwise_append.1 s1).2.2 y h2 z (by simp)))
          · rw [List.mem_singleton.1 h2] at h1; exact ltF_irr z h1
      · rcases List.mem_cons.1 hy with rfl | hy
        · exact ltF_irr _ hlt
        · exact ltF_irr _ (ltF_trans hlt (s4 y hy))
    rcases stp_spec p l (false, ⟨0, 0, 0⟩) [] (.inl ⟨rfl, fun y hy => by cases hy⟩) with ⟨h1, h2⟩ | ⟨h1, h2, h3, h4⟩
    · rw [h2 m (by simpa using hml)] at hmc
      cases hmc
    · rw [List.nil_append] at h2 h4
      have e : (l.foldl (stp p) (false, ⟨0, 0, 0⟩)).2 = m := ltF_tri (key _ h2 h3) (h4 m hml hmc)
      rw [h1, e]
      have := ih (p ++ [m]) (by rw [hpq]; simp)
      exact Ev.congr (fun k => if_pos rfl) this
theorem refSort_tells (l : List SF) (hl : l.length < 1000) : Ev (fun k => haulierref15_Sort.f k l) (sortU l) := sort_l0 l hl (sortU l) [] rfl
theorem Same_tells (l : List SF) (hl : l.length < 1000) : Ev (fun k => haulierref15_Same.f k l l) true := by
  unfold haulierref15_Same.f
  refine Ev.congr (fun k => if_pos rfl) ?_
  suffices H : ∀ d i : Nat, i + d = l.length → Ev (fun k => haulierref15_Same.l0 k l l (i : Int)) true from H l.length 0 (by omega)
  intro d
  induction d with
  | zero =>
    intro i hi
    refine Ev.step (f := fun _ => some true) (fun k => ?_) (Ev.now _)
    simp only [haulierref15_Same.l0]
    rw [if_neg (by omega)]
  | succ d ih =>
    intro i hi
    have := ih (i + 1) (by omega)
    refine Ev.step (fun k => ?_) this
    have c0 : (i : Int) < (l.length : Int) := by omega
    have c1 : (0 : Int) ≤ (i : Int) := by omega
    have w1 : wrap64 ((i : Int) + 1) = ((i + 1 : Nat) : Int) := by rw [wrp (by omega) (by omega)]; omega
    simp only [haulierref15_Same.l0, if_pos c0, if_pos c1, w1]
    simp
theorem sortU_twice (l : List SF) : sortU (sortU l) = sortU l := str_uniq _ _ (sortU_str _) (sortU_str _) (fun z => sortU_mem z _)
theorem sortU_pos (l : List SF) (h : 0 < l.length) : 0 < (sortU l).length := by
  cases l with
  | nil => simp at h
  | cons x l =>
    have : x ∈ sortU (x :: l) := (sortU_mem x _).2 (by simp)
    exact List.length_pos_of_mem this
theorem ClauseSorts (l : List SF) (h : 0 < l.length) : ∃ k, haulierlaw15_ClauseSorts.f k l = some true := by
  refine Ev.rounds ?_
  unfold haulierlaw15_ClauseSorts.f
  by_cases hl : (l.length : Int) > 60
  · exact Ev.congr (fun k => if_pos hl) alive15
  · refine Ev.congr (fun k => if_neg hl) ?_
    have hn := sortU_len l
    have hp := sortU_pos l h
    have e1 : clause_Sort.f l = some (sortU l) := if_pos ⟨h, by omega⟩
    have e2 : clause_Sort.f (sortU l) = some (sortU l) := (if_pos ⟨hp, by omega⟩).trans (by rw [sortU_twice])
    simp only [e1, Option.bind_some]
    refine Ev.bind (f := fun k t => _) (refSort_tells l (by omega)) ?_
    refine Ev.bind (f := fun k t => _) (Same_tells (sortU l) (by omega)) ?_
    refine Ev.congr (fun k => if_pos rfl) ?_
    simp only [e2, Option.bind_some]
    refine Ev.bind (f := fun k t => _) (Same_tells (sortU l) (by omega)) ?_
    exact Ev.congr (fun k => if_pos rfl) alive15
theorem and_rounds {α β : Type} {g : Nat → Option α} {h : Nat → Option β} {a : α} {b : β} (h1 : Ev g a) (h2 : Ev h b) : Ev (fun k => (g k).bind fun x => (h k).map fun y => (x, y)) (a, b) := by
  obtain ⟨K, h1⟩ := h1
  obtain ⟨K', h2⟩ := h2
  exact ⟨K + K', fun k hk => by simp only [h1 k (by omega), h2 k (by omega)]; rfl⟩
/-- What the law asks at no finding at all. -/
theorem none_rounds : ∃ k, haulierref15_Sort.f k [] = some [] ∧ haulierref15_Same.f k [] [] = some true ∧ haulierlaw15_alive.f k = some true := by
  obtain ⟨K1, h1⟩ := refSort_tells [] (by simp)
  obtain ⟨K2, h2⟩ := Same_tells [] (by simp)
  obtain ⟨K3, h3⟩ := alive15'
  exact ⟨K1 + K2 + K3, h1 _ (by omega), h2 _ (by omega), h3 _ (by omega)⟩
end Go.Proofs.YtaaiamfolbcchaaDoor.Pure

/- What the laws PaperBack, PaperAgain and PaperCut tell, of whatever may be handed in. No condition. -/
import Derived.Test.YtieenbjncimikaaGreatDoorBVC
set_option linter.all false
open Go Go.AM Go.Proofs Go.AM.Pl
set_option maxRecDepth 100000
set_option maxHeartbeats 4000000
namespace ZD
theorem parR_smV {l : List UInt8} (hty : ∀ ls, lin [] l = some ls → Tx ls) : (parR l).1.sm := by
  have h0 : dep0.sm := ⟨rfl, by simp [dep0], by simp [dep0], by simp [dep0], by simp [dep0], by simp [dep0], by simp [dep0]⟩
  unfold parR
  split
  · rename_i ls hl
    obtain ⟨h1, _⟩ := all_ok ls
    rw [h1]
    split
    · have hd : (allX ls).d = (ph ls 6).d := by
        show (checkX (ph ls 6)).d = _
        unfold checkX; split
        · split <;> rfl
        · rfl
      simp only
      rw [hd]; exact (ph6 (hty ls hl)).2
    · exact h0
  · exact h0
theorem lin_smallV {l : List UInt8} {ls : List Ln} (h : lin [] l = some ls) : ls.length ≤ l.length ∧ ∀ x ∈ ls, x.length ≤ l.length := by
  have e := lin_back l [] ls h
  simp only [List.nil_append] at e
  have key : ∀ a : List Ln, a.length ≤ (unl a).length ∧ ∀ x ∈ a, x.length ≤ (unl a).length := by
    intro a
    induction a with
    | nil => simp
    | cons s a ih =>
      rw [unl_cons]
      simp only [List.length_append, List.length_cons]
      refine ⟨by omega, fun x hx => ?_⟩
      rcases List.mem_cons.1 hx with rfl | hx
      · omega
      · have := ih.2 x hx; omega
  rw [e]; exact key ls
theorem ords_n {l : List Ord} {n : Int} (h : (ordsC l n).2 = 0) : l.length ≤ 2000 ∧ ∀ o ∈ l, o.os.length ≤ 8 := by
  unfold ordsC at h
  split at h
  · simp at h
  refine ⟨by omega, fun o ho => ?_⟩
  have hn : scan (ordF l n) 0 l = none := by
    cases hs : scan (ordF l n) 0 l with
    | none => rfl
    | some e =>
      obtain ⟨i, x, h1, _⟩ := scan_some _ 0 hs
      rw [hs] at h
      unfold ordF at h1
      split at h1
      · rename_i z; cases h1; exact absurd h z
      split at h1
      · cases h1; simp at h
      split at h1
      · cases h1; simp at h
      · cases h1
  obtain ⟨i, hi, rfl⟩ := List.mem_iff_getElem.1 ho
  have hr := scan_all _ 0 hn i hi
  unfold ordF at hr
  by_cases z : ordC l[i] n = 0
  case neg => rw [if_pos z] at hr; cases hr
  unfold ordC at z
  split at z
  · simp at z
  split at z
  · simp at z
  split at z
  · simp at z
  unfold winC at z
  split at z
  · simp at z
  split at z
  · simp at z
  omega
theorem trks_n {l : List Trk} {n : Int} (h : (trksC l n).2 = 0) : l.length ≤ 100 := by
  unfold trksC at h
  split at h
  · simp at h
  · omega
theorem tell_of {d : Dep} (hb : d.bk.length = 19) (h : (depC d).2.2 = 0) (hp : ∀ t ∈ d.trks, t.past.length ≤ 4000) : d.tell := by
  have m9 : M9 = 1000000000 := rfl
  obtain ⟨b1, b2, w1, w2, o1, t1, t2⟩ := rd_of hb h
  have ho : (ordsC d.ords d.ways.length).2 = 0 := by
    unfold depC at h
    split at h
    · simp at h
    split at h
    · rename_i q; exact absurd h q
    split at h
    · rename_i q; exact absurd h q
    · rename_i q; exact Decidable.of_not_not q
  obtain ⟨n1, n2⟩ := ords_n ho
  have n3 := trks_n (depC_0 h)
  have i : ∀ n : Int, 0 ≤ n ∧ n ≤ M9 → i64B n := fun n hn => by unfold i64B; omega
  refine ⟨fun n hn => i n (b2 n hn), fun l hl => ⟨fun n hn => i n ((w2 l hl).2 n hn), by have := (w2 l hl).1; omega⟩, by omega, fun o ho => ?_, by omega, fun t ht => ?_, by omega⟩
  · obtain ⟨q1, q2, q3, q4, q5⟩ := o1 o ho
    have := n2 o ho
    exact ⟨⟨i _ q1, i _ q2, by unfold i64B; omega, i _ q4, fun s hs => by have := q5 s hs; unfold spanB64 i64B; omega, by omega⟩, by omega⟩
  · have := t1 t ht
    exact ⟨⟨i _ (this _ (by simp [trkNs])), i _ (this _ (by simp [trkNs])), i _ (this _ (by simp [trkNs])), i _ (this _ (by simp [trkNs])), i _ (this _ (by simp [trkNs]))⟩, fun r hr => by have := t2 t ht r hr; exact ⟨this.1, by unfold i64B; omega, by unfold i64B; omega⟩, hp t ht⟩
theorem mem_len {α β : Type} {f : α → List β} : ∀ {l : List α} {x : α}, x ∈ l → (f x).length ≤ (l.flatMap f).length
  | [], _, h => by cases h
  | a :: r, x, h => by
    rw [List.flatMap_cons, List.length_append]
    rcases List.mem_cons.1 h with rfl | h
    · omega
    · have := mem_len (f := f) h; omega
theorem past_n {d : Dep} {t : Trk} (ht : t ∈ d.trks) : t.past.length ≤ (lnD d).length := by
  have := mem_len (f := trkWs) ht
  have e : (trkWs t).length = t.past.length + 1 := by simp [trkWs]
  unfold lnD wsD
  simp only [List.length_map, List.length_cons, List.length_append]
  omega
/-- THE LAW PaperAgain. -/
theorem s9 {lo : Nat} {l : List UInt8} {h : H} : den cx lo 9 [.t l] h = some (.b true, h) := by
  have e21 := fun lo => s21 (lo := lo) (h := h)
  by_cases q : 4000 < l.length
  · have q' : (4000 : Int) < (l.length : Int) := by omega
    refine den_pure (fn := Tryz.f9) (by rfl) (by rfl) (by rfl) (by rfl) (by simp [Tryz.f9]) (by simp) ?_
    simp (maxSteps := 2000000) (disch := first | omega | (simp; done) | (simp; omega) | assumption) [Tryz.f9, argsE, isC, q, q', e21]
  have q' : ¬ ((4000 : Int) < (l.length : Int)) := by omega
  have htx : ∀ ls, lin [] l = some ls → Tx ls := fun ls hl => by
    have := lin_smallV hl
    exact ⟨fun x hx => by have := this.2 x hx; omega, by have := this.1; omega⟩
  have e24 := fun lo => s24 (lo := lo) (h := h) (by omega) htx
  have hsm := parR_smV htx
  have hpb := par_back (l := l)
  have hpd := par_bad (l := l)
  unfold parV at e24
  obtain ⟨⟨d, a, e⟩, hP⟩ : ∃ P, parR l = P := ⟨_, rfl⟩
  rw [hP] at e24 hsm hpb hpd
  simp only at e24 hsm hpb hpd
  obtain ⟨D, hDv, n22, n19, t22, t19, fD, d19, d20, d21⟩ := deps hsm.1
  have hDl := dl22 hsm.1 hDv
  have hwr := wr_all z55_len hDl (by omega)
  by_cases he : e = 0
  · obtain ⟨p1, p2, ls, p3, p4⟩ := hpb he
    have ht := tell_of hsm.1 p2 fun t ht => by
      have h1 := past_n ht
      rw [p4] at h1
      have := (lin_smallV p3).1; omega
    have e22 := fun lo => s22 (lo := lo) (h := h) hsm fun _ => ht
    unfold prtD at e22
    rw [if_pos p2, p1] at e22
    rw [hDv] at e24 e22
    simp only at e22
    refine den_pure (fn := Tryz.f9) (by rfl) (by rfl) (by rfl) (by rfl) (by simp [Tryz.f9]) (by simp) ?_
    simp (maxSteps := 2000000) (disch := first | omega | (simp; done) | (simp; omega) | assumption) [Tryz.f9, argsE, -zo55, z55_lit, isC, boxV, boxO, fresh_no, List.filter_cons, setB, aggN, op_build, List.set, q, q', e24, e22, z55_len, hDl, hwr, t22, fD, e21, he]
  · obtain ⟨p1, p2, p3⟩ := hpd he
    subst p1
    have e28 := fun lo => s28 (lo := lo) (d := dep0) (h := h) hsm
    have hz : fgL z55 = D := by rw [z55_fg]; exact V.agg.inj hDv
    rw [hDv] at e24 e28
    have e28z : ∀ lo, den cx lo 28 [.agg D, .agg [V.s (Value.int IntKind.i64 0), V.s (Value.int IntKind.i64 0), V.s (Value.int IntKind.i64 0), V.s (Value.int IntKind.i64 0), V.s (Value.int IntKind.i64 0), V.s (Value.int IntKind.i64 0), V.s (Value.int IntKind.i64 0), V.s (Value.int IntKind.i64 0), V.s (Value.int IntKind.i64 0), V.s (Value.int IntKind.i64 0), V.s (Value.int IntKind.i64 0), V.s (Value.int IntKind.i64 0), V.s (Value.int IntKind.i64 0), V.s (Value.int IntKind.i64 0), V.s (Value.int IntKind.i64 0), V.s (Value.int IntKind.i64 0), V.s (Value.int IntKind.i64 0), V.s (Value.int IntKind.i64 0), V.s (Value.int IntKind.i64 0), AM.vs .dead 0 [], AM.vs .dead 0 [], AM.vs .dead 0 []]] h = some (.b true, h) := fun lo => by
      show den cx lo 28 [.agg D, .agg (fgL z55)] h = _
      rw [hz]; exact e28 lo
    refine den_pure (fn := Tryz.f9) (by rfl) (by rfl) (by rfl) (by rfl) (by simp [Tryz.f9]) (by simp) ?_
    simp (maxSteps := 2000000) (disch := first | omega | (simp; done) | (simp; omega) | assumption) [Tryz.f9, argsE, -zo55, z55_lit, isC, boxV, boxO, fresh_no, List.filter_cons, setB, aggN, op_build, List.set, q, q', e24, e28z, z55_len, hDl, hwr, t22, fD, e21, he, p2, p3]
/-- THE LAW PaperCut. -/
theorem s7 {lo : Nat} {d : Dep} {k : Int} {h : H} (hr : d.rng) : den cx lo 7 [d.v, .i k] h = some (.b true, h) := by
  have hb := hr.1
  have e20 := fun lo => s20 (lo := lo) (h := h) hr.1
  have e21 := fun lo => s21 (lo := lo) (h := h)
  obtain ⟨D, hDv, n22, n19, t22, t19, fD, d19, d20, d21⟩ := deps hr.1
  cases q : lgtD d with
  | false =>
    rw [q] at e20
    refine den_pure (fn := Tryz.f7) (by rfl) (by rfl) (by rfl) (by rfl) (by simp [Tryz.f7]) (by simp) ?_
    rw [hDv] at e20 ⊢
    simp (maxSteps := 2000000) (disch := first | omega | (simp; done) | (simp; omega) | assumption) [Tryz.f7, argsE, isC, boxV, boxO, fresh_no, List.filter_cons, setB, aggN, op_build, List.set, n22, t22, fD, e20, e21]
  | true =>
    obtain ⟨hs, ht⟩ := lgt_sm hr q
    have e22 := fun lo => s22 (lo := lo) (h := h) hs ht
    rw [q] at e20
    unfold prtD at e22
    by_cases hc : (depC d).2.2 = 0
    case neg =>
      rw [if_neg hc] at e22
      rw [hDv] at e20 e22
      refine den_pure (fn := Tryz.f7) (by rfl) (by rfl) (by rfl) (by rfl) (by simp [Tryz.f7]) (by simp) ?_
      rw [hDv]
      simp (maxSteps := 2000000) (disch := first | omega | (simp; done) | (simp; omega) | assumption) [Tryz.f7, argsE, isC, boxV, boxO, fresh_no, List.filter_cons, setB, aggN, op_build, List.set, n22, t22, fD, e20, e21, e22, hc]
    rw [if_pos hc] at e22
    have ht := ht hc
    have hrd := rd_of hb hc
    obtain ⟨T, hTT⟩ : ∃ T, depT d = T := ⟨_, rfl⟩
    rw [hTT] at e22
    rw [hDv] at e20 e22
    by_cases k1 : k < 0
    · refine den_pure (fn := Tryz.f7) (by rfl) (by rfl) (by rfl) (by rfl) (by simp [Tryz.f7]) (by simp) ?_
      rw [hDv]
      simp (maxSteps := 2000000) (disch := first | omega | (simp; done) | (simp; omega) | assumption) [Tryz.f7, argsE, isC, boxV, boxO, fresh_no, List.filter_cons, setB, aggN, op_build, List.set, n22, t22, fD, e20, e21, e22, k1]
    by_cases k2 : (T.length : Int) ≤ k
    · refine den_pure (fn := Tryz.f7) (by rfl) (by rfl) (by rfl) (by rfl) (by simp [Tryz.f7]) (by simp) ?_
      rw [hDv]
      simp (maxSteps := 2000000) (disch := first | omega | (simp; done) | (simp; omega) | assumption) [Tryz.f7, argsE, isC, boxV, boxO, fresh_no, List.filter_cons, setB, aggN, op_build, List.set, n22, t22, fD, e20, e21, e22, k1, k2]
    obtain ⟨n, rfl⟩ : ∃ n : Nat, k = n := ⟨k.toNat, by omega⟩
    have hn : n < T.length := by omega
    have e24 := fun lo => s24 (lo := lo) (l := T.take n) (h := h) (by have := dep_len ht hb; rw [hTT] at this; simp; omega) (fun ls hl => by rw [← hTT] at hl; exact lin_take_tx hrd (ln_tx ht hb) ls hl)
    have hpc := par_cut hb hc (k := n) (by rw [hTT]; exact hn)
    rw [hTT] at hpc
    unfold parV at e24
    rw [hpc] at e24
    simp only at e24
    obtain ⟨Z, hZv, _, _, _, _, fZ, _, _, _⟩ := deps (d := dep0) rfl
    rw [hZv] at e24
    have hZl := dl22 (d := dep0) rfl hZv
    have hwr := wr_all z55_len hZl (by omega)
    refine den_pure (fn := Tryz.f7) (by rfl) (by rfl) (by rfl) (by rfl) (by simp [Tryz.f7]) (by simp) ?_
    rw [hDv]
    simp (maxSteps := 2000000) (disch := first | omega | (simp; done) | (simp; omega) | assumption) [Tryz.f7, argsE, -zo55, z55_lit, isC, boxV, boxO, fresh_no, List.filter_cons, setB, aggN, op_build, List.set, n22, t22, fD, e20, e21, e22, k1, k2, e24, z55_len, hZl, hwr, fZ, hn]
end ZD
open Go Go.AM Go.Proofs Go.AM.Pl
set_option maxRecDepth 100000
set_option maxHeartbeats 4000000
namespace ZD
theorem argS {v : V} (h : TArg cx.P 6 9 v) : ∃ l : List UInt8, v = .t l := by
  obtain ⟨us, rfl, h⟩ := h
  obtain ⟨l, rfl⟩ := tv_str (m := 5) u9' h
  exact ⟨l, by simp [AM.mkV, u9']⟩
theorem argI {v : V} (h : TArg cx.P 6 3 v) : ∃ n : Int, v = .i n := by
  obtain ⟨us, rfl, h⟩ := h
  obtain ⟨n, rfl, _⟩ := tv_i64 (m := 5) u3' h
  exact ⟨n, by simp [AM.mkV, u3']⟩
/-- The laws, on all that may be handed in. -/
theorem law7 {a b : V} (ha : TArg cx.P 6 55 a) (hb : TArg cx.P 6 3 b) : ∃ k h', denK cx k 0 7 [a, b] [] = some (.b true, h') := by
  obtain ⟨d, rfl, hr⟩ := arg55 ha
  obtain ⟨n, rfl⟩ := argI hb
  obtain ⟨k, hk⟩ := den_iff.1 (s7 (lo := 0) (k := n) (h := []) hr)
  exact ⟨k, _, hk⟩
theorem law8 {a : V} (ha : TArg cx.P 6 55 a) : ∃ k h', denK cx k 0 8 [a] [] = some (.b true, h') := by
  obtain ⟨d, rfl, hr⟩ := arg55 ha
  obtain ⟨k, hk⟩ := den_iff.1 (s8 (lo := 0) (h := []) hr)
  exact ⟨k, _, hk⟩
theorem law9 {a : V} (ha : TArg cx.P 6 9 a) : ∃ k h', denK cx k 0 9 [a] [] = some (.b true, h') := by
  obtain ⟨l, rfl⟩ := argS ha
  obtain ⟨k, hk⟩ := den_iff.1 (s9 (lo := 0) (l := l) (h := []))
  exact ⟨k, _, hk⟩
end ZD

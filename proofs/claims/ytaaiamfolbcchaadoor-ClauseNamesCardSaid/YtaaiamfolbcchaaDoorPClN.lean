/- The plain law of ClauseNames (layer 15). -/
import Derived.Test.YtaaiamfolbcchaaDoorX24
import Derived.Test.YtaaiamfolbcchaaDoorPClA
import Derived.OpenShut
namespace Go.Proofs.YtaaiamfolbcchaaDoor.Pure
set_option linter.unusedVariables false
set_option linter.unusedSimpArgs false
open Go.RowKit Go.Proofs.YtaaiamfolbcchaaDoor.Y0 Go.Proofs.YtaaiamfolbcchaaDoor.X1 Go.Proofs.YtaaiamfolbcchaaDoor.X2 Go.Proofs.YtaaiamfolbcchaaDoor.Ext Go.Proofs.YtaaiamfolbcchaaDoorW.PrintWords Go.Proofs.YtaaiamfolbcchaaDoorW.PrintLast Go.Proofs.YtaaiamfolbcchaaDoorW.PrintMore

theorem same_ints (xs : List Int) (hn : xs.length ≤ 4294967290) : Ev (fun k => haulierref07_Same.f k xs xs) true := by
  unfold haulierref07_Same.f
  refine Ev.congr (f := fun k => haulierref07_Same.l0 k xs xs 0) (fun k => by rw [if_pos rfl]) ?_
  suffices H : ∀ (d i : Nat), i + d = xs.length → Ev (fun k => haulierref07_Same.l0 k xs xs (i : Int)) true from H xs.length 0 (by omega)
  intro d
  induction d with
  | zero =>
    intro i hi
    refine Ev.step (f := fun _ => some true) (fun k => ?_) (Ev.now _)
    simp only [haulierref07_Same.l0]
    rw [if_neg (by omega)]
  | succ d ih =>
    intro i hi
    have c1 : (i : Int) < (xs.length : Int) := by omega
    have c2 : (0 : Int) ≤ (i : Int) := by omega
    have e1 : (i : Int) + 1 = ((i + 1 : Nat) : Int) := by omega
    have b1 : -9223372036854775808 ≤ ((i + 1 : Nat) : Int) := by omega
    have b2 : ((i + 1 : Nat) : Int) ≤ 9223372036854775807 := by omega
    refine Ev.step (f := fun k => haulierref07_Same.l0 k xs xs ((i + 1 : Nat) : Int)) (fun k => ?_) (ih (i + 1) (by omega))
    simp only [haulierref07_Same.l0]
    rw [if_pos c1, if_pos c2, if_pos c1, e1, wrp b1 b2]
    simp only [if_true]
theorem names_j2 (c set : Int) (b : Bool) (hb : b = (if isC c then bitC set c.toNat else false)) : Ev (fun k => haulierlaw15_ClauseNames.j2 k c set (allL set 16 0) b false) true := by
  refine Ev.step (f := fun k => ((clause_All.f k set).bind fun t149 => ((haulierref07_Same.f k t149 (allL set 16 0)).bind fun t152 => (if t152 = true then ((clause_In.f set c).bind fun t153 => (if (t153 == b) = true then ((haulierlaw15_alive.f k).bind fun t154 => (some t154)) else (some false))) else (some false))))) (fun k => by simp only [haulierlaw15_ClauseNames.j2]; rw [if_neg (by decide)]) ?_
  refine Ev.bind (f := fun k t149 => _) (All_tells set) ?_
  refine Ev.bind (f := fun k t152 => _) (same_ints _ (by have := allL_len set 16 0; omega)) ?_
  simp only [if_true, In_tells, Option.bind_some, ← hb, BEq.rfl]
  exact alive15
theorem names_j1 (c set : Int) (s : ByteArray) (b : Bool) (hb : b = (if isC c then bitC set c.toNat else false)) :
    Ev (fun k => haulierlaw15_ClauseNames.j1 k c set s (match findR s.data.toList with | some c => ((c : Int), (0 : Int)) | none => (0, 13)).1 (match findR s.data.toList with | some c => ((c : Int), (0 : Int)) | none => (0, 13)).2 (allL set 16 0) b false) true := by
  refine Ev.step (fun k => by simp only [haulierlaw15_ClauseNames.j1]; rw [if_neg (by decide)]) ?_
  refine Ev.bind (f := fun k t148 => _) (refFind_tells s) ?_
  cases findR s.data.toList with
  | none =>
    simp only [if_pos (show (-1 : Int) < 0 by omega), if_true, if_neg (show ¬ (-1 : Int) ≥ 0 by omega)]
    exact names_j2 c set b hb
  | some x =>
    simp only [if_neg (show ¬ (x : Int) < 0 by omega), if_true, if_pos (show (x : Int) ≥ 0 by omega), bne_self_eq_false]
    exact names_j2 c set b hb
theorem names_loop (c set : Int) (s : ByteArray) (x11 x12 : Int) (r : Bool) (hj : Ev (fun k => haulierlaw15_ClauseNames.j1 k c set s x11 x12 (allL set 16 0) (decide (c ∈ allL set 16 0)) false) r) (ys : List Int) (hy : ys.length ≤ 100) :
    ∀ (d i : Nat) (b : Bool), i + d = ys.length → (decide (c ∈ allL set 16 0) = (b || decide (c ∈ ys.drop i))) →
    Ev (fun k => haulierlaw15_ClauseNames.l0 k c set s (mk (nameR c)) (if isC c then 0 else 13) (mk (articleR c)) (if isC c then 0 else 13) x11 x12 (allL set 16 0) b ys (ys.length : Int) (i : Int)) r := by
  intro d
  induction d with
  | zero =>
    intro i b hi hb
    rw [List.drop_of_length_le (by omega)] at hb
    have hb' : decide (c ∈ allL set 16 0) = b := by rw [hb]; simp
    rw [hb'] at hj
    refine Ev.step (fun k => ?_) hj
    simp only [haulierlaw15_ClauseNames.l0, refName_tells, refArticle_tells, Option.bind_some, toList_mk]
    rw [if_neg (by omega)]
    by_cases h : isC c
    · have hne := (nameR_ne c).2 h
      simp only [if_pos h, if_true, show (nameR c != []) = true by simpa using hne, BEq.rfl, bne_self_eq_false, Bool.false_eq_true, if_false]
    · have hne : nameR c = [] := by
        by_cases e : nameR c = []
        · exact e
        · exact absurd ((nameR_ne c).1 e) h
      simp only [if_neg h, if_true, hne, bne_self_eq_false, show ((13 : Int) == 0) = false by decide, Bool.false_eq_true, if_false, if_neg (show ¬ ((13 : Int) = 0) by decide)]
  | succ d ih =>
    intro i b hi hb
    have hl : i < ys.length := by omega
    have c1 : (i : Int) < (ys.length : Int) := by omega
    have c2 : (0 : Int) ≤ (i : Int) := by omega
    have e1 : (i : Int) + 1 = ((i + 1 : Nat) : Int) := by omega
    have b1 : -9223372036854775808 ≤ ((i + 1 : Nat) : Int) := by omega
    have b2 : ((i + 1 : Nat) : Int) ≤ 9223372036854775807 := by omega
    have hrd : rd ys (i : Int) = ys[i] := by simp [rd, List.getD_eq_getElem?_getD, hl]
    rw [List.drop_eq_getElem_cons hl] at hb
    cases b with
    | true =>
      refine Ev.step (fun k => ?_) (ih (i + 1) true (by omega) (by rw [hb]; simp))
      simp only [haulierlaw15_ClauseNames.l0]
      rw [if_pos c1, if_pos c2, if_pos c1, e1, wrp b1 b2]
      simp only [if_true]
    | false =>
      refine Ev.step (fun k => ?_) (ih (i + 1) (ys[i] == c) (by omega) (by
        rw [hb]
        by_cases e : ys[i] = c
        · rw [beq_iff_eq.mpr e]
          simp only [Bool.false_or, Bool.true_or, List.mem_cons, e, true_or, decide_true]
        · have e2 : ¬ c = ys[i] := fun h => e h.symm
          rw [beq_eq_false_iff_ne.mpr e]
          simp only [Bool.false_or, List.mem_cons, e2, false_or]))
      simp only [haulierlaw15_ClauseNames.l0]
      rw [if_pos c1, if_pos c2, if_pos c1, if_neg (by decide), hrd, e1, wrp b1 b2]
theorem ClauseNames (c set : Int) (s : ByteArray) (hc : (Lit.int .i64 c).wf = true) (hset : (Lit.int .i64 set).wf = true) (hs : s.size ≤ 140737488351232) : ∃ k, haulierlaw15_ClauseNames.f k c set s = some true := by
  apply Ev.rounds
  unfold haulierlaw15_ClauseNames.f
  by_cases hl : (s.size : Int) > 100
  · exact Ev.congr (fun k => by rw [if_pos hl]) alive15
  refine Ev.congr (fun k => by rw [if_neg hl]) ?_
  simp only [Name_tells, Article_tells, Option.bind_some]
  refine Ev.bind (f := fun k bt140 => _) (Find_tells s) ?_
  refine Ev.bind (f := fun k t142 => _) (refAll_tells set) ?_
  have hlen := allL_len set 16 0
  refine names_loop c set s _ _ true (names_j1 c set s _ ?_) (allL set 16 0) (by omega) _ 0 false (Nat.zero_add _) (by simp)
  have hm := allL_mem set c 16 0
  by_cases h : isC c
  · rw [if_pos h]
    cases hb : bitC set c.toNat with
    | true => exact decide_eq_true (hm.2 ⟨h.1, h.2, hb⟩)
    | false => exact decide_eq_false (fun e => by rw [(hm.1 e).2.2] at hb; cases hb)
  · rw [if_neg h]
    exact decide_eq_false (fun e => h ⟨(hm.1 e).1, (hm.1 e).2.1⟩)
end Go.Proofs.YtaaiamfolbcchaaDoor.Pure

/- The plain law of WordBack: words that are joined are split again; numbers and spans are read as they were told. -/
import Derived.Test.YtaaiamfolbcchaaDoorX17
import Derived.Test.YtaaiamfolbcchaaDoorPWordD
import Derived.OpenShut
namespace Go.Proofs.YtaaiamfolbcchaaDoor.Pure
set_option linter.unusedVariables false
set_option linter.unusedSimpArgs false
open Go.RowKit Go.Proofs.YtaaiamfolbcchaaDoor.Y0 Go.Proofs.YtaaiamfolbcchaaDoor.X1 Go.Proofs.YtaaiamfolbcchaaDoor.Ext Go.Proofs.YtaaiamfolbcchaaDoorW.PrintWords Go.Proofs.YtaaiamfolbcchaaDoorW.PrintLast Go.Proofs.YtaaiamfolbcchaaDoorW.PrintMore

theorem back_al : Ev (fun k => (haulierlaw06_alive.f k).bind fun t => some t) true := Ev.bind (f := fun _ t => some t) alive_tells (Ev.now _)
theorem back_j3 (a b : Int) (g : Int) (x y : Int) (c : Bool) (hc : c = decide (0 ≤ a ∧ a < b ∧ b ≤ 40320)) (hs : (x, y, g) = spanB a b) : Ev (fun k => haulierlaw06_WordBack.j3 k g c a b x y) true := by
  subst hc
  refine Ev.step (f := fun k => (haulierlaw06_alive.f k).bind fun t => some t) (fun k => ?_) back_al
  simp only [haulierlaw06_WordBack.j3]
  unfold spanB at hs
  by_cases h : 0 ≤ a ∧ a < b ∧ b ≤ 40320
  · rw [if_pos ⟨h.1, by omega⟩, if_pos ⟨by omega, by omega⟩, if_neg (by omega)] at hs
    simp only [Prod.mk.injEq] at hs
    obtain ⟨rfl, rfl, rfl⟩ := hs
    rw [decide_eq_true h, if_pos rfl, if_pos (by simp), if_pos rfl]
  · have hz : x = 0 ∧ y = 0 ∧ g ≠ 0 := by
      split at hs
      · split at hs
        · split at hs
          · simp only [Prod.mk.injEq] at hs; omega
          · exfalso; rename_i h1 h2 h3; exact h ⟨h1.1, by omega, h2.2⟩
        · simp only [Prod.mk.injEq] at hs; omega
      · simp only [Prod.mk.injEq] at hs; omega
    obtain ⟨rfl, rfl, hg⟩ := hz
    rw [decide_eq_false h, if_neg (by decide), if_pos (by simp), if_neg hg]
theorem back_j2 (a b : Int) (ha : i64B a) (hb : i64B b) : Ev (fun k => haulierlaw06_WordBack.j2 k false a b) true := by
  have la := itoa_len a ha.1 ha.2
  have lb := itoa_len b hb.1 hb.2
  have sp := Span_tells (mk (toldL a b)) (by rw [size_mk]; simp [toldL]; omega)
  rw [data_mk, span_told a b ha hb] at sp
  refine Ev.step (f := fun k => ((word_Told.f a b).bind fun t186 => ((word_Span.f k t186).bind fun bt187 => (if a ≥ 0 then (if a < b then (haulierlaw06_WordBack.j3 k bt187.2.2 (decide (b ≤ 40320)) a b bt187.1 bt187.2.1) else (haulierlaw06_WordBack.j3 k bt187.2.2 false a b bt187.1 bt187.2.1)) else (haulierlaw06_WordBack.j3 k bt187.2.2 false a b bt187.1 bt187.2.1))))) (fun k => by simp only [haulierlaw06_WordBack.j2]; rw [if_neg (by decide)]) ?_
  rw [Told_tells a b ha hb]
  simp only [Option.bind_some]
  refine Ev.bind (f := fun k bt187 => _) sp ?_
  by_cases h1 : a ≥ 0
  · by_cases h2 : a < b
    · simp only [if_pos h1, if_pos h2]
      exact back_j3 a b _ _ _ _ (by by_cases h3 : b ≤ 40320 <;> simp [h1, h2, h3]) rfl
    · simp only [if_pos h1, if_neg h2]
      exact back_j3 a b _ _ _ _ (by simp [h2]) rfl
  · simp only [if_neg h1]
    exact back_j3 a b _ _ _ _ (by simp; omega) rfl
theorem back_j1 (n a b : Int) (hn : i64B n) (ha : i64B a) (hb : i64B b) : Ev (fun k => haulierlaw06_WordBack.j1 k n a b) true := by
  have hl := itoa_len n hn.1 hn.2
  have nu := Number_tells (mk (Lib.itoa n)) n (by rw [size_mk]; omega)
  rw [data_mk] at nu
  refine Ev.step (f := fun k => (word_Print.f n).bind fun t183 => ((word_Number.f k t183 n).bind fun bt184 => (if n ≥ 0 then (if bt184.1 = n then (if bt184.2 = 0 then (if n < 0 then (haulierlaw06_WordBack.j2 k (bt184.2 != 7) a b) else (haulierlaw06_WordBack.j2 k false a b)) else (haulierlaw06_WordBack.j2 k true a b)) else (haulierlaw06_WordBack.j2 k true a b)) else (if n < 0 then (haulierlaw06_WordBack.j2 k (bt184.2 != 7) a b) else (haulierlaw06_WordBack.j2 k false a b))))) (fun k => by simp only [haulierlaw06_WordBack.j1]) ?_
  rw [Print_tells n hn.1 hn.2]
  simp only [Option.bind_some]
  refine Ev.bind (f := fun k bt184 => _) nu ?_
  by_cases h : 0 ≤ n
  · rw [numR_itoa n h hn.2, if_neg (by omega)]
    simp only [if_pos (show n ≥ 0 from h), if_true, if_neg (show ¬ n < 0 by omega)]
    exact back_j2 a b ha hb
  · rw [numR_minus n (by omega)]
    simp only [if_neg (show ¬ n ≥ 0 from h), if_pos (show n < 0 by omega)]
    exact back_j2 a b ha hb
theorem back_l0 (s : ByteArray) (n a b : Int) (hs : s.size ≤ 4294967280) (ws : List (Nat × List UInt8)) (hw : splR s.data.toList = .ok ws) (hn : i64B n) (ha : i64B a) (hb : i64B b) :
    ∀ (d i : Nat), i + d = ws.length → Ev (fun k => haulierlaw06_WordBack.l0 k s n ((ws.take i).map fun x => mk x.2) (ws.map toW) ((ws.map toW).length : Int) (i : Int) a b) true := by
  have hsz : s.size = s.data.toList.length := Lib.size_eq s
  obtain ⟨hj, hat⟩ := splR_ok hw
  have hwl : ws.length ≤ s.size + 1 := by
    have := join_len (ws.map (·.2))
    rw [hj, List.length_map] at this
    omega
  intro d
  induction d with
  | zero =>
    intro i hi
    refine Ev.step (f := fun k => haulierlaw06_WordBack.j1 k n a b) (fun k => ?_) (back_j1 n a b hn ha hb)
    have e1 : joinB ((ws.take i).map fun x => mk x.2) (strOfNums [32]) = s.data.toList := by
      rw [List.take_of_length_le (by omega)]
      unfold joinB
      rw [show ((ws.map fun x => mk x.2).map (·.data.toList)) = ws.map (·.2) by rw [List.map_map]; rfl, show (strOfNums [32]).data.toList = [32] from rfl, hj]
    have hJ : word_Join.f ((ws.take i).map fun x => mk x.2) = some s := by
      unfold word_Join.f strings_Join.f
      rw [e1, if_pos ⟨by simp; omega, by omega⟩]
      rfl
    simp only [haulierlaw06_WordBack.l0]
    rw [if_neg (by simp; omega), hJ]
    simp only [Option.bind_some, if_true]
  | succ d ih =>
    intro i hi
    have hl : i < ws.length := by omega
    obtain ⟨hx1, hx2⟩ := hat ws[i] (List.getElem_mem hl)
    refine Ev.step (f := fun k => haulierlaw06_WordBack.l0 k s n ((ws.take (i + 1)).map fun x => mk x.2) (ws.map toW) ((ws.map toW).length : Int) ((i + 1 : Nat) : Int) a b) (fun k => ?_) (ih (i + 1) (by omega))
    have r1 : rd_T54 (ws.map toW) (i : Int) = toW ws[i] := by simp [rd_T54, List.getD_eq_getElem?_getD, hl]
    have f0 : (toW ws[i]).f0 = (ws[i].1 : Int) := rfl
    have f1 : (toW ws[i]).f1 = mk ws[i].2 := rfl
    have z1 : ((mk ws[i].2).size : Int) = (ws[i].2.length : Int) := rfl
    have x1 : s.extract (ws[i].1 : Int).toNat ((ws[i].1 + ws[i].2.length : Nat) : Int).toNat = mk ws[i].2 := by
      rw [Int.toNat_natCast, Int.toNat_natCast]
      have e := extract_mk s.data.toList ws[i].1 (ws[i].1 + ws[i].2.length)
      rw [mk_data, show ws[i].1 + ws[i].2.length - ws[i].1 = ws[i].2.length by omega, hx2] at e
      exact e
    have ht : (ws.take (i + 1)).map (fun x => mk x.2) = (ws.take i).map (fun x => mk x.2) ++ [mk ws[i].2] := by
      rw [List.take_add_one, List.getElem?_eq_getElem hl, Option.toList_some, List.map_append]
      rfl
    have c1 : (i : Int) < ((ws.map toW).length : Int) := by rw [List.length_map]; omega
    have c2 : (0 : Int) ≤ (i : Int) := by omega
    have c3 : ((ws.take i).map fun x => mk x.2).length < 8796093022208 := by rw [List.length_map, List.length_take]; omega
    have c4 : ¬ ((ws[i].1 : Int) < 0) := by omega
    have c5 : ¬ ((ws[i].1 : Int) > (s.size : Int) - (ws[i].2.length : Int)) := by omega
    have c6 : (0 : Int) ≤ (ws[i].1 : Int) := by omega
    have c7 : (ws[i].1 : Int) ≤ ((ws[i].1 + ws[i].2.length : Nat) : Int) := by omega
    have c8 : ((ws[i].1 + ws[i].2.length : Nat) : Int) ≤ (s.size : Int) := by omega
    have e1 : (i : Int) + 1 = ((i + 1 : Nat) : Int) := by omega
    have e3 : (ws[i].1 : Int) + (ws[i].2.length : Int) = ((ws[i].1 + ws[i].2.length : Nat) : Int) := by omega
    have b1 : -9223372036854775808 ≤ ((i + 1 : Nat) : Int) := by omega
    have b2 : ((i + 1 : Nat) : Int) ≤ 9223372036854775807 := by omega
    have b3 : -9223372036854775808 ≤ (s.size : Int) - (ws[i].2.length : Int) := by omega
    have b4 : (s.size : Int) - (ws[i].2.length : Int) ≤ 9223372036854775807 := by omega
    have b5 : -9223372036854775808 ≤ ((ws[i].1 + ws[i].2.length : Nat) : Int) := by omega
    have b6 : ((ws[i].1 + ws[i].2.length : Nat) : Int) ≤ 9223372036854775807 := by omega
    simp only [haulierlaw06_WordBack.l0]
    rw [r1, f0, f1, z1, wrp b3 b4, e3, wrp b5 b6, x1, e1, wrp b1 b2, ht, if_pos c1, if_pos c2, if_pos c1, if_pos c3, if_neg c4, if_neg c5, if_pos c6, if_pos c7, if_pos c8, if_pos rfl]
theorem WordBack (s : ByteArray) (n a b : Int) (hs : s.size ≤ 140737488351232) (hn : (Lit.int .i64 n).wf = true) (ha : (Lit.int .i64 a).wf = true) (hb : (Lit.int .i64 b).wf = true) : ∃ k, haulierlaw06_WordBack.f k s n a b = some true := by
  have hn' : i64B n := bounds_i64 hn
  have ha' : i64B a := bounds_i64 ha
  have hb' : i64B b := bounds_i64 hb
  apply Ev.rounds
  unfold haulierlaw06_WordBack.f
  by_cases hl : (s.size : Int) > 2000
  · exact Ev.congr (fun k => by rw [if_pos hl]) back_al
  · refine Ev.congr (fun k => by rw [if_neg hl]) ?_
    refine Ev.bind (f := fun k bt172 => _) (Split_tells' s (by omega)) ?_
    cases hw : splR s.data.toList with
    | error p =>
      simp only [resW, if_neg (show ¬ ((7 : Int) = 0) by decide)]
      exact back_j1 n a b hn' ha' hb'
    | ok ws =>
      simp only [resW, List.nil_append, if_true]
      exact back_l0 s n a b (by omega) ws hw hn' ha' hb' ws.length 0 (by omega)
end Go.Proofs.YtaaiamfolbcchaaDoor.Pure

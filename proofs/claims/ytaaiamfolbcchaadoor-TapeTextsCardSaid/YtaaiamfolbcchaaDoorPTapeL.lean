/- The plain laws of TapeLines, TapeTexts and TapeBack (layer 10). -/
import Derived.Test.YtaaiamfolbcchaaDoorX42
import Derived.Test.YtaaiamfolbcchaaDoorPTapeB
import Derived.OpenShut
namespace Go.Proofs.YtaaiamfolbcchaaDoor.Pure
set_option linter.unusedVariables false
set_option linter.unusedSimpArgs false
open Go.RowKit Go.Proofs.YtaaiamfolbcchaaDoor.Y0 Go.Proofs.YtaaiamfolbcchaaDoor.X1 Go.Proofs.YtaaiamfolbcchaaDoor.X2 Go.Proofs.YtaaiamfolbcchaaDoor.X3 Go.Proofs.YtaaiamfolbcchaaDoor.X4 Go.Proofs.YtaaiamfolbcchaaDoor.Ext Go.Proofs.YtaaiamfolbcchaaDoorW.PrintWords Go.Proofs.YtaaiamfolbcchaaDoorW.PrintLast Go.Proofs.YtaaiamfolbcchaaDoorW.PrintMore

theorem itoa_small {n : Int} (h : 0 ≤ n) (h1 : n < 10) : Lib.itoa n = [UInt8.ofNat (48 + n.toNat)] := by
  rw [itoa_pos h, Lib.decDigits, dif_pos (by omega)]
theorem alive_print : printR [⟨3, 0, 5⟩] = (mk [68, 32, 48, 45, 53, 10], 0) := by
  unfold printR printL lineOf lineL toldL
  simp only [List.map_cons, List.map_nil, itoa_small (show (0 : Int) ≤ 0 by omega) (by omega), itoa_small (show (0 : Int) ≤ 5 by omega) (by omega)]
  rfl
theorem alive10' : Ev (fun k => haulierlaw10_alive.f k) true := by
  unfold haulierlaw10_alive.f
  have := Print_recs [⟨3, 0, 5⟩] (by simp)
  rw [alive_print] at this
  refine Ev.bind (f := fun k bt104 => _) this ?_
  exact Ev.congr (f := fun _ => some true) (fun k => by rw [toList_mk, if_pos rfl]; rfl) (Ev.now _)
theorem alive10 : Ev (fun k => (haulierlaw10_alive.f k).bind fun t => some t) true := Ev.bind (f := fun _ t => some t) alive10' (Ev.now _)
theorem TapeLines (a b c : Int) (s : ByteArray) (ha : (Lit.int .i64 a).wf = true) (hb : (Lit.int .i64 b).wf = true) (hc : (Lit.int .i64 c).wf = true) (hs : s.size ≤ 140737488351232) : ∃ k, haulierlaw10_TapeLines.f k a b c s = some true := by
  apply Ev.rounds
  unfold haulierlaw10_TapeLines.f
  by_cases hl : (s.size : Int) > 300
  · exact Ev.congr (fun k => by rw [if_pos hl]) alive10
  refine Ev.congr (fun k => by rw [if_neg hl]) ?_
  refine Ev.bind (f := fun k bt => _) (Line_rec a b c) ?_
  refine Ev.bind (f := fun k bt => _) (refLine_rec a b c) ?_
  refine Ev.bind (f := fun k bt => _) (Read_tells s (by omega)) ?_
  refine Ev.bind (f := fun k bt => _) (refRead_tells s (by omega)) ?_
  simp only [if_true, BEq.rfl, Bool.and_self]
  exact alive10
theorem gather_len : ∀ (rest : List (List UInt8)) (n : Int) (out : List Rec), (gatherR rest n out).2.2.length ≤ out.length + rest.length
  | [], _, out => Nat.le_refl _
  | s :: ss, n, out => by
    have ht : (takeR s out).1.length ≤ out.length + 1 := by unfold takeR; split <;> simp
    unfold gatherR
    split
    · have := gather_len ss (n + (s.length + 1 : Nat)) (takeR s out).1
      simp only [List.length_cons]
      omega
    · simp only [List.length_cons]
      omega
theorem parse_len (s : List UInt8) : (parseR s).1.length ≤ s.length := by
  unfold parseR
  cases h : lin [] s with
  | none => simp
  | some ls =>
    have e := lin_size h
    have h1 := unl_len ls
    have h2 := gather_len ls 0 []
    rw [← e] at h1
    unfold finR
    simp only
    split
    · simp only [List.length_nil] at h2
      show (gatherR ls 0 []).2.2.length ≤ _
      omega
    · simp
theorem texts_j0 (l : List Rec) (s : ByteArray) (hl : l.length ≤ 60) (hs : s.size ≤ 2000) : Ev (fun k => haulierlaw10_TapeTexts.j0 k l s false) true := by
  refine Ev.step (fun k => by simp only [haulierlaw10_TapeTexts.j0]; rw [if_neg (by decide)]) ?_
  refine Ev.bind (f := fun k bt => _) (Print_recs l (by omega)) ?_
  refine Ev.bind (f := fun k bt => _) (refPrint_recs l (by omega)) ?_
  refine Ev.bind (f := fun k bt => _) (Parse_recs s (by omega)) ?_
  refine Ev.bind (f := fun k bt => _) (refParse_recs s (by omega)) ?_
  have hp := parse_len s.data.toList
  rw [← Lib.size_eq s] at hp
  simp only [if_true]
  refine Ev.bind (f := fun k bt => _) (Same_recs _ (by omega)) ?_
  simp only [if_true]
  exact alive10
theorem TapeTexts (l : List Rec) (s : ByteArray) (hl : l.length ≤ 9223372036854775807) (hg : ∀ x ∈ l, (Lit.int .i64 x.f0).wf = true ∧ (Lit.int .i64 x.f1).wf = true ∧ (Lit.int .i64 x.f2).wf = true) (hs : s.size ≤ 140737488351232) : ∃ k, haulierlaw10_TapeTexts.f k l s = some true := by
  apply Ev.rounds
  unfold haulierlaw10_TapeTexts.f
  have no : Ev (fun k => haulierlaw10_TapeTexts.j0 k l s true) true := Ev.step (fun k => by simp only [haulierlaw10_TapeTexts.j0]; rw [if_pos trivial]) alive10
  by_cases h1 : (l.length : Int) > 60
  · exact Ev.congr (fun k => by rw [if_pos h1]) no
  · by_cases h2 : (s.size : Int) > 2000
    · exact Ev.congr (fun k => by rw [if_neg h1, decide_eq_true h2]) no
    · exact Ev.congr (fun k => by rw [if_neg h1, decide_eq_false h2]) (texts_j0 l s (by omega) (by omega))
/-- A line is read as its record, and told as it was. -/
theorem letter_prt (a : Int) : prt (letter a) = true := by
  unfold letter
  split
  · decide
  · split
    · decide
    · split <;> decide
theorem kind_letter {a : Int} (h : 0 ≤ a ∧ a < 4) : kindR (letter a) = some a.toNat := by
  rcases kinds4 h with rfl | rfl | rfl | rfl <;> rfl
theorem letter_kind {c : UInt8} {k : Nat} (h : kindR c = some k) : c = letter (k : Int) := by
  unfold kindR at h
  split at h
  · cases h; assumption
  · split at h
    · cases h; assumption
    · split at h
      · cases h; assumption
      · split at h
        · cases h; assumption
        · cases h
theorem line_split {a b c : Int} (hb : 0 ≤ b) (hc : 0 ≤ c) : splR (lineL a b c) = .ok [(0, [letter a]), (2, toldL b c)] := by
  unfold splR lineL
  rw [if_neg (by simp)]
  have h1 : ∀ x ∈ [letter a], prt x = true := fun x hx => by rw [List.mem_singleton.1 hx]; exact letter_prt a
  have := spl_word' [letter a] 0 [] (toldL b c) h1 (by simp)
  rw [show letter a :: 32 :: toldL b c = [letter a] ++ 32 :: toldL b c from rfl, this, spl_last' (toldL b c) _ [] (told_prt' b c hb hc) (by simpa using told_ne' b c)]
  rfl
theorem read_line {r : Rec} (h : faultR r.f0 r.f1 r.f2 = 0) : readW (splR (lineOf r)) = (r.f0, r.f1, r.f2, 0) := by
  obtain ⟨h1, h2, h3, h4⟩ := faultR_ok h
  unfold lineOf
  rw [line_split (by omega) (by omega)]
  show read2 [letter r.f0] (toldL r.f1 r.f2) = _
  unfold read2
  simp only [kind_letter h1, span_ok h2.1 h4 h3.2, if_true]
  rw [Int.toNat_of_nonneg h1.1]
theorem read_canon {s : List UInt8} (h : (readW (splR s)).2.2.2 = 0) : lineOf (recOf (readW (splR s))) = s := by
  cases hw : splR s with
  | error p => rw [hw] at h; exact absurd h (show ¬ ((7 : Int) = 0) by decide)
  | ok ws =>
    rw [hw] at h
    obtain ⟨hj, _⟩ := splR_ok hw
    match ws, h, hj with
    | [], h, _ => exact absurd h (show ¬ ((7 : Int) = 0) by decide)
    | [_], h, _ => exact absurd h (show ¬ ((7 : Int) = 0) by decide)
    | _ :: _ :: _ :: _, h, _ => exact absurd h (show ¬ ((7 : Int) = 0) by decide)
    | [(p0, t0), (p1, t1)], h, hj =>
      have hs : s = t0 ++ 32 :: t1 := by rw [← hj]; simp [Lib.join, List.intercalate]
      change (read2 t0 t1).2.2.2 = 0 at h
      show lineOf (recOf (read2 t0 t1)) = s
      match t0, h, hs with
      | [], h, _ => exact absurd h (show ¬ ((2 : Int) = 0) by decide)
      | _ :: _ :: _, h, _ => exact absurd h (show ¬ ((2 : Int) = 0) by decide)
      | [c], h, hs =>
        unfold read2 at h ⊢
        cases hk : kindR c with
        | none => simp only [hk] at h; exact absurd h (show ¬ ((2 : Int) = 0) by decide)
        | some k =>
          simp only [hk] at h ⊢
          by_cases h0 : (spanR t1).2.2 = 0
          · rw [if_pos h0]
            obtain ⟨e1, _⟩ := span_canon (t := t1) (a := (spanR t1).1) (b := (spanR t1).2.1) (by rw [← h0])
            rw [hs, letter_kind hk]
            unfold lineOf recOf lineL
            simp only
            rw [← e1]
            rfl
          · rw [if_neg h0] at h; exact absurd h h0
theorem chk_prefix (b : List Rec) : ∀ (a : List Rec) (p : Option Int) (i : Nat), (chk p i (a ++ b)).2 = 0 → (chk p i a).2 = 0
  | [], _, _, _ => rfl
  | x :: xs, p, i, h => by
    rw [List.cons_append] at h
    unfold chk at h ⊢
    by_cases hf : faultR x.f0 x.f1 x.f2 = 0
    · rw [if_pos hf] at h ⊢
      cases p with
      | none => exact chk_prefix b xs _ _ h
      | some e =>
        simp only at h ⊢
        split at h
        · exact absurd h (show ¬ ((5 : Int) = 0) by decide)
        · rename_i g1
          rw [if_neg g1]
          split at h
          · exact absurd h (show ¬ ((6 : Int) = 0) by decide)
          · rename_i g2
            rw [if_neg g2]
            exact chk_prefix b xs _ _ h
    · rw [if_neg hf] at h
      exact absurd h hf
theorem gather_own : ∀ (l : List Rec) (n : Int) (out : List Rec), (chk none 0 (out ++ l)).2 = 0 → gatherR (l.map lineOf) n out = (0, 0, out ++ l)
  | [], n, out, _ => by simp [gatherR]
  | r :: rs, n, out, h => by
    have h1 : (chk none 0 ((out ++ [r]) ++ rs)).2 = 0 := by simpa using h
    have h2 := chk_prefix rs (out ++ [r]) none 0 h1
    have h3 := chk_prefix [r] out none 0 h2
    have hf := chk_all _ none 0 h2 r (by simp)
    have et : takeR (lineOf r) out = (out ++ [r], 0) := by
      unfold takeR
      rw [read_line hf, if_pos rfl]
      rw [chk_snoc r out none 0 h3] at h2
      show (out ++ [r], stepP (lastP none out) r) = _
      rw [h2]
    rw [List.map_cons]
    unfold gatherR
    rw [et, if_pos rfl, gather_own rs _ (out ++ [r]) h1]
    simp
theorem line_no10 {r : Rec} (h : faultR r.f0 r.f1 r.f2 = 0) : 10 ∉ lineOf r := by
  obtain ⟨h1, h2, h3, h4⟩ := faultR_ok h
  unfold lineOf lineL
  intro hm
  rcases List.mem_cons.1 hm with e | hm
  · exact prt_ne10 (letter_prt r.f0) e.symm
  · rcases List.mem_cons.1 hm with e | hm
    · exact absurd e (by decide)
    · exact prt_ne10 (told_prt' r.f1 r.f2 h2.1 h3.1 10 hm) rfl
theorem parse_own (l : List Rec) (h : (chk none 0 l).2 = 0) : parseR (printL l) = (l, 0, 0) := by
  unfold parseR printL
  rw [lin_unl _ (fun s hs => by
    obtain ⟨r, hr, rfl⟩ := List.mem_map.1 hs
    exact line_no10 (chk_all l none 0 h r hr))]
  simp only [gather_own l 0 [] h, finR, List.nil_append, if_true]
theorem gather_back : ∀ (rest : List (List UInt8)) (n : Int) (out : List Rec), (chk none 0 out).2 = 0 → (gatherR rest n out).2.1 = 0 → ∃ new, (gatherR rest n out).2.2 = out ++ new ∧ (chk none 0 (out ++ new)).2 = 0 ∧ new.map lineOf = rest
  | [], n, out, hc, _ => ⟨[], by simp [gatherR], by simpa using hc, rfl⟩
  | s :: ss, n, out, hc, h => by
    unfold gatherR at h ⊢
    by_cases ht : (takeR s out).2 = 0
    · rw [if_pos ht] at h ⊢
      obtain ⟨i1, i2, i3⟩ := take_inv hc ht
      obtain ⟨new, e1, e2, e3⟩ := gather_back ss _ _ i1 h
      rw [i2] at e1 e2
      refine ⟨recOf (readW (splR s)) :: new, by rw [i2, e1]; simp, by simpa using e2, ?_⟩
      rw [List.map_cons, e3, read_canon i3]
    · rw [if_neg ht] at h
      exact absurd h ht
theorem print_size (l : List Rec) (h : ∀ r ∈ l, faultR r.f0 r.f1 r.f2 = 0) : (printL l).length ≤ 44 * l.length := by
  induction l with
  | nil => simp [printL, unl]
  | cons r rs ih =>
    have h1 := line_len (h r (by simp))
    have h2 := ih (fun x hx => h x (by simp [hx]))
    unfold printL at h2 ⊢
    rw [List.map_cons, unl_cons, List.length_append, List.length_cons, List.length_cons]
    omega
theorem back_j1 (s : ByteArray) (hs : s.size ≤ 2000) : Ev (fun k => haulierlaw10_TapeBack.j1 k s) true := by
  refine Ev.step (fun k => by simp only [haulierlaw10_TapeBack.j1]; rfl) ?_
  refine Ev.bind (f := fun k bt => _) (Parse_recs s (by omega)) ?_
  have hp := parse_len s.data.toList
  rw [← Lib.size_eq s] at hp
  by_cases h : (parseR s.data.toList).2.2 = 0
  · simp only [if_pos h]
    refine Ev.bind (f := fun k bt => _) (Print_recs _ (by omega)) ?_
    obtain ⟨e1, e2⟩ : (chk none 0 (parseR s.data.toList).1).2 = 0 ∧ printL (parseR s.data.toList).1 = s.data.toList := by
      unfold parseR at h ⊢
      cases hl : lin [] s.data.toList with
      | none => rw [hl] at h; exact absurd h (show ¬ ((8 : Int) = 0) by decide)
      | some ls =>
        rw [hl] at h
        simp only [finR] at h ⊢
        by_cases hg : (gatherR ls 0 []).2.1 = 0
        · rw [if_pos hg]
          obtain ⟨new, e1, e2, e3⟩ := gather_back ls 0 [] rfl hg
          simp only [e1, List.nil_append] at e2 ⊢
          refine ⟨e2, ?_⟩
          unfold printL
          rw [e3, lin_size hl]
        · rw [if_neg hg] at h; exact absurd h hg
    unfold printR
    simp only [if_pos e1, e2, if_true, Lib.toList_data, data_mk]
    exact alive10
  · simp only [if_neg h]
    have e : (((parseR s.data.toList).1.length : Nat) : Int) = 0 := by
      unfold parseR at h ⊢
      cases hl : lin [] s.data.toList with
      | none => rfl
      | some ls =>
        rw [hl] at h
        simp only [finR] at h ⊢
        by_cases hg : (gatherR ls 0 []).2.1 = 0
        · rw [if_pos hg] at h; exact absurd rfl h
        · rw [if_neg hg]; rfl
    simp only [if_pos e]
    exact alive10
theorem back_j0 (l : List Rec) (s : ByteArray) (hl : l.length ≤ 60) (hs : s.size ≤ 2000) : Ev (fun k => haulierlaw10_TapeBack.j0 k l s false) true := by
  refine Ev.step (fun k => by simp only [haulierlaw10_TapeBack.j0]; rw [if_neg (by decide)]) ?_
  refine Ev.bind (f := fun k bt => _) (Print_recs l (by omega)) ?_
  unfold printR
  by_cases h : (chk none 0 l).2 = 0
  · simp only [if_pos h, if_true]
    have hz := print_size l (chk_all l none 0 h)
    have pr := Parse_recs (mk (printL l)) (by rw [size_mk]; omega)
    rw [data_mk, parse_own l h] at pr
    refine Ev.bind (f := fun k bt => _) pr ?_
    simp only [if_true]
    refine Ev.bind (f := fun k bt => _) (Same_recs l (by omega)) ?_
    simp only [if_true]
    exact back_j1 s hs
  · simp only [if_neg h]
    exact back_j1 s hs
theorem TapeBack (l : List Rec) (s : ByteArray) (hl : l.length ≤ 9223372036854775807) (hg : ∀ x ∈ l, (Lit.int .i64 x.f0).wf = true ∧ (Lit.int .i64 x.f1).wf = true ∧ (Lit.int .i64 x.f2).wf = true) (hs : s.size ≤ 140737488351232) : ∃ k, haulierlaw10_TapeBack.f k l s = some true := by
  apply Ev.rounds
  unfold haulierlaw10_TapeBack.f
  have no : Ev (fun k => haulierlaw10_TapeBack.j0 k l s true) true := Ev.step (fun k => by simp only [haulierlaw10_TapeBack.j0]; rw [if_pos trivial]) alive10
  by_cases h1 : (l.length : Int) > 60
  · exact Ev.congr (fun k => by rw [if_pos h1]) no
  · by_cases h2 : (s.size : Int) > 2000
    · exact Ev.congr (fun k => by rw [if_neg h1, decide_eq_true h2]) no
    · exact Ev.congr (fun k => by rw [if_neg h1, decide_eq_false h2]) (back_j0 l s (by omega) (by omega))
end Go.Proofs.YtaaiamfolbcchaaDoor.Pure

/- Layer 31, plain: the order of a line, as the program and the document read it. -/
import Derived.Test.YthpgijnlegglmaaDoorX62
import Derived.Test.YthpgijnlegglmaaDoorPPaperA
import Derived.KernelRfl
namespace Go.Proofs.YthpgijnlegglmaaDoor.Pure
set_option linter.unusedVariables false
set_option linter.unusedSimpArgs false
open Go.RowKit Go.Proofs.YthpgijnlegglmaaDoor.Y0 Go.Proofs.YthpgijnlegglmaaDoor.X1 Go.Proofs.YthpgijnlegglmaaDoor.X2 Go.Proofs.YthpgijnlegglmaaDoor.X6 Go.Proofs.YthpgijnlegglmaaDoor.Ext Go.Proofs.YthpgijnlegglmaaDoorW.PrintWords Go.Proofs.YthpgijnlegglmaaDoorW.PrintLast Go.Proofs.YthpgijnlegglmaaDoorW.PrintMore

abbrev Wd := Nat × List UInt8
def Short (ws : List Wd) : Prop := ∀ x ∈ ws, x.2.length ≤ 4294967280
theorem rd_drop_w {ws : List Wd} {i : Nat} {x : Wd} {r : List Wd} (h : ws.drop i = x :: r) : rd_T79 (ws.map toW) (i : Int) = toW x ∧ i < ws.length ∧ ws.drop (i + 1) = r := by
  have hl : i < ws.length := by
    rcases Nat.lt_or_ge i ws.length with h' | h'
    · exact h'
    · rw [List.drop_of_length_le h'] at h; cases h
  rw [List.drop_eq_getElem_cons hl] at h
  injection h with h1 h2
  exact ⟨by simp [rd_T79, List.getD_eq_getElem?_getD, hl, h1], hl, h2⟩
def finS (a b c d : Int) (t : List Spn × Int) : OrdR := if t.2 = 0 then (a, b, c, d, t.1, 0) else zer t.2
theorem spans_loop (ws : List Wd) (hs : Short ws) (hn : ws.length ≤ 500000) (a b c d : Int) : ∀ (rest : List Wd) (i : Nat) (os : List Spn), ws.drop i = rest → i ≤ ws.length → os.length ≤ i →
    Ev (fun k => paper_order.l1 k (ws.map toW) (i : Int) a b c d os) (finS a b c d (spansR (rest.map (·.2)) os)) := by
  intro rest
  induction rest with
  | nil =>
    intro i os hd hil ho
    have hi : ws.length ≤ i := by simpa using hd
    exact Ev.step (f := fun _ => some (a, b, c, d, os, 0)) (fun k => by simp only [paper_order.l1, List.length_map]; rw [if_neg (by omega)]) (Ev.now _)
  | cons x r ih =>
    intro i os hd hil ho
    obtain ⟨e1, h1, h2⟩ := rd_drop_w hd
    have hx := hs x (List.mem_of_mem_drop (hd ▸ List.mem_cons_self))
    have c1 : (i : Int) < (ws.length : Int) := by omega
    have c2 : (0 : Int) ≤ (i : Int) := by omega
    have e3 : wrap64 ((i : Int) + 1) = ((i + 1 : Nat) : Int) := by unfold wrap64; omega
    have c4 : os.length < 1000000 := by omega
    refine Ev.step (f := fun k => (word_Span.f k (mk x.2)).bind fun t => if t.2.2 = 0 then paper_order.l1 k (ws.map toW) ((i + 1 : Nat) : Int) a b c d (os ++ [(⟨t.1, t.2.1⟩ : Spn)]) else some (0, 0, 0, 0, [], t.2.2)) (fun k => ?_) ?_
    · simp only [paper_order.l1, List.length_map]
      rw [if_pos c1, if_pos c2, e1]
      simp only [if_pos c4, e3]
      rfl
    · have sp := Span_tells (mk x.2) (by rw [size_mk]; exact hx)
      rw [data_mk] at sp
      refine Ev.bind (f := fun k t => _) sp ?_
      rw [List.map_cons]
      unfold spansR
      by_cases h : (spanR x.2).2.2 = 0
      · simp only [if_pos h]
        exact ih (i + 1) _ h2 (by omega) (by simp; omega)
      · simp only [if_neg h, finS]
        exact Ev.now _
theorem order_ge5 (w0 w1 w2 w3 w4 : Wd) (r : List Wd) (hs : Short (w0 :: w1 :: w2 :: w3 :: w4 :: r)) (hn : r.length ≤ 400000) : Ev (fun k => paper_order.l0 k ((w0 :: w1 :: w2 :: w3 :: w4 :: r).map toW) 0 0 0 0 0) (ord5 w1.2 w2.2 w3.2 w4.2 (r.map (·.2))) := by
  have s1 := hs w1 (by simp)
  have s2 := hs w2 (by simp)
  have s3 := hs w3 (by simp)
  have s4 := hs w4 (by simp)
  have sr : Short r := fun x hx => hs x (by simp [hx])
  unfold ord5
  refine Ev.step (fun k => paper_order.at0 k _ _ _ _ _) ?_
  refine Ev.bind (f := fun k t => _) (number_tells w1.2 s1) ?_
  by_cases h1 : (numR w1.2 M9).2 = 0
  case neg => simp only [if_neg h1]; exact Ev.now _
  simp only [if_pos h1]
  refine Ev.step (fun k => paper_order.at1 k _ _ _ _ _) ?_
  refine Ev.bind (f := fun k t => _) (number_tells w2.2 s2) ?_
  by_cases h2 : (numR w2.2 M9).2 = 0
  case neg => simp only [if_neg h2]; exact Ev.now _
  simp only [if_pos h2]
  refine Ev.step (fun k => paper_order.at2 k _ _ _ _ _) ?_
  refine Ev.bind (f := fun k t => _) (signed_tells w3.2 s3) ?_
  by_cases h3 : (sgnR w3.2).2 = 0
  case neg => simp only [if_neg h3]; exact Ev.now _
  simp only [if_pos h3]
  refine Ev.step (fun k => paper_order.at3 k _ _ _ _ _) ?_
  refine Ev.bind (f := fun k t => _) (number_tells w4.2 s4) ?_
  by_cases h4 : (numR w4.2 M9).2 = 0
  case neg => simp only [if_neg h4]; exact Ev.now _
  simp only [if_pos h4]
  refine Ev.step (fun k => paper_order.at4 k _ _ _ _ _) ?_
  exact spans_loop r sr (by omega) _ _ _ _ r 0 [] rfl (Nat.zero_le _) (by simp)
theorem order_tells (ws : List Wd) (hs : Short ws) (hn : ws.length ≤ 400000) : Ev (fun k => paper_order.f k (ws.map toW)) (ordR (ws.map (·.2))) := by
  unfold paper_order.f
  have few : (ws.map toW).length < 5 → ordR (ws.map (·.2)) = zer 7 → Ev (fun k => if (((ws.map toW).length : Nat) : Int) < 5 then some (0, 0, 0, 0, [], 7) else if (rd_T79 (ws.map toW) 0).f1.toList = ([111, 114, 100, 101, 114] : List UInt8) then paper_order.l0 k (ws.map toW) 0 0 0 0 0 else some (0, 0, 0, 0, [], 7)) (ordR (ws.map (·.2))) := fun h1 h2 => by
    rw [h2]
    exact Ev.congr (f := fun _ => some (zer 7)) (fun k => by rw [if_pos (by omega)]; rfl) (Ev.now _)
  match ws, few, hs, hn with
  | [], few, _, _ => exact few (by simp) rfl
  | [_], few, _, _ => exact few (by simp) rfl
  | [_, _], few, _, _ => exact few (by simp) rfl
  | [_, _, _], few, _, _ => exact few (by simp) rfl
  | [_, _, _, _], few, _, _ => exact few (by simp) rfl
  | w0 :: w1 :: w2 :: w3 :: w4 :: r, few, hs, hn =>
    have f0 : (rd_T79 ((w0 :: w1 :: w2 :: w3 :: w4 :: r).map toW) 0).f1.toList = w0.2 := toList_mk w0.2
    have hl : ¬ ((((w0 :: w1 :: w2 :: w3 :: w4 :: r).map toW).length : Nat) : Int) < 5 := by simp; omega
    simp only [List.map_cons] at f0 hl ⊢
    simp only [if_neg hl]
    show Ev _ (if w0.2 = ordW then ord5 w1.2 w2.2 w3.2 w4.2 (r.map (·.2)) else zer 7)
    have eW : ordW = [111, 114, 100, 101, 114] := rfl
    rw [eW]
    by_cases h : w0.2 = [111, 114, 100, 101, 114]
    · rw [if_pos h]
      refine Ev.congr (fun k => ?_) (order_ge5 w0 w1 w2 w3 w4 r hs (by simp at hn; omega))
      rw [f0, if_pos h]
      rfl
    · rw [if_neg h]
      exact Ev.congr (f := fun _ => some (zer 7)) (fun k => by rw [f0, if_neg h]; rfl) (Ev.now _)
theorem spl_count : ∀ (l : List UInt8) (f : Nat) (cur : List UInt8) (ws : List Wd), spl f cur l = .ok ws → ws.length ≤ l.length + 1
  | [], f, cur, ws, h => by
    unfold spl at h
    split at h
    · cases h
    · cases h; simp
  | c :: r, f, cur, ws, h => by
    unfold spl at h
    split at h
    · split at h
      · cases h
      · cases e : spl (f + cur.length + 1) [] r with
        | error p => rw [e] at h; cases h
        | ok ws' =>
          rw [e] at h
          cases h
          have := spl_count r _ [] ws' e
          simp
          omega
    · split at h
      · have := spl_count r f (cur ++ [c]) ws h
        simp
        omega
      · cases h
theorem splR_count {l : List UInt8} {ws : List Wd} (h : splR l = .ok ws) : ws.length ≤ l.length + 1 := by
  unfold splR at h
  split at h
  · cases h; simp
  · exact spl_count l 0 [] ws h
theorem ReadO_tells (s : ByteArray) (hs : s.size ≤ 300000) : Ev (fun k => paper_Read.f k s) (readO s.data.toList) := by
  unfold paper_Read.f readO
  refine Ev.bind (f := fun k bt => _) (Split_tells' s (by omega)) ?_
  cases hw : splR s.data.toList with
  | error p => simp only [resW]; exact Ev.now _
  | ok ws =>
    simp only [resW, if_true, List.nil_append]
    have h1 := splR_wl hw
    have h2 := splR_count hw
    rw [← Lib.size_eq s] at h1 h2
    refine Ev.bind (f := fun k bt => some (bt.1, bt.2.1, bt.2.2.1, bt.2.2.2.1, bt.2.2.2.2.1, bt.2.2.2.2.2)) (order_tells ws (fun x hx => by have := h1 x hx; omega) (by omega)) ?_
    exact Ev.now _
/-! ### The document's -/
theorem rd_drop_r {ws : List Wd} {i : Nat} {x : Wd} {r : List Wd} (h : ws.drop i = x :: r) : rd_T80 (ws.map toR) (i : Int) = toR x ∧ i < ws.length ∧ ws.drop (i + 1) = r := by
  have hl : i < ws.length := by
    rcases Nat.lt_or_ge i ws.length with h' | h'
    · exact h'
    · rw [List.drop_of_length_le h'] at h; cases h
  rw [List.drop_eq_getElem_cons hl] at h
  injection h with h1 h2
  exact ⟨by simp [rd_T80, List.getD_eq_getElem?_getD, hl, h1], hl, h2⟩
theorem words_loop (ws : List Wd) (hn : ws.length ≤ 400000) : ∀ (rest : List Wd) (i : Nat) (out : List (List UInt8)), ws.drop i = rest → out.length ≤ i → i ≤ ws.length →
    Ev (fun k => haulierref31_Words.l0 k (ws.map toR) (out.map mk) (i : Int)) ((out ++ rest.map (·.2)).map mk, true) := by
  intro rest
  induction rest with
  | nil =>
    intro i out hd ho hil
    have hi : ws.length ≤ i := by simpa using hd
    exact Ev.step (f := fun _ => some (out.map mk, true)) (fun k => by simp only [haulierref31_Words.l0, List.length_map]; rw [if_neg (by omega)]) (by rw [List.map_nil, List.append_nil]; exact Ev.now _)
  | cons x r ih =>
    intro i out hd ho hil
    obtain ⟨e1, h1, h2⟩ := rd_drop_r hd
    have c1 : (i : Int) < (ws.length : Int) := by omega
    have c2 : (0 : Int) ≤ (i : Int) := by omega
    have e3 : wrap64 ((i : Int) + 1) = ((i + 1 : Nat) : Int) := by unfold wrap64; omega
    have c4 : out.length < 8796093022208 := by omega
    have nx := ih (i + 1) (out ++ [x.2]) h2 (by simp; omega) (by omega)
    rw [List.append_assoc, List.singleton_append] at nx
    refine Ev.step (f := fun k => haulierref31_Words.l0 k (ws.map toR) ((out ++ [x.2]).map mk) ((i + 1 : Nat) : Int)) (fun k => ?_) nx
    simp only [haulierref31_Words.l0, List.length_map]
    rw [if_pos c1, if_pos c2, if_pos c4, e1, e3, List.map_append]
    rfl
def wordsR (l : List UInt8) : List (List UInt8) × Bool := match splR l with
  | .ok ws => if ws = [] then ([], false) else (ws.map (·.2), true)
  | .error _ => ([], false)
theorem Words_tells (s : ByteArray) (hs : s.size ≤ 300000) : Ev (fun k => haulierref31_Words.f k s) ((wordsR s.data.toList).1.map mk, (wordsR s.data.toList).2) := by
  have no : ∀ ws, Ev (fun k => haulierref31_Words.j0 k ws true) ([], false) := fun ws => Ev.step (f := fun _ => some ([], false)) (fun k => by simp only [haulierref31_Words.j0]; rw [if_pos trivial]) (Ev.now _)
  unfold haulierref31_Words.f wordsR
  refine Ev.bind (f := fun k bt => _) (refSplit_tells s (by omega)) ?_
  cases hw : splR s.data.toList with
  | error p => simp only [resR, if_neg (show ¬ ((7 : Int) = 0) by decide)]; exact no _
  | ok ws =>
    simp only [resR, if_true, List.nil_append]
    have h2 := splR_count hw
    rw [← Lib.size_eq s] at h2
    by_cases h0 : ws = []
    · subst h0; exact no _
    · rw [if_neg h0]
      have hl : 0 < ws.length := List.length_pos_iff.2 h0
      rw [show ((((ws.map toR).length : Nat) : Int) == 0) = false by simp; omega]
      refine Ev.step (fun k => by simp only [haulierref31_Words.j0]; rw [if_neg (by decide)]) ?_
      exact words_loop ws (by omega) ws 0 [] rfl (by simp) (Nat.zero_le _)
/-- The numbers of words, one of them signed. -/
def one9 (load : Int) (i : Nat) (w : List UInt8) : Int × Int := if (i : Int) = load then sgnR w else numR w M9
def numsR (load : Int) : Nat → List (List UInt8) → List Int → List Int × Int
  | _, [], out => (out, 0)
  | i, w :: r, out => if (one9 load i w).2 = 0 then numsR load (i + 1) r (out ++ [(one9 load i w).1]) else ([], (one9 load i w).2)
theorem refNum (w : List UInt8) (hw : w.length ≤ 4294967280) : Ev (fun k => haulierref06_Number.f k (mk w) 1000000000) (numR w M9) := by
  have nt := refNumber_tells (mk w) 1000000000 (by rw [size_mk]; omega)
  rw [data_mk] at nt
  exact nt
theorem nums_j2 (x0 : List ByteArray) (load : Int) (out : List Int) (i : Int) (w : List UInt8) (hw : w.length ≤ 4294967280) (neg : Bool) (ho : out.length ≤ 1000000) (res : List Int × Int)
    (hok : (numR w M9).2 = 0 → ¬ (neg = true ∧ (numR w M9).1 = 0) → Ev (fun k => haulierref31_Numbers.l0 k x0 load (out ++ [if neg = true then -(numR w M9).1 else (numR w M9).1]) (wrap64 (i + 1))) res)
    (hz : (numR w M9).2 = 0 → neg = true → (numR w M9).1 = 0 → res = ([], 7)) (he : (numR w M9).2 ≠ 0 → res = ([], (numR w M9).2)) :
    Ev (fun k => haulierref31_Numbers.j2 k x0 load out i (mk w) (if neg = true then -1 else 1)) res := by
  have hb := numR_range w M9
  have c4 : out.length < 17592186044416 := by omega
  refine Ev.step (fun k => by simp only [haulierref31_Numbers.j2]; rfl) ?_
  refine Ev.bind (f := fun k bt => _) (refNum w hw) ?_
  by_cases h : (numR w M9).2 = 0
  · simp only [if_pos h]
    cases neg with
    | true =>
      simp only [if_true, if_pos (show (-1 : Int) < 0 by decide)]
      by_cases h0 : (numR w M9).1 = 0
      · rw [hz h rfl h0, h0]
        exact Ev.step (f := fun _ => some ([], 7)) (fun k => by simp only [haulierref31_Numbers.j3]; rfl) (Ev.now _)
      · rw [beq_eq_false_iff_ne.mpr h0]
        refine Ev.step (fun k => ?_) (hok h (fun x => h0 x.2))
        simp only [haulierref31_Numbers.j3]
        rw [if_neg (by decide), if_pos h, if_pos c4, show wrap64 (-1 * (numR w M9).1) = -(numR w M9).1 by rw [wrp (by omega) (by omega)]; omega]
        rfl
    | false =>
      simp only [Bool.false_eq_true, if_false, if_neg (show ¬ (1 : Int) < 0 by decide)]
      refine Ev.step (fun k => ?_) (hok h (fun x => by cases x.1))
      simp only [haulierref31_Numbers.j3]
      rw [if_neg (by decide), if_pos h, if_pos c4, show wrap64 (1 * (numR w M9).1) = (numR w M9).1 by rw [wrp (by omega) (by omega)]; omega]
      rfl
  · simp only [if_neg h]
    rw [he h]
    exact Ev.step (f := fun _ => some ([], (numR w M9).2)) (fun k => by simp only [haulierref31_Numbers.j3]; rw [if_neg (by decide), if_neg h]) (Ev.now _)
theorem bt_min (w : List UInt8) (h : 0 < w.length) : (bt (mk w) 0 == 45) = isMin w := by
  cases w with
  | nil => cases h
  | cons c r =>
    rw [bt_head (s := mk (c :: r)) rfl]
    by_cases hc : c = 45
    · subst hc; rfl
    · rw [isMin_not hc]
      exact beq_eq_false_iff_ne.mpr (fun e => hc (UInt8.toNat_inj.1 (by have h45 : (45 : UInt8).toNat = 45 := rfl; omega)))
theorem nums_loop (ls : List (List UInt8)) (hs : ∀ x ∈ ls, x.length ≤ 4294967280) (hn : ls.length ≤ 400000) (load : Int) : ∀ (rest : List (List UInt8)) (i : Nat) (out : List Int), ls.drop i = rest → out.length ≤ i → i ≤ ls.length →
    Ev (fun k => haulierref31_Numbers.l0 k (ls.map mk) load out (i : Int)) (numsR load i rest out) := by
  intro rest
  induction rest with
  | nil =>
    intro i out hd ho hil
    have hi : ls.length ≤ i := by simpa using hd
    exact Ev.step (f := fun _ => some (out, 0)) (fun k => by simp only [haulierref31_Numbers.l0, List.length_map]; rw [if_neg (by omega)]) (Ev.now _)
  | cons w r ih =>
    intro i out hd ho hil
    obtain ⟨e1, h1, h2⟩ := rdOf_drop hd
    have hw := hs w (List.mem_of_mem_drop (hd ▸ List.mem_cons_self))
    have c1 : (i : Int) < (ls.length : Int) := by omega
    have c2 : (0 : Int) ≤ (i : Int) := by omega
    have e3 : wrap64 ((i : Int) + 1) = ((i + 1 : Nat) : Int) := by unfold wrap64; omega
    -- the word without a sign
    have plain : (one9 load i w) = numR w M9 → Ev (fun k => haulierref31_Numbers.j1 k (ls.map mk) load out (i : Int) (mk w) 1 false) (numsR load i (w :: r) out) := fun ho9 => by
      refine Ev.step (f := fun k => haulierref31_Numbers.j2 k (ls.map mk) load out (i : Int) (mk w) 1) (fun k => by simp only [haulierref31_Numbers.j1]; rfl) ?_
      have := nums_j2 (ls.map mk) load out (i : Int) w hw false (by omega) (numsR load i (w :: r) out) (fun h _ => by
        unfold numsR
        rw [ho9, if_pos h, e3]
        exact ih (i + 1) _ h2 (by simp; omega) (by omega)) (fun _ h _ => by cases h) (fun h => by unfold numsR; rw [ho9, if_neg h])
      exact this
    by_cases hi : (i : Int) = load
    · have ho9 : one9 load i w = sgnR w := by unfold one9; rw [if_pos hi]
      by_cases hz : 0 < w.length
      · refine Ev.step (f := fun k => haulierref31_Numbers.j1 k (ls.map mk) load out (i : Int) (mk w) 1 (isMin w)) (fun k => ?_) ?_
        · simp only [haulierref31_Numbers.l0, List.length_map]
          rw [if_pos c1, if_pos c2, if_pos hi, e1, size_mk, if_pos (by omega), if_pos (by omega), bt_min w hz]
        · cases hm : isMin w with
          | false => exact plain (by rw [ho9]; unfold sgnR; rw [hm]; rfl)
          | true =>
            have hsg : sgnR w = if (numR (w.drop 1) M9).2 = 0 then (if (numR (w.drop 1) M9).1 = 0 then (0, 7) else (-(numR (w.drop 1) M9).1, 0)) else (0, (numR (w.drop 1) M9).2) := by unfold sgnR; rw [hm]; rfl
            refine Ev.step (f := fun k => haulierref31_Numbers.j2 k (ls.map mk) load out (i : Int) (mk (w.drop 1)) (-1)) (fun k => ?_) ?_
            · simp only [haulierref31_Numbers.j1]
              rw [if_pos trivial, size_mk, if_pos (by omega), extract_mk]
              rw [List.take_of_length_le (by rw [List.length_drop]; omega)]
            · have := nums_j2 (ls.map mk) load out (i : Int) (w.drop 1) (by rw [List.length_drop]; omega) true (by omega) (numsR load i (w :: r) out) (fun h hne => by
                have h0 : ¬ (numR (w.drop 1) M9).1 = 0 := fun e => hne ⟨rfl, e⟩
                unfold numsR
                rw [ho9, hsg, if_pos h, if_neg h0, if_pos rfl, e3]
                exact ih (i + 1) _ h2 (by simp; omega) (by omega)) (fun h _ h0 => by unfold numsR; rw [ho9, hsg, if_pos h, if_pos h0]; rfl) (fun h => by unfold numsR; rw [ho9, hsg, if_neg h, if_neg h])
              exact this
      · have hw0 : w = [] := List.eq_nil_of_length_eq_zero (by omega)
        refine Ev.step (f := fun k => haulierref31_Numbers.j1 k (ls.map mk) load out (i : Int) (mk w) 1 false) (fun k => ?_) (plain (by rw [ho9]; subst hw0; rfl))
        simp only [haulierref31_Numbers.l0, List.length_map]
        rw [if_pos c1, if_pos c2, if_pos hi, e1, size_mk, if_neg (by omega)]
    · refine Ev.step (f := fun k => haulierref31_Numbers.j1 k (ls.map mk) load out (i : Int) (mk w) 1 false) (fun k => ?_) (plain (by unfold one9; rw [if_neg hi]))
      simp only [haulierref31_Numbers.l0, List.length_map]
      rw [if_pos c1, if_pos c2, if_neg hi, e1]
theorem Numbers_tells (ls : List (List UInt8)) (hs : ∀ x ∈ ls, x.length ≤ 4294967280) (hn : ls.length ≤ 400000) (load : Int) : Ev (fun k => haulierref31_Numbers.f k (ls.map mk) load) (numsR load 0 ls []) :=
  nums_loop ls hs hn load ls 0 [] rfl (by simp) (Nat.zero_le _)
theorem refspans_loop (ls : List (List UInt8)) (hs : ∀ x ∈ ls, x.length ≤ 4294967280) (hn : ls.length ≤ 500000) (a b c d : Int) : ∀ (rest : List (List UInt8)) (i : Nat) (os : List Spn), ls.drop i = rest → i ≤ ls.length → os.length ≤ i →
    Ev (fun k => haulierref31_order.l0 k (ls.map mk) (i : Int) a b c d os) (finS a b c d (spansR rest os)) := by
  intro rest
  induction rest with
  | nil =>
    intro i os hd hil ho
    have hi : ls.length ≤ i := by simpa using hd
    exact Ev.step (f := fun _ => some (a, b, c, d, os, 0)) (fun k => by simp only [haulierref31_order.l0, List.length_map]; rw [if_neg (by omega)]) (Ev.now _)
  | cons x r ih =>
    intro i os hd hil ho
    obtain ⟨e1, h1, h2⟩ := rdOf_drop hd
    have hx := hs x (List.mem_of_mem_drop (hd ▸ List.mem_cons_self))
    have c1 : (i : Int) < (ls.length : Int) := by omega
    have c2 : (0 : Int) ≤ (i : Int) := by omega
    have e3 : wrap64 ((i : Int) + 1) = ((i + 1 : Nat) : Int) := by unfold wrap64; omega
    have c4 : os.length < 8796093022208 := by omega
    refine Ev.step (f := fun k => (haulierref06_Span.f k (mk x)).bind fun t => if t.2.2 = 0 then haulierref31_order.l0 k (ls.map mk) ((i + 1 : Nat) : Int) a b c d (os ++ [(⟨t.1, t.2.1⟩ : Spn)]) else some (0, 0, 0, 0, [], t.2.2)) (fun k => ?_) ?_
    · simp only [haulierref31_order.l0, List.length_map]
      rw [if_pos c1, if_pos c2, e1]
      simp only [if_pos c4, e3]
    · have sp := refSpan_tells (mk x) (by rw [size_mk]; exact hx)
      rw [data_mk] at sp
      refine Ev.bind (f := fun k t => _) sp ?_
      unfold spansR
      by_cases h : (spanR x).2.2 = 0
      · simp only [if_pos h]
        exact ih (i + 1) _ h2 (by omega) (by simp; omega)
      · simp only [if_neg h, finS]
        exact Ev.now _
theorem nums4 (w1 w2 w3 w4 : List UInt8) : numsR 2 0 [w1, w2, w3, w4] [] =
    if (numR w1 M9).2 = 0 then (if (numR w2 M9).2 = 0 then (if (sgnR w3).2 = 0 then (if (numR w4 M9).2 = 0 then ([(numR w1 M9).1, (numR w2 M9).1, (sgnR w3).1, (numR w4 M9).1], 0) else ([], (numR w4 M9).2)) else ([], (sgnR w3).2)) else ([], (numR w2 M9).2)) else ([], (numR w1 M9).2) := by
  have o0 : one9 2 0 w1 = numR w1 M9 := rfl
  have o1 : one9 2 1 w2 = numR w2 M9 := rfl
  have o2 : one9 2 2 w3 = sgnR w3 := rfl
  have o3 : one9 2 3 w4 = numR w4 M9 := rfl
  simp only [numsR, Nat.zero_add, Nat.reduceAdd, o0, o1, o2, o3, List.nil_append, List.cons_append]
theorem reforder_tells (ls : List (List UInt8)) (hs : ∀ x ∈ ls, x.length ≤ 4294967280) (hn : ls.length ≤ 400000) : Ev (fun k => haulierref31_order.f k (ls.map mk)) (ordR ls) := by
  have no : ∀ xs, Ev (fun k => haulierref31_order.j0 k xs true) (zer 7) := fun xs => Ev.step (f := fun _ => some (zer 7)) (fun k => by simp only [haulierref31_order.j0]; rw [if_pos trivial]; rfl) (Ev.now _)
  unfold haulierref31_order.f
  have few : (ls.map mk).length < 5 → ordR ls = zer 7 → Ev (fun k => if (((ls.map mk).length : Nat) : Int) < 5 then (haulierref31_order.j0 k (ls.map mk) true) else (if 0 < (((ls.map mk).length : Nat) : Int) then (haulierref31_order.j0 k (ls.map mk) ((rdOf ByteArray.empty (ls.map mk) 0).toList != ([111, 114, 100, 101, 114] : List UInt8))) else none)) (ordR ls) := fun h1 h2 => by
    rw [h2]
    exact Ev.congr (fun k => by rw [if_pos (by omega)]) (no _)
  match ls, few, hs, hn with
  | [], few, _, _ => exact few (by simp) rfl
  | [_], few, _, _ => exact few (by simp) rfl
  | [_, _], few, _, _ => exact few (by simp) rfl
  | [_, _, _], few, _, _ => exact few (by simp) rfl
  | [_, _, _, _], few, _, _ => exact few (by simp) rfl
  | w0 :: w1 :: w2 :: w3 :: w4 :: r, few, hs, hn =>
    have hl : ¬ ((((w0 :: w1 :: w2 :: w3 :: w4 :: r).map mk).length : Nat) : Int) < 5 := by simp; omega
    have hl0 : 0 < ((((w0 :: w1 :: w2 :: w3 :: w4 :: r).map mk).length : Nat) : Int) := by simp; omega
    have f0 : (rdOf ByteArray.empty ((w0 :: w1 :: w2 :: w3 :: w4 :: r).map mk) 0).toList = w0 := toList_mk w0
    refine Ev.congr (f := fun k => haulierref31_order.j0 k ((w0 :: w1 :: w2 :: w3 :: w4 :: r).map mk) (w0 != ordW)) (fun k => by rw [if_neg hl, if_pos hl0, f0]; rfl) ?_
    show Ev _ (if w0 = ordW then ord5 w1 w2 w3 w4 r else zer 7)
    by_cases h : w0 = ordW
    · rw [if_pos h, show (w0 != ordW) = false by simp [h]]
      have h5 : (5 : Int) ≤ ((((w0 :: w1 :: w2 :: w3 :: w4 :: r).map mk).length : Nat) : Int) := by simp; omega
      refine Ev.step (fun k => by simp only [haulierref31_order.j0]; rw [if_neg (by decide), if_pos (by decide), if_pos h5]) ?_
      have nt := Numbers_tells [w1, w2, w3, w4] (fun x hx => hs x (by
        simp only [List.mem_cons, List.not_mem_nil, or_false] at hx ⊢
        rcases hx with h | h | h | h <;> simp [h])) (by simp) 2
      refine Ev.bind (f := fun k bt => _) nt ?_
      rw [nums4]
      unfold ord5
      by_cases g1 : (numR w1 M9).2 = 0
      case neg => simp only [if_neg g1]; exact Ev.now _
      by_cases g2 : (numR w2 M9).2 = 0
      case neg => simp only [if_pos g1, if_neg g2]; exact Ev.now _
      by_cases g3 : (sgnR w3).2 = 0
      case neg => simp only [if_pos g1, if_pos g2, if_neg g3]; exact Ev.now _
      by_cases g4 : (numR w4 M9).2 = 0
      case neg => simp only [if_pos g1, if_pos g2, if_pos g3, if_neg g4]; exact Ev.now _
      simp only [if_pos g1, if_pos g2, if_pos g3, if_pos g4, if_true]
      have := refspans_loop (w0 :: w1 :: w2 :: w3 :: w4 :: r) hs (by omega) (numR w1 M9).1 (numR w2 M9).1 (sgnR w3).1 (numR w4 M9).1 r 5 [] rfl (by simp) (by simp)
      exact this
    · rw [if_neg h, show (w0 != ordW) = true by simp [h]]
      exact no _
theorem refReadO_tells (s : ByteArray) (hs : s.size ≤ 300000) : Ev (fun k => haulierref31_Read.f k s) (readO s.data.toList) := by
  unfold haulierref31_Read.f readO
  refine Ev.bind (f := fun k bt => _) (Words_tells s hs) ?_
  unfold wordsR
  cases hw : splR s.data.toList with
  | error p => simp only [Bool.false_eq_true, if_false]; exact Ev.now _
  | ok ws =>
    by_cases h0 : ws = []
    · subst h0; simp only [if_true, Bool.false_eq_true, if_false]; exact Ev.now _
    · have h1 := splR_wl hw
      have h2 := splR_count hw
      rw [← Lib.size_eq s] at h1 h2
      simp only [if_neg h0, if_true]
      refine Ev.bind (f := fun k bt => some (bt.1, bt.2.1, bt.2.2.1, bt.2.2.2.1, bt.2.2.2.2.1, bt.2.2.2.2.2)) (reforder_tells (ws.map (·.2)) (fun x hx => by
        obtain ⟨y, hy, rfl⟩ := List.mem_map.1 hx
        have := h1 y hy
        omega) (by rw [List.length_map]; omega)) ?_
      exact Ev.now _
end Go.Proofs.YthpgijnlegglmaaDoor.Pure

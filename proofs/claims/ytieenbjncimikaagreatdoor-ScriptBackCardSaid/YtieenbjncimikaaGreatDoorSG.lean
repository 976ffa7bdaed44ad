/- What the law ScriptBack tells, of whatever may be handed in. No condition. -/
import Derived.Test.YtieenbjncimikaaGreatDoorSF
set_option linter.all false
open Go Go.AM Go.Proofs Go.AM.Pl
set_option maxRecDepth 100000
set_option maxHeartbeats 4000000
namespace Go.AM.Pl
/-- A word: not empty, of printable bytes. -/
def wok (w : List UInt8) : Prop := w ≠ [] ∧ ∀ c ∈ w, prt c = true
theorem spl_jn : ∀ (ls : List (List UInt8)) (f : Nat), ls ≠ [] → (∀ w ∈ ls, wok w) → ∃ ws, spl f [] (jn ls) = .ok ws ∧ ws.map (·.2) = ls
  | [], _, h, _ => absurd rfl h
  | [x], f, _, h => ⟨[(f, x)], by rw [jn_one]; simpa using spl_last' x f [] (h x (by simp)).2 (by simpa using (h x (by simp)).1), rfl⟩
  | x :: y :: r, f, _, h => by
    obtain ⟨ws, h1, h2⟩ := spl_jn (y :: r) (f + x.length + 1) (by simp) (fun w hw => h w (by simp [hw]))
    refine ⟨(f, x) :: ws, ?_, by simp [h2]⟩
    rw [jn_cons x _ (by simp)]
    have := spl_word' x f [] (jn (y :: r)) (h x (by simp)).2 (by simpa using (h x (by simp)).1)
    simp only [List.nil_append] at this
    rw [this, h1]; rfl
theorem jn_ne {ls : List (List UInt8)} (h0 : ls ≠ []) (h : ∀ w ∈ ls, wok w) : jn ls ≠ [] := by
  cases ls with
  | nil => exact absurd rfl h0
  | cons x r =>
    have hx := (h x (by simp)).1
    cases r with
    | nil => rw [jn_one]; exact hx
    | cons y r => rw [jn_cons x _ (by simp)]; simp
theorem splR_jn {ls : List (List UInt8)} (h0 : ls ≠ []) (h : ∀ w ∈ ls, wok w) : ∃ ws, splR (jn ls) = .ok ws ∧ ws.map (·.2) = ls := by
  unfold splR; rw [if_neg (jn_ne h0 h)]; exact spl_jn ls 0 h0 h
theorem wok_itoa {n : Int} (h : 0 ≤ n) : wok (Lib.itoa n) := by
  refine ⟨?_, itoa_prt h⟩
  rw [itoa_pos h]; intro e; have := digits_pos n.toNat; rw [e] at this; simp at this
theorem wok_itoaS (n : Int) : wok (Lib.itoa n) := by
  by_cases h : 0 ≤ n
  · exact wok_itoa h
  · rw [itoa_min (by omega)]
    refine ⟨by simp, fun c hc => ?_⟩
    rcases List.mem_cons.1 hc with rfl | hc
    · decide
    · exact dig_prt' (List.all_eq_true.1 (digits_all n.natAbs) c hc)
theorem wok_told {a b : Int} (ha : 0 ≤ a) (hb : 0 ≤ b) : wok (toldL a b) := ⟨told_ne' a b, told_prt' a b ha hb⟩
theorem sgnR_itoa {c : Int} (h1 : -M9 ≤ c) (h2 : c ≤ M9) : sgnR (Lib.itoa c) = (c, 0) := by
  unfold M9 at h1 h2
  by_cases h : 0 ≤ c
  · have hm : isMin (Lib.itoa c) = false := by
      rw [itoa_pos h]
      have hd := digits_all c.toNat
      have hp := digits_pos c.toNat
      cases e : Lib.decDigits c.toNat with
      | nil => rfl
      | cons x r =>
        rw [e] at hd
        simp only [List.all_cons, Bool.and_eq_true] at hd
        have := isDig_iff.1 hd.1
        exact isMin_not (fun e => by subst e; simp at this)
    unfold sgnR
    rw [hm, if_neg (by simp), numR_itoa _ h (by omega), if_neg (by unfold M9; omega)]
  · have e : Lib.itoa c = 45 :: Lib.itoa (c.natAbs : Int) := by
      rw [itoa_min (by omega), itoa_pos (by omega)]; rfl
    have e2 : numR (Lib.itoa (c.natAbs : Int)) M9 = ((c.natAbs : Int), 0) := by
      have := numR_itoa (n := (c.natAbs : Int)) 1000000000 (by omega) (by omega)
      rw [if_neg (by omega)] at this
      exact this
    rw [e]
    unfold sgnR
    rw [if_pos (show isMin (45 :: Lib.itoa (c.natAbs : Int)) = true from rfl), show (45 :: Lib.itoa (c.natAbs : Int)).drop 1 = Lib.itoa (c.natAbs : Int) from rfl, e2]
    show (if (0 : Int) = 0 then (if (c.natAbs : Int) = 0 then ((0 : Int), (7 : Int)) else (-(c.natAbs : Int), 0)) else (0, 0)) = (c, 0)
    rw [if_pos rfl, if_neg (by omega)]
    congr 1; omega
theorem spansR_told : ∀ (os p : List Spn), (∀ s ∈ os, 0 ≤ s.f0 ∧ s.f0 < s.f1 ∧ s.f1 ≤ 40320) → spansR (os.map toldS) p = (p ++ os, 0)
  | [], p, _ => by simp [spansR]
  | s :: os, p, h => by
    obtain ⟨h1, h2, h3⟩ := h s (by simp)
    have e : spanR (toldS s) = (s.f0, s.f1, 0) := span_ok h1 h2 h3
    simp only [List.map_cons, spansR, e, if_true]
    rw [spansR_told os _ (fun t ht => h t (by simp [ht]))]
    simp
theorem numsR_itoa : ∀ (x : List Int) (i : Nat) (p : List Int), (∀ n ∈ x, 0 ≤ n ∧ n ≤ M9) → numsR (-1) i (x.map Lib.itoa) p = (p ++ x, 0)
  | [], _, p, _ => by simp [numsR]
  | n :: x, i, p, h => by
    obtain ⟨h1, h2⟩ := h n (by simp)
    have e : one9 (-1) i (Lib.itoa n) = (n, 0) := by
      unfold one9; rw [if_neg (by omega), numR_itoa _ h1 (by unfold M9 at h2; omega), if_neg (by omega)]
    simp only [List.map_cons, numsR, e, if_true]
    rw [numsR_itoa x _ _ (fun t ht => h t (by simp [ht]))]
    simp
/-- What is read as numbers is their texts. -/
theorem numR_canon {l : List UInt8} {m : Int} (h : (numR l m).2 = 0) : Lib.itoa (numR l m).1 = l ∧ 0 ≤ (numR l m).1 ∧ (numR l m).1 ≤ m := by
  by_cases hn : numT l = true
  · obtain ⟨h1, h2, h3⟩ := numR_ok hn h
    rw [h1]; exact ⟨itoa_val hn, by omega, h2⟩
  · unfold numR at h; rw [if_neg hn] at h; cases h
theorem sgnR_canon {l : List UInt8} (h : (sgnR l).2 = 0) : Lib.itoa (sgnR l).1 = l ∧ -M9 ≤ (sgnR l).1 ∧ (sgnR l).1 ≤ M9 := by
  have hM : M9 = 1000000000 := rfl
  unfold sgnR at h ⊢
  by_cases hm : isMin l = true
  · rw [if_pos hm] at h ⊢
    by_cases h1 : (numR (l.drop 1) M9).2 = 0
    · rw [if_pos h1] at h ⊢
      obtain ⟨e1, e2, e3⟩ := numR_canon h1
      by_cases h2 : (numR (l.drop 1) M9).1 = 0
      · rw [if_pos h2] at h; cases h
      · rw [if_neg h2]
        refine ⟨?_, by simp only; omega, by simp only; omega⟩
        simp only
        rw [itoa_min (by omega)]
        have : Lib.decDigits (-(numR (l.drop 1) M9).1).natAbs = l.drop 1 := by
          rw [itoa_pos e2] at e1
          rw [← e1]; congr 1; rw [e1]; omega
        rw [this]
        unfold isMin at hm
        split at hm
        · rfl
        · cases hm
    · rw [if_neg h1] at h; exact absurd h h1
  · rw [if_neg hm] at h ⊢
    obtain ⟨e1, e2, e3⟩ := numR_canon h
    exact ⟨e1, by omega, e3⟩
theorem spansR_canon : ∀ (r : List (List UInt8)) (p : List Spn), (spansR r p).2 = 0 → ∃ os : List Spn, (spansR r p).1 = p ++ os ∧ r = os.map toldS ∧ ∀ s ∈ os, 0 ≤ s.f0 ∧ s.f0 < s.f1 ∧ s.f1 ≤ 40320
  | [], p, _ => ⟨[], by simp [spansR], rfl, fun _ h => by cases h⟩
  | w :: r, p, h => by
    simp only [spansR] at h ⊢
    by_cases q : (spanR w).2.2 = 0
    · rw [if_pos q] at h ⊢
      obtain ⟨os, h1, h2, h3⟩ := spansR_canon r _ h
      have e : spanR w = ((spanR w).1, (spanR w).2.1, 0) := by rw [← q]
      obtain ⟨e1, e2, e3, e4⟩ := span_canon e
      refine ⟨⟨(spanR w).1, (spanR w).2.1⟩ :: os, by rw [h1]; simp, ?_, fun s hs => ?_⟩
      · rw [List.map_cons, ← h2]; congr 1
      · rcases List.mem_cons.1 hs with rfl | hs
        · exact ⟨e2, e3, e4⟩
        · exact h3 s hs
    · rw [if_neg q] at h; exact absurd h q
theorem numsR_canon : ∀ (r : List (List UInt8)) (i : Nat) (p : List Int), (numsR (-1) i r p).2 = 0 → ∃ x : List Int, (numsR (-1) i r p).1 = p ++ x ∧ r = x.map Lib.itoa ∧ ∀ n ∈ x, 0 ≤ n ∧ n ≤ M9
  | [], _, p, _ => ⟨[], by simp [numsR], rfl, fun _ h => by cases h⟩
  | w :: r, i, p, h => by
    have o : one9 (-1) i w = numR w M9 := by unfold one9; rw [if_neg (by omega)]
    simp only [numsR, o] at h ⊢
    by_cases q : (numR w M9).2 = 0
    · rw [if_pos q] at h ⊢
      obtain ⟨x, h1, h2, h3⟩ := numsR_canon r _ _ h
      obtain ⟨e1, e2, e3⟩ := numR_canon q
      refine ⟨(numR w M9).1 :: x, by rw [h1]; simp, by rw [List.map_cons, ← h2, e1], fun n hn => ?_⟩
      rcases List.mem_cons.1 hn with rfl | hn
      · exact ⟨e2, e3⟩
      · exact h3 n hn
    · rw [if_neg q] at h; exact absurd h q
end Go.AM.Pl
namespace ZD
theorem okAll_mem {l : List Int} (h : okAll l = true) : ∀ n ∈ l, 0 ≤ n ∧ n ≤ M9 := by
  intro n hn
  have := List.all_eq_true.1 h n hn
  simp [ok1] at this
  unfold M9; omega
theorem okAll_of {l : List Int} (h : ∀ n ∈ l, 0 ≤ n ∧ n ≤ M9) : okAll l = true := by
  unfold okAll
  rw [List.all_eq_true]
  intro n hn
  have := h n hn
  unfold M9 at this
  simp [ok1]; omega
/-- What a kind needs. -/
def needs (c : Cmd) : Cmd := if c.k = 1 then ⟨1, c.o, 0, [], 0, 0, 0, 0, []⟩ else if c.k = 2 then ⟨2, zo, c.id, [], 0, 0, 0, 0, []⟩ else if c.k = 3 then ⟨3, zo, c.id, c.rs, 0, 0, 0, 0, []⟩
  else if c.k = 4 then ⟨4, zo, 0, [], c.m, 0, 0, 0, []⟩ else if c.k = 5 then ⟨5, zo, 0, [], 0, c.u, c.li, c.bu, c.ds⟩ else ⟨c.k, zo, 0, [], 0, 0, 0, 0, []⟩
/-- The words of a record's line. -/
def recWs (r : Rec) : List (List UInt8) := [[letR r.k], toldL r.f r.t]
theorem lineR_jn (r : Rec) : lineR r = jn (recWs r) := by
  unfold lineR recWs; rw [jn_cons _ _ (by simp), jn_one]; rfl
theorem jn_recs : ∀ (rs : List Rec) (p : List (List UInt8)), p ≠ [] → jn (p ++ rs.map lineR) = jn (p ++ rs.flatMap recWs)
  | [], p, _ => rfl
  | r :: rs, p, hp => by
    have ih := jn_recs rs (p ++ recWs r) (by simp [hp])
    rw [List.flatMap_cons, ← List.append_assoc, ← ih]
    cases rs with
    | nil =>
      simp only [List.map_cons, List.map_nil, List.append_nil, lineR_jn]
      rw [jn_append p [jn (recWs r)] hp (by simp), jn_one, jn_append p (recWs r) hp (by simp [recWs])]
    | cons r2 rs =>
      simp only [List.map_cons]
      rw [jn_append p _ hp (by simp), jn_cons (lineR r) _ (by simp), lineR_jn r]
      rw [jn_append (p ++ recWs r) _ (by simp [hp]) (by simp), jn_append p (recWs r) hp (by simp [recWs])]
      simp
theorem recL_words (id : Int) (rs : List Rec) : recL id rs = jn (recW :: Lib.itoa id :: rs.flatMap recWs) := by
  unfold recL numbersL
  rw [jn_flat _ _ (by simp)]
  have := jn_recs rs (recW :: List.map Lib.itoa [id]) (by simp)
  simpa using this
theorem kindR_letR {k : Int} (h : kOk k = true) : kindR (letR k) = (k, true) := by
  obtain rfl | rfl | rfl | rfl := kOk_cases h <;> rfl
theorem pairsR_recs : ∀ (rs p : List Rec), recAll rs = true → pairsR (rs.flatMap recWs) p = (p ++ rs, 0)
  | [], p, _ => by simp [pairsR]
  | r :: rs, p, h => by
    unfold recAll at h
    simp only [List.all_cons, Bool.and_eq_true, decide_eq_true_eq] at h
    obtain ⟨h1, h2, h3, h4⟩ := recE_ok h.1
    simp [inR] at h2 h3
    have e : spanR (toldL r.f r.t) = (r.f, r.t, 0) := span_ok h2.1 h4 h3.2
    have e2 : kindL [letR r.k] = (r.k, true) := kindR_letR h1
    rw [List.flatMap_cons]
    show (if (kindL [letR r.k]).2 = true then (if (spanR (toldL r.f r.t)).2.2 = 0 then pairsR (rs.flatMap recWs) (p ++ [⟨(kindL [letR r.k]).1, (spanR (toldL r.f r.t)).1, (spanR (toldL r.f r.t)).2.1⟩]) else ([], (spanR (toldL r.f r.t)).2.2)) else ([], 2)) = _
    rw [e2, e, if_pos rfl, if_pos rfl]
    have ih := pairsR_recs rs (p ++ [⟨r.k, r.f, r.t⟩]) h.2
    rw [ih]; simp
theorem recWs_even (rs : List Rec) : (rs.flatMap recWs).length % 2 = 0 := by
  have : ∀ rs : List Rec, (rs.flatMap recWs).length = 2 * rs.length := by
    intro rs
    induction rs with
    | nil => rfl
    | cons r rs ih => rw [List.flatMap_cons, List.length_append, ih]; simp [recWs]; omega
  rw [this]; omega
/-- The words of a command's line. -/
def wordsC (c : Cmd) : List (List UInt8) := if c.k = 1 then ordW :: Lib.itoa c.o.a :: Lib.itoa c.o.b :: Lib.itoa c.o.c :: Lib.itoa c.o.d :: c.o.os.map toldS else if c.k = 2 then [cancelW, Lib.itoa c.id]
  else if c.k = 3 then recW :: Lib.itoa c.id :: c.rs.flatMap recWs else if c.k = 4 then [tickW, Lib.itoa c.m] else if c.k = 5 then replanW :: (c.u :: c.li :: c.bu :: c.ds).map Lib.itoa else [showW]
theorem textC_words (c : Cmd) : textC c = jn (wordsC c) := by
  unfold textC wordsC
  split
  · rfl
  split
  · rfl
  split
  · exact recL_words _ _
  split
  · rfl
  split
  · rfl
  · rw [jn_one]
theorem wok_lit {w : List UInt8} (h : (w != [] && w.all prt) = true) : wok w := by
  simp only [Bool.and_eq_true, bne_iff_ne, ne_eq, List.all_eq_true] at h; exact h
theorem spanOk_iff {s : Spn} : spanOk s = true ↔ 0 ≤ s.f0 ∧ s.f0 < s.f1 ∧ s.f1 ≤ 40320 := by
  simp [spanOk]; omega
theorem recWs_ok {rs : List Rec} (h : recAll rs = true) : ∀ w ∈ rs.flatMap recWs, wok w := by
  intro w hw
  obtain ⟨r, hr, hw⟩ := List.mem_flatMap.1 hw
  have h0 := List.all_eq_true.1 h r hr
  obtain ⟨h1, h2, h3, h4⟩ := recE_ok (by simpa using h0)
  simp [inR] at h2 h3
  simp [recWs] at hw
  rcases hw with rfl | rfl
  · obtain e | e | e | e := kOk_cases h1 <;> rw [e] <;> exact wok_lit (by rfl)
  · exact wok_told h2.1 h3.1
theorem wordsC_ok {c : Cmd} (h : canR c = true) : ∀ w ∈ wordsC c, wok w := by
  intro w hw
  unfold wordsC at hw
  unfold canR at h
  split at hw
  · rename_i k1
    rw [if_pos k1] at h
    simp only [ordOk, Bool.and_eq_true, decide_eq_true_eq] at h
    obtain ⟨⟨h1, h2⟩, h3⟩ := h
    simp only [List.mem_cons, List.mem_map] at hw
    rcases hw with rfl | rfl | rfl | rfl | rfl | ⟨s, hs, rfl⟩
    · exact wok_lit (by rfl)
    · exact wok_itoaS _
    · exact wok_itoaS _
    · exact wok_itoaS _
    · exact wok_itoaS _
    · have := spanOk_iff.1 (List.all_eq_true.1 h3 s hs)
      exact wok_told this.1 (by omega)
  split at hw
  · simp only [List.mem_cons, List.mem_nil_iff, or_false] at hw
    rcases hw with rfl | rfl
    · exact wok_lit (by rfl)
    · exact wok_itoaS _
  split at hw
  · rename_i k1 k2 k3
    rw [if_neg k1, if_neg k2, if_pos k3, Bool.and_eq_true] at h
    simp only [List.mem_cons] at hw
    rcases hw with rfl | rfl | hw
    · exact wok_lit (by rfl)
    · exact wok_itoaS _
    · exact recWs_ok h.1 w hw
  split at hw
  · simp only [List.mem_cons, List.mem_nil_iff, or_false] at hw
    rcases hw with rfl | rfl
    · exact wok_lit (by rfl)
    · exact wok_itoaS _
  split at hw
  · simp only [List.mem_cons, List.mem_map] at hw
    rcases hw with rfl | ⟨s, hs, rfl⟩
    · exact wok_lit (by rfl)
    · exact wok_itoaS _
  · simp only [List.mem_cons, List.mem_nil_iff, or_false] at hw
    subst hw
    exact wok_lit (by rfl)
/-- The command of a line's words. -/
def readW (ls : List (List UInt8)) : Cmd × Int := match ls with
  | [] => (zc, 7)
  | w0 :: r => if w0 = ordW then (if OrdR.e (ordR (w0 :: r)) = 0 then (C1 (ordR (w0 :: r)), 0) else (zc, OrdR.e (ordR (w0 :: r))))
    else if w0 = cancelW then cntL (w0 :: r) 1 false C2 else if w0 = recW then recR (w0 :: r) else if w0 = tickW then cntL (w0 :: r) 1 false C4
    else if w0 = replanW then cntL (w0 :: r) 3 true C5 else if w0 = showW then cntL (w0 :: r) 0 false C6 else (zc, 7)
where cntL (ls : List (List UInt8)) (n : Nat) (op : Bool) (C : List Int → Cmd) : Cmd × Int :=
  if ls.length < n + 1 ∨ (n + 1 < ls.length ∧ op = false) then (zc, 7) else if (numsR (-1) 0 ls.tail []).2 = 0 then (C (numsR (-1) 0 ls.tail []).1, 0) else (zc, (numsR (-1) 0 ls.tail []).2)
theorem readW_cons (w0 : List UInt8) (r : List (List UInt8)) : readW (w0 :: r) = if w0 = ordW then (if OrdR.e (ordR (w0 :: r)) = 0 then (C1 (ordR (w0 :: r)), 0) else (zc, OrdR.e (ordR (w0 :: r))))
    else if w0 = cancelW then readW.cntL (w0 :: r) 1 false C2 else if w0 = recW then recR (w0 :: r) else if w0 = tickW then readW.cntL (w0 :: r) 1 false C4
    else if w0 = replanW then readW.cntL (w0 :: r) 3 true C5 else if w0 = showW then readW.cntL (w0 :: r) 0 false C6 else (zc, 7) := rfl
theorem ordR_ord (w1 w2 w3 w4 : List UInt8) (r : List (List UInt8)) : ordR (ordW :: w1 :: w2 :: w3 :: w4 :: r) = ord5 w1 w2 w3 w4 r := by simp [ordR]
theorem recR_cons (w0 w1 : List UInt8) (r : List (List UInt8)) : recR (w0 :: w1 :: r) = if r.length % 2 = 0 then (if (numR w1 M9).2 = 0 then (if (pairsR r []).2 = 0 then (C3 (numR w1 M9).1 (pairsR r []).1, 0) else (zc, (pairsR r []).2)) else (zc, (numR w1 M9).2)) else (zc, 7) := rfl
theorem cntR_L (ws : List Wd) (n : Nat) (op : Bool) (C : List Int → Cmd) : cntR ws n op C = readW.cntL (ws.map (·.2)) n op C := by
  unfold cntR readW.cntL; simp [List.map_tail]
theorem readC_W {l : List UInt8} {ws : List Wd} (h : splR l = .ok ws) : readC l = readW (ws.map (·.2)) := by
  have e : readO l = ordR (ws.map (·.2)) := by unfold readO; rw [h]
  unfold readC
  rw [h]
  simp only [e, cntR_L]
  cases ws with
  | nil => rfl
  | cons w0 r => rfl
theorem readC_err {l : List UInt8} {p : Nat} (h : splR l = .error p) : readC l = (zc, 7) := by unfold readC; rw [h]
/-- A command's words are read as the command. -/
theorem readW_words {c : Cmd} (h : canR c = true) : readW (wordsC c) = (needs c, 0) := by
  have one : ∀ n : Int, okAll [n] = true → numsR (-1) 0 [Lib.itoa n] [] = ([n], 0) := fun n h => by
    have := numsR_itoa [n] 0 [] (okAll_mem h); simpa using this
  by_cases k1 : c.k = 1
  · have hw : wordsC c = ordW :: Lib.itoa c.o.a :: Lib.itoa c.o.b :: Lib.itoa c.o.c :: Lib.itoa c.o.d :: c.o.os.map toldS := by unfold wordsC; rw [if_pos k1]
    have hn : needs c = ⟨1, c.o, 0, [], 0, 0, 0, 0, []⟩ := by unfold needs; rw [if_pos k1]
    unfold canR at h
    rw [if_pos k1] at h
    simp only [ordOk, Bool.and_eq_true, decide_eq_true_eq] at h
    obtain ⟨⟨h1, h2⟩, h3⟩ := h
    have hm := okAll_mem h1
    have ha := hm c.o.a (by simp)
    have hb := hm c.o.b (by simp)
    have hd := hm c.o.d (by simp)
    unfold M9 at ha hb hd
    have ea : numR (Lib.itoa c.o.a) M9 = (c.o.a, 0) := by rw [numR_itoa _ ha.1 (by omega), if_neg (by unfold M9; omega)]
    have eb : numR (Lib.itoa c.o.b) M9 = (c.o.b, 0) := by rw [numR_itoa _ hb.1 (by omega), if_neg (by unfold M9; omega)]
    have ed : numR (Lib.itoa c.o.d) M9 = (c.o.d, 0) := by rw [numR_itoa _ hd.1 (by omega), if_neg (by unfold M9; omega)]
    have ec : sgnR (Lib.itoa c.o.c) = (c.o.c, 0) := sgnR_itoa (by unfold M9; omega) (by unfold M9; omega)
    have es : spansR (c.o.os.map toldS) [] = (c.o.os, 0) := by
      have := spansR_told c.o.os [] (fun s hs => spanOk_iff.1 (List.all_eq_true.1 h3 s hs)); simpa using this
    have eo : ordR (wordsC c) = (c.o.a, c.o.b, c.o.c, c.o.d, c.o.os, 0) := by
      rw [hw, ordR_ord]; unfold ord5
      rw [ea, eb, ec, ed, es]; rfl
    rw [hw] at eo
    rw [hw, hn]
    rw [readW_cons, if_pos rfl, eo]; rfl
  by_cases k2 : c.k = 2
  · have hw : wordsC c = [cancelW, Lib.itoa c.id] := by unfold wordsC; rw [if_neg k1, if_pos k2]
    have hn : needs c = ⟨2, zo, c.id, [], 0, 0, 0, 0, []⟩ := by unfold needs; rw [if_neg k1, if_pos k2]
    unfold canR at h
    rw [if_neg k1, if_pos k2] at h
    rw [hw, hn]
    rw [readW_cons, if_neg (by decide), if_pos rfl]
    unfold readW.cntL
    rw [if_neg (by simp)]
    simp only [List.tail_cons, one _ h, if_true]; rfl
  by_cases k3 : c.k = 3
  · have hw : wordsC c = recW :: Lib.itoa c.id :: c.rs.flatMap recWs := by unfold wordsC; rw [if_neg k1, if_neg k2, if_pos k3]
    have hn : needs c = ⟨3, zo, c.id, c.rs, 0, 0, 0, 0, []⟩ := by unfold needs; rw [if_neg k1, if_neg k2, if_pos k3]
    unfold canR at h
    rw [if_neg k1, if_neg k2, if_pos k3, Bool.and_eq_true] at h
    have hi := okAll_mem h.2 c.id (by simp)
    unfold M9 at hi
    have ei : numR (Lib.itoa c.id) M9 = (c.id, 0) := by rw [numR_itoa _ hi.1 (by omega), if_neg (by unfold M9; omega)]
    rw [hw, hn]
    rw [readW_cons, if_neg (by decide), if_neg (by decide), if_pos rfl]
    rw [recR_cons, if_pos (recWs_even _), ei, pairsR_recs _ _ h.1]; rfl
  by_cases k4 : c.k = 4
  · have hw : wordsC c = [tickW, Lib.itoa c.m] := by unfold wordsC; rw [if_neg k1, if_neg k2, if_neg k3, if_pos k4]
    have hn : needs c = ⟨4, zo, 0, [], c.m, 0, 0, 0, []⟩ := by unfold needs; rw [if_neg k1, if_neg k2, if_neg k3, if_pos k4]
    unfold canR at h
    rw [if_neg k1, if_neg k2, if_neg k3, if_pos k4] at h
    rw [hw, hn]
    rw [readW_cons, if_neg (by decide), if_neg (by decide), if_neg (by decide), if_pos rfl]
    unfold readW.cntL
    rw [if_neg (by simp)]
    simp only [List.tail_cons, one _ h, if_true]; rfl
  by_cases k5 : c.k = 5
  · have hw : wordsC c = replanW :: (c.u :: c.li :: c.bu :: c.ds).map Lib.itoa := by unfold wordsC; rw [if_neg k1, if_neg k2, if_neg k3, if_neg k4, if_pos k5]
    have hn : needs c = ⟨5, zo, 0, [], 0, c.u, c.li, c.bu, c.ds⟩ := by unfold needs; rw [if_neg k1, if_neg k2, if_neg k3, if_neg k4, if_pos k5]
    unfold canR at h
    rw [if_neg k1, if_neg k2, if_neg k3, if_neg k4, if_pos k5, Bool.and_eq_true] at h
    have e : numsR (-1) 0 ((c.u :: c.li :: c.bu :: c.ds).map Lib.itoa) [] = (c.u :: c.li :: c.bu :: c.ds, 0) := by
      have := numsR_itoa (c.u :: c.li :: c.bu :: c.ds) 0 [] (fun n hn => by
        simp only [List.mem_cons] at hn
        rcases hn with rfl | rfl | rfl | hn
        · exact okAll_mem h.1 _ (by simp)
        · exact okAll_mem h.1 _ (by simp)
        · exact okAll_mem h.1 _ (by simp)
        · exact okAll_mem h.2 n hn)
      simpa using this
    rw [hw, hn]
    rw [readW_cons, if_neg (by decide), if_neg (by decide), if_neg (by decide), if_neg (by decide), if_pos rfl]
    unfold readW.cntL
    rw [if_neg (by simp)]
    simp only [List.tail_cons, e, if_true]; rfl
  have hw : wordsC c = [showW] := by unfold wordsC; rw [if_neg k1, if_neg k2, if_neg k3, if_neg k4, if_neg k5]
  have hn : needs c = ⟨c.k, zo, 0, [], 0, 0, 0, 0, []⟩ := by unfold needs; rw [if_neg k1, if_neg k2, if_neg k3, if_neg k4, if_neg k5]
  unfold canR at h
  rw [if_neg k1, if_neg k2, if_neg k3, if_neg k4, if_neg k5, decide_eq_true_eq] at h
  rw [hw, hn, h]
  rw [readW_cons, if_neg (by decide), if_neg (by decide), if_neg (by decide), if_neg (by decide), if_neg (by decide), if_pos rfl]
  rfl
/-- A command's line is read as the command, with what its kind needs. -/
theorem read_line {c : Cmd} (h : (lineC c).2 = 0) : readC (lineC c).1 = (needs c, 0) := by
  unfold lineC at h ⊢
  split
  · rename_i k; rw [if_pos k] at h; cases h
  · rename_i k
    rw [if_neg k] at h
    split
    · rename_i q
      obtain ⟨ws, h1, h2⟩ := splR_jn (ls := wordsC c) (by unfold wordsC; (repeat' split) <;> simp) (wordsC_ok q)
      rw [textC_words, readC_W h1, h2, readW_words q]
    · rename_i q; rw [if_neg q] at h; cases h
theorem line_err {c : Cmd} (h : (lineC c).2 ≠ 0) : (lineC c).1 = [] := by
  unfold lineC at h ⊢
  split
  · rfl
  · split
    · rename_i k q; rw [if_neg k, if_pos q] at h; exact absurd rfl h
    · rfl
theorem cntL_err {ls : List (List UInt8)} {n : Nat} {op : Bool} {C : List Int → Cmd} (h : (readW.cntL ls n op C).2 ≠ 0) : (readW.cntL ls n op C).1 = zc := by
  unfold readW.cntL at h ⊢
  split
  · rfl
  · split
    · rename_i k q; rw [if_neg k, if_pos q] at h; exact absurd rfl h
    · rfl
theorem recR_err (ls : List (List UInt8)) (h : (recR ls).2 ≠ 0) : (recR ls).1 = zc := by
  match ls, h with
  | [], _ => rfl
  | [_], _ => rfl
  | w0 :: w1 :: r, h =>
    rw [recR_cons] at h ⊢
    split
    · rename_i a
      rw [if_pos a] at h
      split
      · rename_i b
        rw [if_pos b] at h
        split
        · rename_i c; rw [if_pos c] at h; exact absurd rfl h
        · rfl
      · rfl
    · rfl
theorem readW_err {ls : List (List UInt8)} (h : (readW ls).2 ≠ 0) : (readW ls).1 = zc := by
  unfold readW at h ⊢
  split
  · rfl
  · rename_i w0 r
    simp only at h
    by_cases k1 : w0 = ordW
    · rw [if_pos k1] at h ⊢
      split
      · rename_i q; rw [if_pos q] at h; exact absurd rfl h
      · rfl
    rw [if_neg k1] at h ⊢
    by_cases k2 : w0 = cancelW
    · rw [if_pos k2] at h ⊢; exact cntL_err h
    rw [if_neg k2] at h ⊢
    by_cases k3 : w0 = recW
    · rw [if_pos k3] at h ⊢; exact recR_err _ h
    rw [if_neg k3] at h ⊢
    by_cases k4 : w0 = tickW
    · rw [if_pos k4] at h ⊢; exact cntL_err h
    rw [if_neg k4] at h ⊢
    by_cases k5 : w0 = replanW
    · rw [if_pos k5] at h ⊢; exact cntL_err h
    rw [if_neg k5] at h ⊢
    by_cases k6 : w0 = showW
    · rw [if_pos k6] at h ⊢; exact cntL_err h
    rw [if_neg k6]
theorem read_err {l : List UInt8} (h : (readC l).2 ≠ 0) : (readC l).1 = zc := by
  cases e : splR l with
  | error p => rw [readC_err e]
  | ok ws => rw [readC_W e] at h ⊢; exact readW_err h
theorem cntL_ok {ls : List (List UInt8)} {n : Nat} {op : Bool} {C : List Int → Cmd} (h : (readW.cntL ls n op C).2 = 0) : ∃ x : List Int, (readW.cntL ls n op C).1 = C x ∧ ls.tail = x.map Lib.itoa ∧ (∀ n ∈ x, 0 ≤ n ∧ n ≤ M9) ∧ n ≤ x.length ∧ (op = false → x.length = n) := by
  unfold readW.cntL at h ⊢
  split
  · rename_i k; rw [if_pos k] at h; cases h
  · rename_i k
    rw [if_neg k] at h
    split
    · rename_i q
      obtain ⟨x, h1, h2, h3⟩ := numsR_canon _ _ _ q
      have hl : ls.tail.length = x.length := by rw [h2, List.length_map]
      rw [List.length_tail] at hl
      refine ⟨x, by simp only; rw [h1, List.nil_append], h2, h3, by omega, fun ho => by subst ho; simp at k; omega⟩
    · rename_i q; rw [if_neg q] at h; exact absurd h q
theorem kindL_canon {a : List UInt8} (h : (kindL a).2 = true) : a = [letR (kindL a).1] ∧ kOk (kindL a).1 = true := by
  unfold kindL at h ⊢
  split
  · rename_i c
    simp only at h
    unfold kindR at h ⊢
    split
    · rename_i e; subst e; exact ⟨rfl, rfl⟩
    split
    · rename_i e; subst e; exact ⟨rfl, rfl⟩
    split
    · rename_i e; subst e; exact ⟨rfl, rfl⟩
    split
    · rename_i e; subst e; exact ⟨rfl, rfl⟩
    · rename_i e1 e2 e3 e4; rw [if_neg e1, if_neg e2, if_neg e3, if_neg e4] at h; cases h
  · rename_i hh
    exfalso
    split at h
    · rename_i c; exact hh c rfl
    · cases h
theorem pairsR_canon : ∀ (r : List (List UInt8)) (p : List Rec), r.length % 2 = 0 → (pairsR r p).2 = 0 → ∃ rs : List Rec, (pairsR r p).1 = p ++ rs ∧ r = rs.flatMap recWs ∧ recAll rs = true
  | [], p, _, _ => ⟨[], by simp [pairsR], rfl, rfl⟩
  | [_], _, h, _ => by simp at h
  | a :: b :: r, p, hl, h => by
    simp only [pairsR] at h ⊢
    by_cases q1 : (kindL a).2 = true
    · rw [if_pos q1] at h ⊢
      by_cases q2 : (spanR b).2.2 = 0
      · rw [if_pos q2] at h ⊢
        obtain ⟨rs, h1, h2, h3⟩ := pairsR_canon r _ (by simp at hl; omega) h
        obtain ⟨e1, e2⟩ := kindL_canon q1
        have e : spanR b = ((spanR b).1, (spanR b).2.1, 0) := by rw [← q2]
        obtain ⟨f1, f2, f3, f4⟩ := span_canon e
        refine ⟨⟨(kindL a).1, (spanR b).1, (spanR b).2.1⟩ :: rs, by rw [h1]; simp, ?_, ?_⟩
        · rw [List.flatMap_cons, ← h2]
          simp only [recWs, List.cons_append, List.nil_append, ← e1, ← f1]
        · unfold recAll at h3 ⊢
          rw [List.all_cons, h3, Bool.and_true, decide_eq_true_eq]
          unfold recE
          rw [if_pos e2, if_pos (by simp [inR]; omega), if_pos (by simp [inR]; omega), if_neg (by simp only; omega)]
      · rw [if_neg q2] at h; exact absurd h q2
    · rw [if_neg q1] at h; cases h
theorem canR_C1 (x : OrdR) : canR (C1 x) = ordOk (OrdR.o x) := rfl
theorem lineC_of {c : Cmd} (hk : 1 ≤ c.k ∧ c.k ≤ 6) (h : canR c = true) : lineC c = (jn (wordsC c), 0) := by
  unfold lineC; rw [if_neg (by omega), if_pos h, textC_words]
/-- What is read is told as it was. -/
theorem readW_back {ls : List (List UInt8)} (h : (readW ls).2 = 0) : lineC (readW ls).1 = (jn ls, 0) := by
  cases ls with
  | nil => cases h
  | cons w0 r =>
    unfold readW at h ⊢
    simp only at h ⊢
    by_cases k1 : w0 = ordW
    · rw [if_pos k1] at h ⊢
      subst k1
      by_cases q : OrdR.e (ordR (ordW :: r)) = 0
      case neg => rw [if_neg q] at h; exact absurd h q
      rw [if_pos q]
      obtain ⟨w1, w2, w3, w4, r', rfl⟩ : ∃ w1 w2 w3 w4 r', r = w1 :: w2 :: w3 :: w4 :: r' := by
        match r, q with
        | w1 :: w2 :: w3 :: w4 :: r', _ => exact ⟨w1, w2, w3, w4, r', rfl⟩
        | [], q | [_], q | [_, _], q | [_, _, _], q => exact absurd q (by simp [ordR, zer, OrdR.e])
      · rw [ordR_ord] at q ⊢
        unfold ord5 at q ⊢
        by_cases q1 : (numR w1 M9).2 = 0
        case neg => rw [if_neg q1] at q; exact absurd q q1
        rw [if_pos q1] at q ⊢
        by_cases q2 : (numR w2 M9).2 = 0
        case neg => rw [if_neg q2] at q; exact absurd q q2
        rw [if_pos q2] at q ⊢
        by_cases q3 : (sgnR w3).2 = 0
        case neg => rw [if_neg q3] at q; exact absurd q q3
        rw [if_pos q3] at q ⊢
        by_cases q4 : (numR w4 M9).2 = 0
        case neg => rw [if_neg q4] at q; exact absurd q q4
        rw [if_pos q4] at q ⊢
        by_cases q5 : (spansR r' []).2 = 0
        case neg => rw [if_neg q5] at q; exact absurd q q5
        rw [if_pos q5]
        obtain ⟨a1, a2, a3⟩ := numR_canon q1
        obtain ⟨b1, b2, b3⟩ := numR_canon q2
        obtain ⟨c1, c2, c3⟩ := sgnR_canon q3
        obtain ⟨d1, d2, d3⟩ := numR_canon q4
        obtain ⟨os, s1, s2, s3⟩ := spansR_canon _ _ q5
        rw [lineC_of ⟨by simp [C1], by simp [C1]⟩]
        · simp only [wordsC, C1, OrdR.o, if_true, a1, b1, c1, d1, s1, List.nil_append, ← s2]
        · rw [canR_C1]
          simp only [OrdR.o, ordOk, s1, List.nil_append, Bool.and_eq_true, decide_eq_true_eq]
          unfold M9 at c2 c3
          refine ⟨⟨okAll_of fun n hn => ?_, by omega, by omega⟩, List.all_eq_true.2 fun s hs => spanOk_iff.2 (s3 s hs)⟩
          simp only [List.mem_cons, List.mem_nil_iff, or_false] at hn
          rcases hn with rfl | rfl | rfl
          · exact ⟨a2, a3⟩
          · exact ⟨b2, b3⟩
          · exact ⟨d2, d3⟩
    rw [if_neg k1] at h ⊢
    have one : ∀ {x : List Int}, x.length = 1 → ∃ n, x = [n] := fun {x} hx => by
      match x, hx with
      | [n], _ => exact ⟨n, rfl⟩
    by_cases k2 : w0 = cancelW
    · rw [if_pos k2] at h ⊢
      subst k2
      obtain ⟨x, h1, h2, h3, _, h5⟩ := cntL_ok h
      obtain ⟨n, rfl⟩ := one (h5 rfl)
      rw [h1, lineC_of ⟨by simp [C2], by simp [C2]⟩]
      · rw [List.tail_cons] at h2; rw [h2]; rfl
      · exact okAll_of h3
    rw [if_neg k2] at h ⊢
    by_cases k3 : w0 = recW
    · rw [if_pos k3] at h ⊢
      subst k3
      obtain ⟨w1, r', rfl⟩ : ∃ w1 r', r = w1 :: r' := by
        cases r with
        | nil => cases h
        | cons w1 r' => exact ⟨w1, r', rfl⟩
      · rw [recR_cons] at h ⊢
        by_cases q0 : r'.length % 2 = 0
        case neg => rw [if_neg q0] at h; cases h
        rw [if_pos q0] at h ⊢
        by_cases q1 : (numR w1 M9).2 = 0
        case neg => rw [if_neg q1] at h; exact absurd h q1
        rw [if_pos q1] at h ⊢
        by_cases q2 : (pairsR r' []).2 = 0
        case neg => rw [if_neg q2] at h; exact absurd h q2
        rw [if_pos q2]
        obtain ⟨a1, a2, a3⟩ := numR_canon q1
        obtain ⟨rs, s1, s2, s3⟩ := pairsR_canon _ _ q0 q2
        rw [lineC_of ⟨by simp [C3], by simp [C3]⟩]
        · simp only [wordsC, C3, a1, s1, List.nil_append, ← s2]; rfl
        · unfold canR
          simp only [C3, s1, List.nil_append]
          rw [if_neg (by decide), if_neg (by decide), if_pos trivial, s3, Bool.true_and]
          exact okAll_of fun n hn => by rw [List.mem_singleton.1 hn]; exact ⟨a2, a3⟩
    rw [if_neg k3] at h ⊢
    by_cases k4 : w0 = tickW
    · rw [if_pos k4] at h ⊢
      subst k4
      obtain ⟨x, h1, h2, h3, _, h5⟩ := cntL_ok h
      obtain ⟨n, rfl⟩ := one (h5 rfl)
      rw [h1, lineC_of ⟨by simp [C4], by simp [C4]⟩]
      · rw [List.tail_cons] at h2; rw [h2]; rfl
      · exact okAll_of h3
    rw [if_neg k4] at h ⊢
    by_cases k5 : w0 = replanW
    · rw [if_pos k5] at h ⊢
      subst k5
      obtain ⟨x, h1, h2, h3, h4, _⟩ := cntL_ok h
      obtain ⟨u, li, bu, ds, rfl⟩ : ∃ u li bu ds, x = u :: li :: bu :: ds := by
        match x, h4 with
        | u :: li :: bu :: ds, _ => exact ⟨u, li, bu, ds, rfl⟩
      rw [h1, lineC_of ⟨by simp [C5], by simp [C5]⟩]
      · rw [List.tail_cons] at h2; rw [h2]; rfl
      · unfold canR
        simp only [C5]
        rw [if_neg (by decide), if_neg (by decide), if_neg (by decide), if_neg (by decide), if_pos trivial, Bool.and_eq_true]
        exact ⟨okAll_of fun n hn => h3 n (List.mem_of_mem_take (i := 3) (l := u :: li :: bu :: ds) (by simpa using hn)), okAll_of fun n hn => h3 n (List.mem_of_mem_drop hn)⟩
    rw [if_neg k5] at h ⊢
    by_cases k6 : w0 = showW
    · rw [if_pos k6] at h ⊢
      subst k6
      obtain ⟨x, h1, h2, h3, _, h5⟩ := cntL_ok h
      have : x = [] := List.length_eq_zero_iff.1 (h5 rfl)
      subst this
      rw [h1, lineC_of ⟨by simp [C6], by simp [C6]⟩]
      · rw [List.tail_cons] at h2; rw [h2]; rfl
      · rfl
    rw [if_neg k6] at h; cases h
theorem read_back {l : List UInt8} (h : (readC l).2 = 0) : lineC (readC l).1 = (l, 0) := by
  cases e : splR l with
  | error p => rw [readC_err e] at h; cases h
  | ok ws =>
    rw [readC_W e] at h ⊢
    rw [readW_back h, show jn (ws.map (·.2)) = l from (splR_ok e).1]
end ZD
open Go Go.AM Go.Proofs Go.AM.Pl
set_option maxRecDepth 100000
set_option maxHeartbeats 4000000
namespace ZD
theorem b9 {n : Int} (h : 0 ≤ n ∧ n ≤ M9) : i64B n := by unfold M9 at h; unfold i64B; omega
theorem wf_of {k : Int} {o : Ord} {id : Int} {rs : List Rec} {m u li bu : Int} {ds : List Int} (h1 : o.wf) (h2 : i64B id) (h3 : i64B m) (h4 : i64B u) (h5 : i64B li) (h6 : i64B bu) (h7 : ∀ n ∈ ds, i64B n) (h8 : rs.length ≤ 1000) (h9 : ds.length ≤ 1000) : (Cmd.mk k o id rs m u li bu ds).wf := ⟨h1, h2, h3, h4, h5, h6, h7, h8, h9⟩
theorem nil_b : ∀ n ∈ ([] : List Int), i64B n := fun _ h => by cases h
theorem readW_wf {ls : List (List UInt8)} (hl : ls.length ≤ 900) (h : (readW ls).2 = 0) : (readW ls).1.wf := by
  cases ls with
  | nil => cases h
  | cons w0 r =>
    unfold readW at h ⊢
    simp only at h ⊢
    by_cases k1 : w0 = ordW
    · rw [if_pos k1] at h ⊢
      by_cases q : OrdR.e (ordR (w0 :: r)) = 0
      case neg => rw [if_neg q] at h; exact absurd h q
      rw [if_pos q]
      exact wf_of (ordR_wf _ (by omega)) b0 b0 b0 b0 b0 nil_b (by simp) (by simp)
    rw [if_neg k1] at h ⊢
    have one : ∀ {x : List Int}, x.length = 1 → ∃ n, x = [n] := fun {x} hx => by
      match x, hx with
      | [n], _ => exact ⟨n, rfl⟩
    by_cases k2 : w0 = cancelW
    · rw [if_pos k2] at h ⊢
      obtain ⟨x, h1, h2, h3, _, h5⟩ := cntL_ok h
      obtain ⟨n, rfl⟩ := one (h5 rfl)
      rw [h1]
      exact wf_of zo_wf (b9 (h3 n (by simp))) b0 b0 b0 b0 nil_b (by simp) (by simp)
    rw [if_neg k2] at h ⊢
    by_cases k3 : w0 = recW
    · rw [if_pos k3] at h ⊢
      subst k3
      obtain ⟨w1, r', rfl⟩ : ∃ w1 r', r = w1 :: r' := by
        cases r with
        | nil => cases h
        | cons w1 r' => exact ⟨w1, r', rfl⟩
      · rw [recR_cons] at h ⊢
        by_cases q0 : r'.length % 2 = 0
        case neg => rw [if_neg q0] at h; cases h
        rw [if_pos q0] at h ⊢
        by_cases q1 : (numR w1 M9).2 = 0
        case neg => rw [if_neg q1] at h; exact absurd h q1
        rw [if_pos q1] at h ⊢
        by_cases q2 : (pairsR r' []).2 = 0
        case neg => rw [if_neg q2] at h; exact absurd h q2
        rw [if_pos q2]
        obtain ⟨a1, a2, a3⟩ := numR_canon q1
        have := pairsR_len r' []
        simp only [List.length_cons, List.length_nil] at hl this
        exact wf_of zo_wf (b9 ⟨a2, a3⟩) b0 b0 b0 b0 nil_b (by omega) (by simp)
    rw [if_neg k3] at h ⊢
    by_cases k4 : w0 = tickW
    · rw [if_pos k4] at h ⊢
      obtain ⟨x, h1, h2, h3, _, h5⟩ := cntL_ok h
      obtain ⟨n, rfl⟩ := one (h5 rfl)
      rw [h1]
      exact wf_of zo_wf b0 (b9 (h3 n (by simp))) b0 b0 b0 nil_b (by simp) (by simp)
    rw [if_neg k4] at h ⊢
    by_cases k5 : w0 = replanW
    · rw [if_pos k5] at h ⊢
      obtain ⟨x, h1, h2, h3, h4, _⟩ := cntL_ok h
      have hx : x.length = r.length := by
        have := congrArg List.length h2
        simpa using this.symm
      obtain ⟨u, li, bu, ds, rfl⟩ : ∃ u li bu ds, x = u :: li :: bu :: ds := by
        match x, h4 with
        | u :: li :: bu :: ds, _ => exact ⟨u, li, bu, ds, rfl⟩
      rw [h1]
      simp only [List.length_cons] at hx hl
      exact wf_of zo_wf b0 b0 (b9 (h3 u (by simp))) (b9 (h3 li (by simp))) (b9 (h3 bu (by simp))) (fun n hn => b9 (h3 n (by simp at hn; simp [hn]))) (by simp) (by simp; omega)
    rw [if_neg k5] at h ⊢
    by_cases k6 : w0 = showW
    · rw [if_pos k6] at h ⊢
      obtain ⟨x, h1, h2, h3, _, h5⟩ := cntL_ok h
      rw [h1]
      exact wf_of zo_wf b0 b0 b0 b0 b0 nil_b (by simp) (by simp)
    rw [if_neg k6] at h; cases h
theorem readC_wf {l : List UInt8} (hl : l.length ≤ 600) (h : (readC l).2 = 0) : (readC l).1.wf := by
  cases e : splR l with
  | error p => rw [readC_err e] at h; cases h
  | ok ws =>
    have := splR_count e
    rw [readC_W e] at h ⊢
    exact readW_wf (by simp; omega) h
theorem wordsC_len {c : Cmd} (h : canR c = true) (hf : fewR c = true) : (∀ w ∈ wordsC c, w.length ≤ 100) ∧ (wordsC c).length ≤ 200 := by
  simp only [fewR, Bool.and_eq_true, decide_eq_true_eq] at hf
  obtain ⟨⟨f1, f2⟩, f3⟩ := hf
  have it : ∀ {n : Int}, 0 ≤ n ∧ n ≤ M9 → (Lib.itoa n).length ≤ 100 := fun h => itoa_len' (b9 h)
  unfold wordsC
  unfold canR at h
  split
  · rename_i k1
    rw [if_pos k1] at h
    simp only [ordOk, Bool.and_eq_true, decide_eq_true_eq] at h
    obtain ⟨⟨h1, h2⟩, h3⟩ := h
    have hm := okAll_mem h1
    refine ⟨fun w hw => ?_, by simp; omega⟩
    simp only [List.mem_cons, List.mem_map] at hw
    rcases hw with rfl | rfl | rfl | rfl | rfl | ⟨s, hs, rfl⟩
    · decide
    · exact it (hm _ (by simp))
    · exact it (hm _ (by simp))
    · exact itoa_len' (by unfold i64B; omega)
    · exact it (hm _ (by simp))
    · have := spanOk_iff.1 (List.all_eq_true.1 h3 s hs)
      have := told_len' s.f0 s.f1 (by unfold i64B; omega) (by unfold i64B; omega)
      unfold toldS; omega
  rename_i k1
  rw [if_neg k1] at h
  split
  · rename_i k2
    rw [if_pos k2] at h
    refine ⟨fun w hw => ?_, by simp⟩
    simp only [List.mem_cons, List.mem_nil_iff, or_false] at hw
    rcases hw with rfl | rfl
    · decide
    · exact it (okAll_mem h _ (by simp))
  rename_i k2
  rw [if_neg k2] at h
  split
  · rename_i k3
    rw [if_pos k3, Bool.and_eq_true] at h
    refine ⟨fun w hw => ?_, ?_⟩
    · simp only [List.mem_cons] at hw
      rcases hw with rfl | rfl | hw
      · decide
      · exact it (okAll_mem h.2 _ (by simp))
      · obtain ⟨r, hr, hw⟩ := List.mem_flatMap.1 hw
        obtain ⟨e1, e2, e3, e4⟩ := recE_ok (by simpa using List.all_eq_true.1 h.1 r hr)
        simp [recWs] at hw
        rcases hw with rfl | rfl
        · simp
        · have := told_len' r.f r.t (inR_b e2) (inR_b e3); omega
    · have : ∀ rs : List Rec, (rs.flatMap recWs).length = 2 * rs.length := by
        intro rs
        induction rs with
        | nil => rfl
        | cons r rs ih => rw [List.flatMap_cons, List.length_append, ih]; simp [recWs]; omega
      simp [this]; omega
  rename_i k3
  rw [if_neg k3] at h
  split
  · rename_i k4
    rw [if_pos k4] at h
    refine ⟨fun w hw => ?_, by simp⟩
    simp only [List.mem_cons, List.mem_nil_iff, or_false] at hw
    rcases hw with rfl | rfl
    · decide
    · exact it (okAll_mem h _ (by simp))
  rename_i k4
  rw [if_neg k4] at h
  split
  · rename_i k5
    rw [if_pos k5, Bool.and_eq_true] at h
    refine ⟨fun w hw => ?_, by simp; omega⟩
    simp only [List.map_cons, List.mem_cons, List.mem_map] at hw
    rcases hw with rfl | rfl | rfl | rfl | ⟨n, hn, rfl⟩
    · decide
    · exact it (okAll_mem h.1 _ (by simp))
    · exact it (okAll_mem h.1 _ (by simp))
    · exact it (okAll_mem h.1 _ (by simp))
    · exact it (okAll_mem h.2 n hn)
  · refine ⟨fun w hw => ?_, by simp⟩
    simp only [List.mem_cons, List.mem_nil_iff, or_false] at hw
    subst hw; decide
theorem line_len {c : Cmd} (hf : fewR c = true) : (lineC c).1.length ≤ 300000 := by
  unfold lineC
  split
  · simp
  · split
    · rename_i q
      obtain ⟨h1, h2⟩ := wordsC_len q hf
      simp only
      rw [textC_words]
      have := jn_len 100 _ h1
      have : (wordsC c).length * (100 + 1) ≤ 200 * 101 := Nat.mul_le_mul_right _ h2
      omega
    · simp
theorem s19 {lo : Nat} {c : Cmd} {h : H} : den cx lo 19 [c.v] h = some ((needs c).v, h) := by
  obtain ⟨k, ⟨a, b, c, d, os⟩, id, rs, m, u, li, bu, ds⟩ := c
  have zs : spns [] = [] := rfl
  have zr : recs [] = [] := rfl
  have zi : ints [] = [] := rfl
  refine den_pure (fn := Tryz.f19) (by rfl) (by rfl) (by rfl) (by rfl) (by simp [Tryz.f19]) (by simp) ?_
  by_cases k1 : k = 1
  · subst k1
    simp (disch := first | omega | (simp; done) | (simp; omega) | assumption) [Tryz.f19, argsE, Cmd.v, Cmd.cs, boxV, boxO, fresh_no, List.filter_cons, setB, aggN, op_build, List.set, Cl1_tup, Cl1_agg, Cl1_vs, needs, zo, zs, zr, zi]
  by_cases k2 : k = 2
  · subst k2
    simp (disch := first | omega | (simp; done) | (simp; omega) | assumption) [Tryz.f19, argsE, Cmd.v, Cmd.cs, boxV, boxO, fresh_no, List.filter_cons, setB, aggN, op_build, List.set, Cl1_tup, Cl1_agg, Cl1_vs, needs, zo, zs, zr, zi]
  by_cases k3 : k = 3
  · subst k3
    simp (disch := first | omega | (simp; done) | (simp; omega) | assumption) [Tryz.f19, argsE, Cmd.v, Cmd.cs, boxV, boxO, fresh_no, List.filter_cons, setB, aggN, op_build, List.set, Cl1_tup, Cl1_agg, Cl1_vs, needs, zo, zs, zr, zi]
  by_cases k4 : k = 4
  · subst k4
    simp (disch := first | omega | (simp; done) | (simp; omega) | assumption) [Tryz.f19, argsE, Cmd.v, Cmd.cs, boxV, boxO, fresh_no, List.filter_cons, setB, aggN, op_build, List.set, Cl1_tup, Cl1_agg, Cl1_vs, needs, zo, zs, zr, zi]
  by_cases k5 : k = 5
  · subst k5
    simp (disch := first | omega | (simp; done) | (simp; omega) | assumption) [Tryz.f19, argsE, Cmd.v, Cmd.cs, boxV, boxO, fresh_no, List.filter_cons, setB, aggN, op_build, List.set, Cl1_tup, Cl1_agg, Cl1_vs, needs, zo, zs, zr, zi]
  simp (disch := first | omega | (simp; done) | (simp; omega) | assumption) [Tryz.f19, argsE, Cmd.v, Cmd.cs, boxV, boxO, fresh_no, List.filter_cons, setB, aggN, op_build, List.set, Cl1_tup, Cl1_agg, Cl1_vs, needs, zo, zs, zr, zi, k1, k2, k3, k4, k5]
theorem needs_ok {c : Cmd} (hw : c.wf) : CmdOk (needs c) := by
  unfold needs
  repeat' split
  · exact ⟨hw.o, by simp, by simp⟩
  · exact ⟨zo_wf, by simp, by simp⟩
  · exact ⟨zo_wf, by have := hw.nr; simp only; omega, by simp⟩
  · exact ⟨zo_wf, by simp, by simp⟩
  · exact ⟨zo_wf, by simp, by have := hw.nd; simp only; omega⟩
  · exact ⟨zo_wf, by simp, by simp⟩
end ZD
open Go Go.AM Go.Proofs Go.AM.Pl
set_option maxRecDepth 100000
set_option maxHeartbeats 4000000
namespace ZD
theorem zc_v : zc.v = .agg [.i 0, .i 0, .i 0, .i 0, .i 0, AM.vs .dead 0 [], .i 0, AM.vs .dead 0 [], .i 0, .i 0, .i 0, .i 0, AM.vs .dead 0 []] := by rw [Cmd.v, zc_cs]
theorem s4 {lo : Nat} {c : Cmd} {l : List UInt8} {h : H} (hr : c.rng) : den cx lo 4 [c.v, .t l] h = some (.b true, h) := by
  have e10 := fun lo => s10 (lo := lo) (c := c) (h := h)
  refine den_pure (fn := Tryz.f4) (by rfl) (by rfl) (by rfl) (by rfl) (by simp [Tryz.f4]) (by simp) ?_
  by_cases hf : fewR c = true
  case neg =>
    simp only [Cmd.v, Cmd.cs] at e10
    simp (disch := first | omega | (simp; done) | (simp; omega) | assumption) [Tryz.f4, argsE, Cmd.v, Cmd.cs, boxV, boxO, fresh_no, List.filter_cons, setB, aggN, op_build, List.set, isC, e10, hf, s11]
  by_cases hl : l.length ≤ 600
  case neg =>
    have hl' : (600 : Int) < l.length := by omega
    simp only [Cmd.v, Cmd.cs] at e10
    simp (disch := first | omega | (simp; done) | (simp; omega) | assumption) [Tryz.f4, argsE, Cmd.v, Cmd.cs, boxV, boxO, fresh_no, List.filter_cons, setB, aggN, op_build, List.set, isC, e10, hf, hl', s11]
  have hl' : ¬ ((600 : Int) < l.length) := by omega
  have hf' := hf
  simp only [fewR, Bool.and_eq_true, decide_eq_true_eq] at hf'
  obtain ⟨⟨f1, f2⟩, f3⟩ := hf'
  have hw : c.wf := ⟨⟨hr.oa, hr.ob, hr.oc, hr.od, hr.oos, by omega⟩, hr.id, hr.m, hr.u, hr.li, hr.bu, hr.ds, by omega, by omega⟩
  have e13 := fun lo => s13 (lo := lo) (c := c) (h := h)
  have e12 := fun lo => s12 (lo := lo) (c := c) (h := h) hw
  have e19 := fun lo => s19 (lo := lo) (c := c) (h := h)
  have hn := needs_ok hw
  have e18n := fun lo => s18 (lo := lo) (c := needs c) (h := h)
  have e17n := fun lo => s17 (lo := lo) (c := needs c) (h := h) hn.o hn.r hn.d
  have e15n := fun lo => s15 (lo := lo) (l := (lineC c).1) (h := h) (line_len hf)
  have e15 := fun lo => s15 (lo := lo) (l := l) (h := h) (by omega)
  have e18 := fun lo => s18 (lo := lo) (c := (readC l).1) (h := h)
  have e17z := fun lo => s17 (lo := lo) (c := zc) (h := h) zc_ok.o zc_ok.r zc_ok.d
  have hX : ((readC l).2 ≠ 0 ∧ (readC l).1 = zc) ∨ ((readC l).2 = 0 ∧ ∀ lo, den cx lo 12 [(readC l).1.v] h = some (.tup [.t l, .i 0], h)) := by
    by_cases q : (readC l).2 = 0
    · refine .inr ⟨q, fun lo => ?_⟩
      have := s12 (lo := lo) (c := (readC l).1) (h := h) (readC_wf hl q)
      rw [read_back q] at this; exact this
    · exact .inl ⟨q, read_err q⟩
  have hY : ((lineC c).2 ≠ 0 ∧ (lineC c).1 = []) ∨ ((lineC c).2 = 0 ∧ readC (lineC c).1 = (needs c, 0)) := by
    by_cases q : (lineC c).2 = 0
    · exact .inr ⟨q, read_line q⟩
    · exact .inl ⟨q, line_err q⟩
  clear hw hr hn f1 f2 f3 hl
  generalize readC l = X at *
  generalize lineC c = Y at *
  generalize needs c = Nc at *
  rcases hY with ⟨y1, y2⟩ | ⟨y1, y2⟩
  · obtain ⟨Y1, Y2⟩ := Y
    simp only at y1 y2 e15n
    subst y2
    clear e15n e18n e17n e19
    rcases hX with ⟨x1, x2⟩ | ⟨x1, x2⟩
    · obtain ⟨X1, X2⟩ := X
      simp only at x1 x2
      subst x2
      simp only [cmdV, lineV] at e12 e15
      simp only [zc_v] at e15 e18 e17z
      simp only [Cmd.v, Cmd.cs] at e10 e12 e13
      simp (disch := first | omega | (simp; done) | (simp; omega) | assumption) [Tryz.f4, argsE, Cmd.v, Cmd.cs, boxV, boxO, fresh_no, List.filter_cons, setB, aggN, op_build, List.set, isC, e10, hf, hl', e13, e12, y1, e15, e18, x1, e17z, zc_cs, s11, foot, Op.operands, opTmps, elemsV]
    · simp only [cmdV, lineV, Cmd.v, Cmd.cs] at e10 e12 e13 e15 e18 x2
      simp (disch := first | omega | (simp; done) | (simp; omega) | assumption) [Tryz.f4, argsE, Cmd.v, Cmd.cs, boxV, boxO, fresh_no, List.filter_cons, setB, aggN, op_build, List.set, isC, e10, hf, hl', e13, e12, y1, e15, e18, x1, x2, s11, foot, Op.operands, opTmps]
  · obtain ⟨Y1, Y2⟩ := Y
    simp only at y1 y2 e15n
    subst y1
    rw [y2] at e15n
    rcases hX with ⟨x1, x2⟩ | ⟨x1, x2⟩
    · obtain ⟨X1, X2⟩ := X
      simp only at x1 x2
      subst x2
      simp only [cmdV, lineV] at e12 e15 e15n
      simp only [zc_v] at e15 e18 e17z
      simp only [Cmd.v, Cmd.cs] at e10 e12 e13 e15n e18n e17n e19
      simp (disch := first | omega | (simp; done) | (simp; omega) | assumption) [Tryz.f4, argsE, Cmd.v, Cmd.cs, boxV, boxO, fresh_no, List.filter_cons, setB, aggN, op_build, List.set, isC, e10, hf, hl', e13, e12, e15n, e18n, e19, e17n, e15, e18, x1, e17z, zc_cs, s11, foot, Op.operands, opTmps]
      exact indep_of bf4_6 (by rfl)
    · simp only [cmdV, lineV, Cmd.v, Cmd.cs] at e10 e12 e13 e15 e18 e15n e18n e17n e19 x2
      simp (disch := first | omega | (simp; done) | (simp; omega) | assumption) [Tryz.f4, argsE, Cmd.v, Cmd.cs, boxV, boxO, fresh_no, List.filter_cons, setB, aggN, op_build, List.set, isC, e10, hf, hl', e13, e12, e15n, e18n, e19, e17n, e15, e18, x1, x2, s11, foot, Op.operands, opTmps]
      exact indep_of bf4_6 (by rfl)
/-- THE LAW ScriptBack, on all that may be handed in. -/
theorem law4 {a b : V} (ha : TArg cx.P 6 30 a) (hb : TArg cx.P 6 9 b) : ∃ k h', denK cx k 0 4 [a, b] [] = some (.b true, h') := by
  obtain ⟨c, rfl, hr⟩ := arg30 ha
  obtain ⟨l, rfl⟩ := arg9 hb
  obtain ⟨k, hk⟩ := den_iff.1 (s4 (lo := 0) (l := l) (h := []) hr)
  exact ⟨k, _, hk⟩
end ZD

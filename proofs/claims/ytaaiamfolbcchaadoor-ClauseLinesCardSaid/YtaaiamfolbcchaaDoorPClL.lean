/- The plain law of ClauseLines (layer 15). -/
import Derived.Test.YtaaiamfolbcchaaDoorX28
import Derived.Test.YtaaiamfolbcchaaDoorPClA
import Derived.Test.YtaaiamfolbcchaaDoorPWordS
import Derived.OpenShut
namespace Go.Proofs.YtaaiamfolbcchaaDoor.Pure
set_option linter.unusedVariables false
set_option linter.unusedSimpArgs false
open Go.RowKit Go.Proofs.YtaaiamfolbcchaaDoor.Y0 Go.Proofs.YtaaiamfolbcchaaDoor.X1 Go.Proofs.YtaaiamfolbcchaaDoor.X2 Go.Proofs.YtaaiamfolbcchaaDoor.Ext Go.Proofs.YtaaiamfolbcchaaDoorW.PrintWords Go.Proofs.YtaaiamfolbcchaaDoorW.PrintLast Go.Proofs.YtaaiamfolbcchaaDoorW.PrintMore

theorem refLine_tells (c a b : Int) (ha : i64B a) (hb : i64B b) : Ev (fun k => haulierref15_Line.f k c a b) (mk (lineR c a b).1, (lineR c a b).2) := by
  have no : Ev (fun k => haulierref15_Line.j0 k true c a b) (mk [], 4) := Ev.step (f := fun _ => some (mk [], 4)) (fun k => by simp only [haulierref15_Line.j0]; rw [if_pos trivial]; rfl) (Ev.now _)
  unfold haulierref15_Line.f lineR
  rw [refName_tells]
  simp only [Option.bind_some, toList_mk]
  by_cases h : isC c
  case neg =>
    have hne : nameR c = [] := by
      by_cases e : nameR c = []
      · exact e
      · exact absurd ((nameR_ne c).1 e) h
    simp only [hne, if_true, if_neg h]
    exact Ev.now _
  have hne := (nameR_ne c).2 h
  simp only [if_neg hne, if_pos h]
  by_cases h1 : b ≤ a
  · simp only [if_pos h1]
    exact Ev.now _
  simp only [if_neg h1]
  by_cases h2 : a < 0
  · simp only [if_pos h2, if_pos (Or.inl h2 : a < 0 ∨ b > 40320)]
    exact no
  simp only [if_neg h2]
  by_cases h3 : b > 40320
  · simp only [decide_eq_true h3, if_pos (Or.inr h3 : a < 0 ∨ b > 40320)]
    exact no
  simp only [decide_eq_false h3, if_neg (show ¬ (a < 0 ∨ b > 40320) by omega)]
  have l1 := arL_len c h
  have l2 := nmL_len c h
  have l3 := told_len a b ha hb
  have e1 : articleR c = arL c := if_pos h
  have e2 : nameR c = nmL c := if_pos h
  have k1 : (⟨#[97, 114, 116, 46]⟩ : ByteArray) = mk art4 := rfl
  have k2 : (⟨#[32]⟩ : ByteArray) = mk [32] := rfl
  refine Ev.step (f := fun k => (haulierref06_Told.f k a b).bind fun t159 => some (mk (art4 ++ arL c ++ [32] ++ nmL c ++ [32]) ++ t159, 0)) (fun k => ?_) ?_
  · simp only [haulierref15_Line.j0, refArticle_tells, refName_tells, Option.bind_some, e1, e2, k1, k2, append_mk, size_mk, List.length_append, List.length_cons, List.length_nil]
    have la4 : art4.length = 4 := rfl
    rw [if_neg (by decide), if_pos (by omega), if_pos (by omega), if_pos (by omega), if_pos (by omega)]
    cases hh : haulierref06_Told.f k a b with
    | none => rfl
    | some t =>
      have ht : t = mk (toldL a b) := by
        obtain ⟨K, hK⟩ := refTold_tells a b ha hb
        have h1 : haulierref06_Told.f (max K k) a b = some (mk (toldL a b)) := hK (max K k) (Nat.le_max_left _ _)
        have h2 : haulierref06_Told.f (max K k) a b = some t := at_rounds (g := fun k => haulierref06_Told.f k a b) (haulierref06_Told.mono a b) (Nat.le_max_right K k) hh
        rw [h1] at h2
        exact (Option.some.inj h2).symm
      subst ht
      simp only [Option.bind_some]
      rw [if_pos (by rw [size_mk]; omega)]
  · refine Ev.bind (f := fun k t159 => some (mk (art4 ++ arL c ++ [32] ++ nmL c ++ [32]) ++ t159, (0 : Int))) (refTold_tells a b ha hb) ?_
    rw [append_mk]
    have : art4 ++ arL c ++ [32] ++ nmL c ++ [32] ++ toldL a b = lineL c a b := by simp [lineL]
    rw [this]
    exact Ev.now _

/-! ### A line's finding -/
def parse3 (w0 w1 w2 : List UInt8) : Int × Int × Int × Int :=
  match findR w1 with
  | none => (0, 0, 0, 7)
  | some c => if w0 = art4 ++ arL (c : Int) then (if (spanR w2).2.2 = 0 then ((c : Int), (spanR w2).1, (spanR w2).2.1, 0) else (0, 0, 0, 7)) else (0, 0, 0, 7)
def parseW : Except Nat (List (Nat × List UInt8)) → Int × Int × Int × Int
  | .ok [w0, w1, w2] => parse3 w0.2 w1.2 w2.2
  | _ => (0, 0, 0, 7)
theorem prefix_tells (l : List UInt8) (h : l.length ≤ 4294967280) : strings_CutPrefix.f (mk l) (⟨#[97, 114, 116, 46]⟩ : ByteArray) = some (if l.take 4 = art4 then (mk (l.drop 4), true) else (mk l, false)) := by
  have hz : ((⟨#[97, 114, 116, 46]⟩ : ByteArray).size : Int) = 4 := rfl
  have hl : ((mk l).size : Int) = (l.length : Int) := rfl
  have hH : stringslite_HasPrefix.f (mk l) (⟨#[97, 114, 116, 46]⟩ : ByteArray) = some (decide (l.take 4 = art4)) := by
    unfold stringslite_HasPrefix.f
    rw [hz, hl]
    by_cases h4 : (l.length : Int) ≥ 4
    · rw [if_pos h4, if_pos (by omega), if_pos (by omega), show ((4 : Int)).toNat = 4 from rfl, extract_mk, toList_mk, show (⟨#[97, 114, 116, 46]⟩ : ByteArray).toList = art4 from toList_mk art4]
      simp only [List.drop_zero, Nat.sub_zero]
      by_cases e : l.take 4 = art4
      · rw [decide_eq_true e, e, beq_self_eq_true]
      · rw [decide_eq_false e, show (l.take 4 == art4) = false by simpa using e]
    · have e : ¬ l.take 4 = art4 := fun e => by
        have := congrArg List.length e
        rw [List.length_take, show art4.length = 4 from rfl] at this
        omega
      rw [if_neg h4, decide_eq_false e]
  unfold strings_CutPrefix.f stringslite_CutPrefix.f
  rw [hH, hz, hl]
  by_cases e : l.take 4 = art4
  · have h4 : 4 ≤ l.length := by
      have := congrArg List.length e
      rw [List.length_take, show art4.length = 4 from rfl] at this
      omega
    simp only [Option.bind_some, decide_eq_true e, if_true, if_pos e]
    rw [if_pos (by omega), if_pos (by omega), show ((4 : Int)).toNat = 4 from rfl, extract_mk]
    simp only [Option.bind_some]
    congr 3
    rw [List.take_of_length_le (by rw [size_mk, List.length_drop]; exact Nat.le_refl _)]
  · simp only [Option.bind_some, decide_eq_false e, if_neg e, Bool.false_eq_true, if_false]
theorem marked_iff (l : List UInt8) (x : List UInt8) : (l.take 4 = art4 ∧ l.drop 4 = x) ↔ l = art4 ++ x := by
  constructor
  · rintro ⟨h1, h2⟩
    rw [← List.take_append_drop 4 l, h1, h2]
  · rintro rfl
    exact ⟨rfl, rfl⟩
theorem parse_j1 (w0 w1 w2 : Nat × List UInt8) (c : Int) (h2 : w2.2.length ≤ 4294967280) : Ev (fun k => clause_Parse.j1 k [toW w0, toW w1, toW w2] c false) (if (spanR w2.2).2.2 = 0 then (c, (spanR w2.2).1, (spanR w2.2).2.1, 0) else (0, 0, 0, 7)) := by
  have sp := Span_tells (mk w2.2) h2
  rw [data_mk] at sp
  refine Ev.step (f := fun k => (word_Span.f k (mk w2.2)).bind fun bt177 => (if bt177.2.2 = 0 then (some (c, bt177.1, bt177.2.1, 0)) else (some (0, 0, 0, 7)))) (fun k => ?_) ?_
  · have len3 : ((([toW w0, toW w1, toW w2] : List S54).length : Nat) : Int) = 3 := rfl
    simp only [clause_Parse.j1, len3]
    rw [if_neg (by decide), if_pos (show (2 : Int) < 3 by omega)]
    rfl
  · refine Ev.bind (f := fun k bt177 => _) sp ?_
    by_cases e : (spanR w2.2).2.2 = 0
    · simp only [if_pos e]; exact Ev.now _
    · simp only [if_neg e]; exact Ev.now _
theorem parse_no1 (ws : List S54) (c : Int) : Ev (fun k => clause_Parse.j1 k ws c true) (0, 0, 0, 7) := Ev.step (f := fun _ => some (0, 0, 0, 7)) (fun k => by simp only [clause_Parse.j1]; rw [if_pos trivial]) (Ev.now _)
theorem parse_j0 (w0 w1 w2 : Nat × List UInt8) (h0 : w0.2.length ≤ 4294967280) (h2 : w2.2.length ≤ 4294967280) : Ev (fun k => clause_Parse.j0 k [toW w0, toW w1, toW w2] false) (parse3 w0.2 w1.2 w2.2) := by
  have fi := Find_tells (mk w1.2)
  rw [data_mk] at fi
  refine Ev.step (f := fun k => (strings_CutPrefix.f (mk w0.2) (⟨#[97, 114, 116, 46]⟩ : ByteArray)).bind fun bt170 => ((clause_Find.f k (mk w1.2)).bind fun bt173 => (if bt170.2 = true then (if bt173.2 = 0 then (if 0 ≤ bt173.1 then (if bt173.1 < 16 then (clause_Parse.j1 k [toW w0, toW w1, toW w2] bt173.1 (bt170.1.toList != (rdOf ByteArray.empty articlesB bt173.1).toList)) else (none)) else (none)) else (clause_Parse.j1 k [toW w0, toW w1, toW w2] bt173.1 true)) else (clause_Parse.j1 k [toW w0, toW w1, toW w2] bt173.1 true)))) (fun k => ?_) ?_
  · have len3 : ((([toW w0, toW w1, toW w2] : List S54).length : Nat) : Int) = 3 := rfl
    simp only [clause_Parse.j0, len3]
    rw [if_neg (by decide), if_pos (show (0 : Int) < 3 by omega)]
    simp only [if_pos (show (1 : Int) < 3 by omega)]
    rfl
  rw [prefix_tells w0.2 h0]
  simp only [Option.bind_some]
  refine Ev.bind (f := fun k bt173 => _) fi ?_
  unfold parse3
  by_cases hm : w0.2.take 4 = art4
  · simp only [if_pos hm, if_true]
    cases hf : findR w1.2 with
    | none =>
      simp only [if_neg (show ¬ ((13 : Int) = 0) by decide)]
      exact parse_no1 _ _
    | some c =>
      obtain ⟨hc, _⟩ := findR_lt hf
      have c0 : (0 : Int) ≤ (c : Int) := by omega
      have c1 : (c : Int) < 16 := by omega
      simp only [if_true, if_pos c0, if_pos c1, ar_rd (c : Int) c0 c1, toList_mk]
      by_cases e : w0.2.drop 4 = arL (c : Int)
      · rw [if_pos ((marked_iff _ _).1 ⟨hm, e⟩), e, bne_self_eq_false]
        exact parse_j1 w0 w1 w2 c h2
      · rw [if_neg (fun h => e ((marked_iff _ _).2 h).2), show (w0.2.drop 4 != arL (c : Int)) = true by simpa using e]
        exact parse_no1 _ _
  · simp only [if_neg hm, Bool.false_eq_true, if_false]
    cases hf : findR w1.2 with
    | none => exact parse_no1 _ _
    | some c =>
      simp only
      rw [if_neg (fun h => hm ((marked_iff _ _).2 h).1)]
      exact parse_no1 _ _
theorem spl_wlen : ∀ (rest : List UInt8) (f : Nat) (cur : List UInt8) (ws : List (Nat × List UInt8)), spl f cur rest = .ok ws → ∀ x ∈ ws, x.2.length ≤ cur.length + rest.length
  | [], f, cur, ws, h => by
    unfold spl at h
    split at h
    · cases h
    · cases h
      intro x hx
      obtain rfl := List.mem_singleton.1 hx
      simp
  | c :: r, f, cur, ws, h => by
    unfold spl at h
    split at h
    · split at h
      · cases h
      · cases e : spl (f + cur.length + 1) [] r with
        | error p => rw [e] at h; cases h
        | ok ws' =>
          rw [e] at h
          cases h
          intro x hx
          rcases List.mem_cons.1 hx with rfl | hx
          · simp
          · have := spl_wlen r _ [] ws' e x hx
            simp at this ⊢
            omega
    · split at h
      · intro x hx
        have := spl_wlen r f (cur ++ [c]) ws h x hx
        simp at this ⊢
        omega
      · cases h
theorem splR_wlen {l : List UInt8} {ws : List (Nat × List UInt8)} (h : splR l = .ok ws) : ∀ x ∈ ws, x.2.length ≤ l.length := by
  unfold splR at h
  split at h
  · cases h
    intro x hx
    cases hx
  · intro x hx
    have := spl_wlen l 0 [] ws h x hx
    simpa using this
theorem Parse_tells (s : ByteArray) (hs : s.size ≤ 4294967280) : Ev (fun k => clause_Parse.f k s) (parseW (splR s.data.toList)) := by
  have no : ∀ ws, Ev (fun k => clause_Parse.j0 k ws true) (0, 0, 0, 7) := fun ws => Ev.step (f := fun _ => some (0, 0, 0, 7)) (fun k => by simp only [clause_Parse.j0]; rw [if_pos trivial]) (Ev.now _)
  unfold clause_Parse.f
  refine Ev.bind (f := fun k bt164 => _) (Split_tells' s hs) ?_
  cases hw : splR s.data.toList with
  | error p =>
    simp only [resW, if_neg (show ¬ ((7 : Int) = 0) by decide)]
    exact no _
  | ok ws =>
    simp only [resW, if_true, List.nil_append]
    have hlen := splR_wlen hw
    rw [← Lib.size_eq s] at hlen
    match ws, hlen with
    | [], _ => exact no _
    | [_], _ => exact no _
    | [_, _], _ => exact no _
    | [w0, w1, w2], hlen => exact parse_j0 w0 w1 w2 (by have := hlen w0 (by simp); omega) (by have := hlen w2 (by simp); omega)
    | _ :: _ :: _ :: _ :: r, _ =>
      rw [show (((((_ :: _ :: _ :: _ :: r : List (Nat × List UInt8)).map toW).length : Nat) : Int) != 3) = true by simp; omega]
      exact no _
theorem refparse_j0 (w0 w1 w2 : Nat × List UInt8) (h2 : w2.2.length ≤ 4294967280) : Ev (fun k => haulierref15_Parse.j0 k [toR w0, toR w1, toR w2] false) (parse3 w0.2 w1.2 w2.2) := by
  have fi := refFind_tells (mk w1.2)
  have sp := refSpan_tells (mk w2.2) h2
  rw [data_mk] at fi sp
  refine Ev.step (f := fun k => (haulierref06_Span.f k (mk w2.2)).bind fun bt188 => ((haulierref15_Find.f k (mk w1.2)).bind fun t193 => (if bt188.2.2 = 0 then (if t193 < 0 then (some (0, 0, 0, 7)) else ((haulierref15_Article.f t193).bind fun t195 => (if 4 + t195.size ≤ 9223372036854775807 then (if (mk w0.2).toList = ((⟨#[97, 114, 116, 46]⟩ : ByteArray) ++ t195).toList then (some (t193, bt188.1, bt188.2.1, 0)) else (some (0, 0, 0, 7))) else (none)))) else (some (0, 0, 0, 7))))) (fun k => ?_) ?_
  · have len3 : ((([toR w0, toR w1, toR w2] : List SR).length : Nat) : Int) = 3 := rfl
    simp only [haulierref15_Parse.j0, len3]
    rw [if_neg (by decide), if_pos (show (2 : Int) < 3 by omega)]
    simp only [if_pos (show (1 : Int) < 3 by omega), if_pos (show (0 : Int) < 3 by omega)]
    rfl
  refine Ev.bind (f := fun k bt188 => _) sp ?_
  refine Ev.bind (f := fun k t193 => _) fi ?_
  unfold parse3
  cases hf : findR w1.2 with
  | none =>
    simp only [if_pos (show (-1 : Int) < 0 by omega)]
    by_cases e : (spanR w2.2).2.2 = 0
    · simp only [if_pos e]; exact Ev.now _
    · simp only [if_neg e]; exact Ev.now _
  | some c =>
    obtain ⟨hc, _⟩ := findR_lt hf
    have hi : isC (c : Int) := ⟨by omega, by omega⟩
    have l1 := arL_len (c : Int) hi
    have e1 : articleR (c : Int) = arL (c : Int) := if_pos hi
    have k1 : (⟨#[97, 114, 116, 46]⟩ : ByteArray) = mk art4 := rfl
    simp only [if_neg (show ¬ (c : Int) < 0 by omega), refArticle_tells, Option.bind_some, e1, k1, append_mk, toList_mk, size_mk, if_pos (show 4 + (arL (c : Int)).length ≤ 9223372036854775807 by omega)]
    by_cases e : (spanR w2.2).2.2 = 0
    · simp only [if_pos e]
      by_cases e2 : w0.2 = art4 ++ arL (c : Int)
      · simp only [if_pos e2]; exact Ev.now _
      · simp only [if_neg e2]; exact Ev.now _
    · simp only [if_neg e]
      by_cases e2 : w0.2 = art4 ++ arL (c : Int)
      · simp only [if_pos e2]; exact Ev.now _
      · simp only [if_neg e2]; exact Ev.now _
theorem refParse_tells (s : ByteArray) (hs : s.size ≤ 4294967280) : Ev (fun k => haulierref15_Parse.f k s) (parseW (splR s.data.toList)) := by
  have no : ∀ ws, Ev (fun k => haulierref15_Parse.j0 k ws true) (0, 0, 0, 7) := fun ws => Ev.step (f := fun _ => some (0, 0, 0, 7)) (fun k => by simp only [haulierref15_Parse.j0]; rw [if_pos trivial]) (Ev.now _)
  unfold haulierref15_Parse.f
  refine Ev.bind (f := fun k bt164 => _) (refSplit_tells s hs) ?_
  cases hw : splR s.data.toList with
  | error p =>
    simp only [resR, if_neg (show ¬ ((7 : Int) = 0) by decide)]
    exact no _
  | ok ws =>
    simp only [resR, if_true, List.nil_append]
    have hlen := splR_wlen hw
    rw [← Lib.size_eq s] at hlen
    match ws, hlen with
    | [], _ => exact no _
    | [_], _ => exact no _
    | [_, _], _ => exact no _
    | [w0, w1, w2], hlen => exact refparse_j0 w0 w1 w2 (by have := hlen w2 (by simp); omega)
    | _ :: _ :: _ :: _ :: r, _ =>
      rw [show (((((_ :: _ :: _ :: _ :: r : List (Nat × List UInt8)).map toR).length : Nat) : Int) != 3) = true by simp; omega]
      exact no _

/-! ### A line that was told is read as it -/
theorem spl_word (p : List UInt8) : ∀ (f : Nat) (cur : List UInt8) (r : List UInt8), (∀ c ∈ p, prt c = true) → cur ++ p ≠ [] → spl f cur (p ++ 32 :: r) = (spl (f + (cur ++ p).length + 1) [] r).map ((f, cur ++ p) :: ·) := by
  induction p with
  | nil =>
    intro f cur r _ hne
    have hc : cur ≠ [] := by simpa using hne
    simp [spl, hc]
  | cons c p ih =>
    intro f cur r hp hne
    have hpc := hp c (by simp)
    have hc : ¬ c = 32 := fun e => by rw [e] at hpc; exact absurd hpc (by decide)
    show spl f cur (c :: (p ++ 32 :: r)) = _
    rw [spl, if_neg hc, if_pos hpc, ih f (cur ++ [c]) r (fun x hx => hp x (by simp [hx])) (by simp)]
    simp
theorem spl_last (p : List UInt8) : ∀ (f : Nat) (cur : List UInt8), (∀ c ∈ p, prt c = true) → cur ++ p ≠ [] → spl f cur p = .ok [(f, cur ++ p)] := by
  induction p with
  | nil =>
    intro f cur _ hne
    have hc : cur ≠ [] := by simpa using hne
    simp [spl, hc]
  | cons c p ih =>
    intro f cur hp hne
    have hpc := hp c (by simp)
    have hc : ¬ c = 32 := fun e => by rw [e] at hpc; exact absurd hpc (by decide)
    rw [spl, if_neg hc, if_pos hpc, ih f (cur ++ [c]) (fun x hx => hp x (by simp [hx])) (by simp)]
    simp
theorem dig_prt {c : UInt8} (h : isDig c = true) : prt c = true := by have := isDig_iff.1 h; rw [prt_iff]; omega
theorem told_prt (a b : Int) (ha : 0 ≤ a) (hb : 0 ≤ b) : ∀ c ∈ toldL a b, prt c = true := by
  intro c hc
  unfold toldL at hc
  rw [itoa_pos ha, itoa_pos hb] at hc
  rcases List.mem_append.1 hc with h | h
  · exact dig_prt (List.all_eq_true.1 (digits_all _) c h)
  · rcases List.mem_cons.1 h with h | h
    · rw [h]; decide
    · exact dig_prt (List.all_eq_true.1 (digits_all _) c h)
theorem art_prt (c : Int) (h : isC c) : ∀ x ∈ art4 ++ arL c, prt x = true := by
  rcases sixteen c h.1 h.2 with rfl | rfl | rfl | rfl | rfl | rfl | rfl | rfl | rfl | rfl | rfl | rfl | rfl | rfl | rfl | rfl <;> decide
theorem nm_prt (c : Int) (h : isC c) : ∀ x ∈ nmL c, prt x = true := by
  rcases sixteen c h.1 h.2 with rfl | rfl | rfl | rfl | rfl | rfl | rfl | rfl | rfl | rfl | rfl | rfl | rfl | rfl | rfl | rfl <;> decide
theorem told_ne (a b : Int) : toldL a b ≠ [] := by unfold toldL; simp
theorem parse_line (c a b : Int) (h : isC c) (ha : 0 ≤ a) (hab : a < b) (hb : b ≤ 40320) : parseW (splR (lineL c a b)) = (c, a, b, 0) := by
  have hs : splR (lineL c a b) = .ok [(0, art4 ++ arL c), ((art4 ++ arL c).length + 1, nmL c), ((art4 ++ arL c).length + 1 + (nmL c).length + 1, toldL a b)] := by
    unfold splR
    rw [if_neg (by simp [lineL, art4])]
    unfold lineL
    have := spl_word (art4 ++ arL c) 0 [] (nmL c ++ 32 :: toldL a b) (art_prt c h) (by simp [art4])
    rw [this, spl_word (nmL c) _ [] (toldL a b) (nm_prt c h) (by simpa using nmL_ne c h), spl_last (toldL a b) _ [] (told_prt a b ha (by omega)) (by simpa using told_ne a b)]
    simp [Except.map]
  rw [hs]
  show parse3 (art4 ++ arL c) (nmL c) (toldL a b) = _
  unfold parse3
  rw [findR_name c h]
  have hc : ((c.toNat : Nat) : Int) = c := by have := h.1; omega
  simp only [hc, if_true]
  rw [span_told a b (by unfold i64B; omega) (by unfold i64B; omega)]
  unfold spanB
  rw [if_pos (show 0 ≤ a ∧ 0 ≤ b by omega), if_pos (show a ≤ 40320 ∧ b ≤ 40320 by omega), if_neg (show ¬ a ≥ b by omega)]
  simp
theorem ClauseLines (c a b : Int) (s : ByteArray) (hc : (Lit.int .i64 c).wf = true) (ha : (Lit.int .i64 a).wf = true) (hb : (Lit.int .i64 b).wf = true) (hs : s.size ≤ 140737488351232) : ∃ k, haulierlaw15_ClauseLines.f k c a b s = some true := by
  have ha' : i64B a := bounds_i64 ha
  have hb' : i64B b := bounds_i64 hb
  apply Ev.rounds
  unfold haulierlaw15_ClauseLines.f
  by_cases hl : (s.size : Int) > 300
  · exact Ev.congr (fun k => by rw [if_pos hl]) alive15
  refine Ev.congr (fun k => by rw [if_neg hl]) ?_
  refine Ev.bind (f := fun k bt198 => _) (Line_tells c a b ha' hb') ?_
  refine Ev.bind (f := fun k bt200 => _) (refLine_tells c a b ha' hb') ?_
  refine Ev.bind (f := fun k bt202 => _) (Parse_tells s (by omega)) ?_
  refine Ev.bind (f := fun k bt207 => _) (refParse_tells s (by omega)) ?_
  simp only [if_true, BEq.rfl, Bool.not_true, Bool.or_self, Bool.false_eq_true, if_false, bne_self_eq_false]
  by_cases he : (lineR c a b).2 = 0
  · have hx : isC c ∧ ¬ b ≤ a ∧ ¬ (a < 0 ∨ b > 40320) := by
      unfold lineR at he
      split at he
      · split at he
        · exact absurd he (by decide)
        · split at he
          · exact absurd he (by decide)
          · rename_i h1 h2 h3
            exact ⟨h1, h2, h3⟩
      · exact absurd he (by decide)
    have hL : lineR c a b = (lineL c a b, 0) := by
      unfold lineR
      rw [if_pos hx.1, if_neg hx.2.1, if_neg hx.2.2]
    have hln : (lineL c a b).length ≤ 4294967280 := by
      have l1 := arL_len c hx.1
      have l2 := nmL_len c hx.1
      have l3 := told_len a b ha' hb'
      simp [lineL, art4]; omega
    have hp := Parse_tells (mk (lineL c a b)) hln
    rw [data_mk, parse_line c a b hx.1 (by omega) (by omega) (by omega)] at hp
    rw [hL]
    refine Ev.step (f := fun k => (clause_Parse.f k (mk (lineL c a b))).bind fun bt212 => (if (bt212.1 == c && (bt212.2.1 == a && (bt212.2.2.1 == b))) = true then (if bt212.2.2.2 = 0 then ((haulierlaw15_alive.f k).bind fun t217 => (some t217)) else (some false)) else (some false))) (fun k => by simp only [haulierlaw15_ClauseLines.j0]; rw [if_neg (by decide), if_pos trivial]) ?_
    refine Ev.bind (f := fun k bt212 => _) hp ?_
    simp only [BEq.rfl, Bool.and_self, if_true]
    exact alive15
  · refine Ev.step (fun k => by simp only [haulierlaw15_ClauseLines.j0]; rw [if_neg (by decide), if_neg he]) alive15
end Go.Proofs.YtaaiamfolbcchaaDoor.Pure

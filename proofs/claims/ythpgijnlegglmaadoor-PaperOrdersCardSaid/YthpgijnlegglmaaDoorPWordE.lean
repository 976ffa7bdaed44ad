/- Words, plain, once more: lines that are joined are split, numerals and spans are canonical. -/
import Derived.Test.YthpgijnlegglmaaDoorPWordD
import Derived.Test.YthpgijnlegglmaaDoorPWordS
namespace Go.Proofs.YthpgijnlegglmaaDoor.Pure
set_option linter.unusedVariables false
set_option linter.unusedSimpArgs false
open Go.RowKit Go.Proofs.YthpgijnlegglmaaDoor.Y0 Go.Proofs.YthpgijnlegglmaaDoor.X1 Go.Proofs.YthpgijnlegglmaaDoor.Ext Go.Proofs.YthpgijnlegglmaaDoorW.PrintWords Go.Proofs.YthpgijnlegglmaaDoorW.PrintLast Go.Proofs.YthpgijnlegglmaaDoorW.PrintMore

theorem spl_wl : ∀ (l : List UInt8) (f : Nat) (cur : List UInt8) (ws : List (Nat × List UInt8)), spl f cur l = .ok ws → ∀ x ∈ ws, x.2.length ≤ cur.length + l.length
  | [], f, cur, ws, h => by
    unfold spl at h
    split at h
    · cases h
    · cases h
      intro x hx
      obtain rfl := List.mem_singleton.1 hx
      simp
  | c :: r, f, cur, ws, h => by
    unfold spl at h
    split at h
    · split at h
      · cases h
      · cases e : spl (f + cur.length + 1) [] r with
        | error p => rw [e] at h; cases h
        | ok ws' =>
          rw [e] at h
          cases h
          intro x hx
          rcases List.mem_cons.1 hx with rfl | hx
          · simp
          · have := spl_wl r _ [] ws' e x hx
            simp at this ⊢
            omega
    · split at h
      · intro x hx
        have := spl_wl r f (cur ++ [c]) ws h x hx
        simp at this ⊢
        omega
      · cases h
theorem splR_wl {l : List UInt8} {ws : List (Nat × List UInt8)} (h : splR l = .ok ws) : ∀ x ∈ ws, x.2.length ≤ l.length := by
  unfold splR at h
  split at h
  · cases h
    intro x hx
    cases hx
  · intro x hx
    have := spl_wl l 0 [] ws h x hx
    simpa using this
theorem spl_word' (p : List UInt8) : ∀ (f : Nat) (cur : List UInt8) (r : List UInt8), (∀ c ∈ p, prt c = true) → cur ++ p ≠ [] → spl f cur (p ++ 32 :: r) = (spl (f + (cur ++ p).length + 1) [] r).map ((f, cur ++ p) :: ·) := by
  induction p with
  | nil =>
    intro f cur r _ hne
    have hc : cur ≠ [] := by simpa using hne
    simp [spl, hc]
  | cons c p ih =>
    intro f cur r hp hne
    have hpc := hp c (by simp)
    have hc : ¬ c = 32 := fun e => by rw [e] at hpc; exact absurd hpc (by decide)
    show spl f cur (c :: (p ++ 32 :: r)) = _
    rw [spl, if_neg hc, if_pos hpc, ih f (cur ++ [c]) r (fun x hx => hp x (by simp [hx])) (by simp)]
    simp
theorem spl_last' (p : List UInt8) : ∀ (f : Nat) (cur : List UInt8), (∀ c ∈ p, prt c = true) → cur ++ p ≠ [] → spl f cur p = .ok [(f, cur ++ p)] := by
  induction p with
  | nil =>
    intro f cur _ hne
    have hc : cur ≠ [] := by simpa using hne
    simp [spl, hc]
  | cons c p ih =>
    intro f cur hp hne
    have hpc := hp c (by simp)
    have hc : ¬ c = 32 := fun e => by rw [e] at hpc; exact absurd hpc (by decide)
    rw [spl, if_neg hc, if_pos hpc, ih f (cur ++ [c]) (fun x hx => hp x (by simp [hx])) (by simp)]
    simp
theorem dig_prt' {c : UInt8} (h : isDig c = true) : prt c = true := by have := isDig_iff.1 h; rw [prt_iff]; omega
theorem itoa_prt {a : Int} (ha : 0 ≤ a) : ∀ c ∈ Lib.itoa a, prt c = true := by
  intro c hc
  rw [itoa_pos ha] at hc
  exact dig_prt' (List.all_eq_true.1 (digits_all _) c hc)
theorem told_prt' (a b : Int) (ha : 0 ≤ a) (hb : 0 ≤ b) : ∀ c ∈ toldL a b, prt c = true := by
  intro c hc
  unfold toldL at hc
  rcases List.mem_append.1 hc with h | h
  · exact itoa_prt ha c h
  · rcases List.mem_cons.1 h with h | h
    · rw [h]; decide
    · exact itoa_prt hb c h
theorem told_ne' (a b : Int) : toldL a b ≠ [] := by unfold toldL; simp
theorem prt_ne10 {c : UInt8} (h : prt c = true) : c ≠ 10 := fun e => by rw [e] at h; exact absurd h (by decide)
/-- A numeral is the one of its number. -/
theorem val_snoc (p : List UInt8) (c : UInt8) : val (p ++ [c]) = val p * 10 + (c.toNat - 48) := by simp [val, valA, dstep, List.foldl_append]
theorem digits_val' (n : Nat) : ∀ l : List UInt8, l.length = n → numT l = true → Lib.decDigits (val l) = l := by
  induction n with
  | zero =>
    intro l hl h
    rw [List.eq_nil_of_length_eq_zero hl] at h
    cases h
  | succ n ihn =>
    intro l hl h
    obtain ⟨p, c, rfl⟩ : ∃ p c, l = p ++ [c] := by
      rcases List.eq_nil_or_concat l with rfl | ⟨p, c, rfl⟩
      · cases hl
      · exact ⟨p, c, List.concat_eq_append⟩
    have ih := ihn p (by simpa using hl)
    have hall := numT_all h
    rw [List.all_append, Bool.and_eq_true] at hall
    have hc := isDig_iff.1 (by simpa using hall.2 : isDig c = true)
    have e48 : UInt8.ofNat (48 + (c.toNat - 48)) = c := by rw [show 48 + (c.toNat - 48) = c.toNat by omega]; exact UInt8.ofNat_toNat
    rw [val_snoc]
    cases p with
    | nil =>
      rw [show val [] * 10 + (c.toNat - 48) = c.toNat - 48 by simp [val, valA], Lib.decDigits, dif_pos (by omega), e48]
      rfl
    | cons a r =>
      have ha : (a != 48) = true := by
        unfold numT at h
        rw [Bool.and_eq_true] at h
        simpa [head48] using h.2
      have hp : numT (a :: r) = true := by
        unfold numT
        rw [hall.1, Bool.true_and]
        simp only [head48, ha, Bool.or_true]
      have e := ih hp
      have hpos : 1 ≤ val (a :: r) := by
        rcases Nat.eq_zero_or_pos (val (a :: r)) with h0 | h0
        · rw [h0, Lib.decDigits, dif_pos (by omega)] at e
          injection e with e _
          rw [← e] at ha
          exact absurd ha (by decide)
        · exact h0
      rw [Lib.decDigits, dif_neg (by omega), show (val (a :: r) * 10 + (c.toNat - 48)) / 10 = val (a :: r) by omega, show (val (a :: r) * 10 + (c.toNat - 48)) % 10 = c.toNat - 48 by omega, e, e48]
theorem digits_val (l : List UInt8) (h : numT l = true) : Lib.decDigits (val l) = l := digits_val' _ l rfl h
theorem numR_ok {l : List UInt8} {most : Int} (h : numT l = true) (h2 : (numR l most).2 = 0) : (numR l most).1 = (val l : Int) ∧ (val l : Int) ≤ most ∧ val l < 9223372036854775808 := by
  unfold numR at h2 ⊢
  rw [if_pos h] at h2 ⊢
  by_cases h3 : val l < 9223372036854775808
  · rw [if_pos h3] at h2 ⊢
    by_cases h4 : most < (val l : Int)
    · rw [if_pos h4] at h2; exact absurd h2 (by decide)
    · rw [if_neg h4]; exact ⟨rfl, by omega, h3⟩
  · rw [if_neg h3] at h2; exact absurd h2 (by decide)
theorem itoa_val {l : List UInt8} (h : numT l = true) : Lib.itoa (val l : Int) = l := by
  rw [itoa_pos (by omega), Int.toNat_natCast]
  exact digits_val l h
theorem span_canon {t : List UInt8} {a b : Int} (h : spanR t = (a, b, 0)) : t = toldL a b ∧ 0 ≤ a ∧ a < b ∧ b ≤ 40320 := by
  rcases cases_at t 45 with hn | ⟨p, q, rfl, hp⟩
  · rw [spanR_none hn] at h; simp at h
  · by_cases hq : 45 ∈ q
    · rw [spanR_two hp hq] at h; simp at h
    · rw [spanR_one hp hq] at h
      unfold spanP at h
      by_cases h1 : numT p = true ∧ numT q = true
      · rw [if_pos h1] at h
        by_cases h2 : (numR p 40320).2 = 0
        · rw [if_pos h2] at h
          by_cases h3 : (numR q 40320).2 = 0
          · rw [if_pos h3] at h
            obtain ⟨e1, b1, _⟩ := numR_ok h1.1 h2
            obtain ⟨e2, b2, _⟩ := numR_ok h1.2 h3
            rw [e1, e2] at h
            by_cases h4 : (val p : Int) ≥ (val q : Int)
            · rw [if_pos h4] at h; simp at h
            · rw [if_neg h4] at h
              simp only [Prod.mk.injEq] at h
              obtain ⟨rfl, rfl, _⟩ := h
              unfold toldL
              rw [itoa_val h1.1, itoa_val h1.2]
              exact ⟨rfl, by omega, by omega, by omega⟩
          · rw [if_neg h3] at h; simp at h
        · rw [if_neg h2] at h; simp at h
      · rw [if_neg h1] at h; simp at h
theorem span_ok {a b : Int} (ha : 0 ≤ a) (hab : a < b) (hb : b ≤ 40320) : spanR (toldL a b) = (a, b, 0) := by
  rw [span_told a b (by unfold i64B; omega) (by unfold i64B; omega)]
  unfold spanB
  rw [if_pos (show 0 ≤ a ∧ 0 ≤ b by omega), if_pos (show a ≤ 40320 ∧ b ≤ 40320 by omega), if_neg (show ¬ a ≥ b by omega)]
theorem rdOf_drop {ls : List (List UInt8)} {i : Nat} {s : List UInt8} {ss : List (List UInt8)} (h : ls.drop i = s :: ss) : rdOf ByteArray.empty (ls.map mk) (i : Int) = mk s ∧ i < ls.length ∧ ls.drop (i + 1) = ss := by
  have hl : i < ls.length := by
    rcases Nat.lt_or_ge i ls.length with h' | h'
    · exact h'
    · rw [List.drop_of_length_le h'] at h; cases h
  rw [List.drop_eq_getElem_cons hl] at h
  injection h with h1 h2
  exact ⟨by simp [rdOf, List.getD_eq_getElem?_getD, hl, h1], hl, h2⟩
end Go.Proofs.YthpgijnlegglmaaDoor.Pure

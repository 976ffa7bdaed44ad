/- Plain laws of words that are joined, and of numbers and spans that are told (layer 6). -/
import Derived.Test.YtaaiamfolbcchaaDoorPWordC
namespace Go.Proofs.YtaaiamfolbcchaaDoor.Pure
set_option linter.unusedVariables false
set_option linter.unusedSimpArgs false
open Go.RowKit Go.Proofs.YtaaiamfolbcchaaDoor.Y0 Go.Proofs.YtaaiamfolbcchaaDoor.X1 Go.Proofs.YtaaiamfolbcchaaDoor.Ext Go.Proofs.YtaaiamfolbcchaaDoorW.PrintWords Go.Proofs.YtaaiamfolbcchaaDoorW.PrintLast Go.Proofs.YtaaiamfolbcchaaDoorW.PrintMore

/-! ### A number's digits -/
theorem dgN_nat {d : Nat} (h : d < 10) : (dgN d).toNat = 48 + d := by unfold dgN; rw [UInt8.toNat_ofNat']; omega
theorem dgN_dig {d : Nat} (h : d < 10) : isDig (dgN d) = true := by rw [isDig_iff, dgN_nat h]; omega
theorem digits_all (u : Nat) : (Lib.decDigits u).all isDig = true := by
  induction u using Nat.strongRecOn with
  | _ u ih =>
    rw [Lib.decDigits]
    split
    · rename_i h
      rw [List.all_cons, List.all_nil, Bool.and_true]
      exact dgN_dig h
    · rename_i h
      rw [List.all_append, ih (u / 10) (by omega), Bool.true_and, List.all_cons, List.all_nil, Bool.and_true]
      exact dgN_dig (by omega)
theorem digits_head (u : Nat) (h1 : 1 ≤ u) : ∃ c r, Lib.decDigits u = c :: r ∧ c ≠ 48 := by
  induction u using Nat.strongRecOn with
  | _ u ih =>
    rw [Lib.decDigits]
    split
    · rename_i h
      refine ⟨dgN u, [], rfl, fun e => ?_⟩
      have := dgN_nat h
      rw [e] at this
      have : (48 : UInt8).toNat = 48 + u := this
      have h48 : (48 : UInt8).toNat = 48 := rfl
      omega
    · rename_i h
      obtain ⟨c, r, e, hc⟩ := ih (u / 10) (by omega) (by omega)
      exact ⟨c, r ++ [UInt8.ofNat (48 + u % 10)], by rw [e]; rfl, hc⟩
theorem numT_digits (u : Nat) : numT (Lib.decDigits u) = true := by
  unfold numT
  rw [digits_all, Bool.true_and]
  by_cases h : 1 ≤ u
  · obtain ⟨c, r, e, hc⟩ := digits_head u h
    rw [e]
    simp [head48, hc]
  · have : u = 0 := by omega
    subst this
    rw [Lib.decDigits, dif_pos (by omega)]
    rfl
theorem val_digits (u : Nat) : val (Lib.decDigits u) = u := by
  induction u using Nat.strongRecOn with
  | _ u ih =>
    rw [Lib.decDigits]
    split
    · rename_i h
      show dstep 0 (dgN u) = u
      unfold dstep
      rw [dgN_nat h]
      omega
    · rename_i h
      have := ih (u / 10) (by omega)
      unfold val valA at this ⊢
      rw [List.foldl_append, this]
      show dstep (u / 10) (dgN (u % 10)) = u
      unfold dstep
      rw [dgN_nat (by omega)]
      omega
theorem digits_no (u : Nat) : (45 : UInt8) ∉ Lib.decDigits u := fun h => by
  have := dash_no h
  rw [numT_digits] at this
  cases this
theorem itoa_pos {n : Int} (h : 0 ≤ n) : Lib.itoa n = Lib.decDigits n.toNat := by unfold Lib.itoa; rw [if_neg (by omega)]
theorem itoa_min {n : Int} (h : n < 0) : Lib.itoa n = 45 :: Lib.decDigits n.natAbs := by unfold Lib.itoa; rw [if_pos h]
theorem numR_itoa {n : Int} (most : Int) (h : 0 ≤ n) (h1 : n ≤ 9223372036854775807) : numR (Lib.itoa n) most = if most < n then (0, 4) else (n, 0) := by
  rw [itoa_pos h]
  unfold numR
  rw [if_pos (numT_digits _), val_digits, if_pos (by omega), show ((n.toNat : Nat) : Int) = n by omega]
theorem numT_itoa {n : Int} (h : 0 ≤ n) : numT (Lib.itoa n) = true := by rw [itoa_pos h]; exact numT_digits _
theorem numR_minus {n : Int} (most : Int) (h : n < 0) : numR (Lib.itoa n) most = (0, 7) := by
  unfold numR
  rw [itoa_min h, if_neg (by rw [dash_no (by simp)]; decide)]
/-- What is told of a span is read as it. -/
def spanB (a b : Int) : Int × Int × Int := if 0 ≤ a ∧ 0 ≤ b then (if a ≤ 40320 ∧ b ≤ 40320 then (if a ≥ b then (0, 0, 3) else (a, b, 0)) else (0, 0, 4)) else (0, 0, 7)
theorem span_told (a b : Int) (ha : i64B a) (hb : i64B b) : spanR (toldL a b) = spanB a b := by
  unfold spanB toldL
  by_cases h1 : 0 ≤ a
  case neg =>
    rw [if_neg (fun h => h1 h.1), itoa_min (show a < 0 by omega)]
    exact spanR_two (p := []) (by simp) (by simp)
  have na : (45 : UInt8) ∉ Lib.itoa a := by rw [itoa_pos h1]; exact digits_no _
  by_cases h2 : 0 ≤ b
  case neg =>
    rw [if_neg (fun h => h2 h.2), itoa_min (show b < 0 by omega)]
    exact spanR_two na (by simp)
  have nb : (45 : UInt8) ∉ Lib.itoa b := by rw [itoa_pos h2]; exact digits_no _
  rw [if_pos ⟨h1, h2⟩, spanR_one na nb]
  unfold spanP
  rw [if_pos ⟨numT_itoa h1, numT_itoa h2⟩, numR_itoa 40320 h1 ha.2, numR_itoa 40320 h2 hb.2]
  by_cases c1 : (40320 : Int) < a
  · rw [if_pos c1, if_neg (show ¬ (a ≤ 40320 ∧ b ≤ 40320) by omega)]
    rfl
  · by_cases c2 : (40320 : Int) < b
    · rw [if_neg c1, if_pos c2, if_neg (show ¬ (a ≤ 40320 ∧ b ≤ 40320) by omega)]
      rfl
    · rw [if_neg c1, if_neg c2, if_pos (show a ≤ 40320 ∧ b ≤ 40320 by omega)]
      rfl

/-! ### Words, joined -/
theorem join_words : ∀ (rest : List UInt8) (f : Nat) (cur : List UInt8) (ws : List (Nat × List UInt8)), spl f cur rest = .ok ws → ws ≠ [] ∧ Lib.join (ws.map (·.2)) [32] = cur ++ rest
  | [], f, cur, ws, h => by
    unfold spl at h
    split at h
    · cases h
    · cases h
      simp [Lib.join_one]
  | c :: r, f, cur, ws, h => by
    unfold spl at h
    split at h
    · split at h
      · cases h
      · rename_i hc hcur
        cases e : spl (f + cur.length + 1) [] r with
        | error p => rw [e] at h; cases h
        | ok ws' =>
          rw [e] at h
          cases h
          obtain ⟨hn, hj⟩ := join_words r _ [] ws' e
          refine ⟨by simp, ?_⟩
          cases ws' with
          | nil => exact absurd rfl hn
          | cons x ws'' =>
            rw [List.map_cons, Lib.join_cons] at hj
            rw [List.map_cons, List.map_cons, Lib.join_cons, Lib.joinTail, List.map_cons, List.flatten_cons]
            have : x.2 ++ Lib.joinTail [32] (ws''.map (·.2)) = r := by
              have := hj
              simpa using this
            rw [← this, hc]
            simp [Lib.joinTail]
    · split at h
      · obtain ⟨hn, hj⟩ := join_words r f (cur ++ [c]) ws h
        exact ⟨hn, by rw [hj]; simp⟩
      · cases h
/-- Each word stands where it is told. -/
theorem words_at (L : List UInt8) : ∀ (rest : List UInt8) (f : Nat) (cur : List UInt8) (ws : List (Nat × List UInt8)), spl f cur rest = .ok ws → L.drop f = cur ++ rest → f ≤ L.length → ∀ x ∈ ws, x.1 + x.2.length ≤ L.length ∧ (L.drop x.1).take x.2.length = x.2
  | [], f, cur, ws, h, hd, hf => by
    unfold spl at h
    split at h
    · cases h
    · cases h
      intro x hx
      obtain rfl := List.mem_singleton.1 hx
      have hl : L.length = f + cur.length := by have := congrArg List.length hd; simp at this; omega
      exact ⟨by simp [hl], by simp [hd]⟩
  | c :: r, f, cur, ws, h, hd, hf => by
    have hl : L.length = f + cur.length + r.length + 1 := by have := congrArg List.length hd; simp at this; omega
    unfold spl at h
    split at h
    · split at h
      · cases h
      · cases e : spl (f + cur.length + 1) [] r with
        | error p => rw [e] at h; cases h
        | ok ws' =>
          rw [e] at h
          cases h
          intro x hx
          rcases List.mem_cons.1 hx with rfl | hx
          · exact ⟨by simp; omega, by simp [hd]⟩
          · refine words_at L r (f + cur.length + 1) [] ws' e ?_ (by omega) x hx
            rw [Nat.add_assoc, ← List.drop_drop, hd, ← List.drop_drop]
            simp
    · split at h
      · exact words_at L r f (cur ++ [c]) ws h (by rw [hd]; simp) hf
      · cases h
theorem splR_ok {L : List UInt8} {ws : List (Nat × List UInt8)} (h : splR L = .ok ws) : Lib.join (ws.map (·.2)) [32] = L ∧ ∀ x ∈ ws, x.1 + x.2.length ≤ L.length ∧ (L.drop x.1).take x.2.length = x.2 := by
  unfold splR at h
  split at h
  · rename_i e
    cases h
    rw [e]
    exact ⟨rfl, fun x hx => by cases hx⟩
  · exact ⟨(join_words L 0 [] ws h).2, words_at L L 0 [] ws h rfl (by omega)⟩
theorem join_len : ∀ (l : List (List UInt8)), l.length ≤ (Lib.join l [32]).length + 1
  | [] => by simp
  | x :: r => by
    rw [Lib.join_cons, List.length_append]
    have : r.length ≤ (Lib.joinTail [32] r).length := by
      unfold Lib.joinTail
      induction r with
      | nil => simp
      | cons y r ih =>
        rw [List.map_cons, List.flatten_cons, List.length_append, List.length_append, List.length_cons]
        have : ([32] : List UInt8).length = 1 := rfl
        omega
    rw [List.length_cons]
    omega
end Go.Proofs.YtaaiamfolbcchaaDoor.Pure

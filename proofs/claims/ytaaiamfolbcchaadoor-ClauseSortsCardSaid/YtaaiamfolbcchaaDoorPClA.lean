/- Plain laws of clauses' names (layer 15). -/
import Derived.Test.YtaaiamfolbcchaaDoorX23
import Derived.Test.YtaaiamfolbcchaaDoorX23
import Derived.Test.YtaaiamfolbcchaaDoorPWordD
import Derived.Laws.BitsLemmas
import Derived.Test.YtaaiamfolbcchaaDoorX22
namespace Go.Proofs.YtaaiamfolbcchaaDoor.Pure
set_option linter.unusedVariables false
set_option linter.unusedSimpArgs false
open Go.RowKit Go.Proofs.YtaaiamfolbcchaaDoor.Y0 Go.Proofs.YtaaiamfolbcchaaDoor.X1 Go.Proofs.YtaaiamfolbcchaaDoor.X2 Go.Proofs.YtaaiamfolbcchaaDoor.Ext Go.Proofs.YtaaiamfolbcchaaDoorW.PrintWords Go.Proofs.YtaaiamfolbcchaaDoorW.PrintLast Go.Proofs.YtaaiamfolbcchaaDoorW.PrintMore

theorem sixteen (i : Int) (h0 : 0 ≤ i) (h1 : i < 16) : i = 0 ∨ i = 1 ∨ i = 2 ∨ i = 3 ∨ i = 4 ∨ i = 5 ∨ i = 6 ∨ i = 7 ∨ i = 8 ∨ i = 9 ∨ i = 10 ∨ i = 11 ∨ i = 12 ∨ i = 13 ∨ i = 14 ∨ i = 15 := by omega
def nmL (c : Int) : List UInt8 := clauseNames.getD c.toNat []
def arL (c : Int) : List UInt8 := clauseArticles.getD c.toNat []
theorem nm_rd (c : Int) (h0 : 0 ≤ c) (h1 : c < 16) : rdOf ByteArray.empty namesB c = mk (nmL c) := by
  rcases sixteen c h0 h1 with rfl | rfl | rfl | rfl | rfl | rfl | rfl | rfl | rfl | rfl | rfl | rfl | rfl | rfl | rfl | rfl <;> rfl
theorem ar_rd (c : Int) (h0 : 0 ≤ c) (h1 : c < 16) : rdOf ByteArray.empty articlesB c = mk (arL c) := by
  rcases sixteen c h0 h1 with rfl | rfl | rfl | rfl | rfl | rfl | rfl | rfl | rfl | rfl | rfl | rfl | rfl | rfl | rfl | rfl <;> rfl
abbrev isC (c : Int) : Prop := 0 ≤ c ∧ c < 16
def nameR (c : Int) : List UInt8 := if isC c then nmL c else []
def articleR (c : Int) : List UInt8 := if isC c then arL c else []
theorem is_tells (c : Int) : clause_is.f c = some (decide (isC c)) := by
  unfold clause_is.f
  by_cases h : c ≥ 0
  · rw [if_pos h]
    by_cases h2 : c < 16
    · rw [decide_eq_true h2, decide_eq_true (show isC c from ⟨h, h2⟩)]
    · rw [decide_eq_false h2, decide_eq_false (show ¬ isC c from fun e => h2 e.2)]
  · rw [if_neg h, decide_eq_false (show ¬ isC c from fun e => h e.1)]
theorem Name_tells (c : Int) : clause_Name.f c = some (mk (nameR c), if isC c then 0 else 13) := by
  unfold clause_Name.f nameR
  rw [is_tells]
  by_cases h : isC c
  · simp only [Option.bind_some, decide_eq_true h, if_true, if_pos h, if_pos h.1, if_pos h.2, nm_rd c h.1 h.2]
  · simp only [Option.bind_some, decide_eq_false h, if_neg h, Bool.false_eq_true, if_false]
    rfl
theorem Article_tells (c : Int) : clause_Article.f c = some (mk (articleR c), if isC c then 0 else 13) := by
  unfold clause_Article.f articleR
  rw [is_tells]
  by_cases h : isC c
  · simp only [Option.bind_some, decide_eq_true h, if_true, if_pos h, if_pos h.1, if_pos h.2, ar_rd c h.1 h.2]
  · simp only [Option.bind_some, decide_eq_false h, if_neg h, Bool.false_eq_true, if_false]
    rfl
theorem refName_tells (c : Int) : haulierref15_Name.f c = some (mk (nameR c)) := by
  show ((some namesB : Option (List ByteArray)).bind fun y119 => (if c < 0 then (some (⟨#[]⟩ : ByteArray)) else (if c ≥ (y119.length : Int) then (some (⟨#[]⟩ : ByteArray)) else (if 0 ≤ c then (if c < (y119.length : Int) then (some (rdOf ByteArray.empty y119 c)) else (none)) else (none))))) = _
  have hl : (namesB.length : Int) = 16 := rfl
  unfold nameR
  simp only [Option.bind_some]
  rw [hl]
  by_cases h0 : c < 0
  · rw [if_pos h0, if_neg (show ¬ isC c from fun e => absurd e.1 (by omega))]; rfl
  · by_cases h1 : c ≥ 16
    · rw [if_neg h0, if_pos h1, if_neg (show ¬ isC c from fun e => absurd e.2 (by omega))]; rfl
    · rw [if_neg h0, if_neg h1, if_pos (show 0 ≤ c by omega), if_pos (show c < 16 by omega), if_pos (show isC c from ⟨by omega, by omega⟩), nm_rd c (by omega) (by omega)]
theorem refArticle_tells (c : Int) : haulierref15_Article.f c = some (mk (articleR c)) := by
  show ((some articlesB : Option (List ByteArray)).bind fun y119 => (if c < 0 then (some (⟨#[]⟩ : ByteArray)) else (if c ≥ (y119.length : Int) then (some (⟨#[]⟩ : ByteArray)) else (if 0 ≤ c then (if c < (y119.length : Int) then (some (rdOf ByteArray.empty y119 c)) else (none)) else (none))))) = _
  have hl : (articlesB.length : Int) = 16 := rfl
  unfold articleR
  simp only [Option.bind_some]
  rw [hl]
  by_cases h0 : c < 0
  · rw [if_pos h0, if_neg (show ¬ isC c from fun e => absurd e.1 (by omega))]; rfl
  · by_cases h1 : c ≥ 16
    · rw [if_neg h0, if_pos h1, if_neg (show ¬ isC c from fun e => absurd e.2 (by omega))]; rfl
    · rw [if_neg h0, if_neg h1, if_pos (show 0 ≤ c by omega), if_pos (show c < 16 by omega), if_pos (show isC c from ⟨by omega, by omega⟩), ar_rd c (by omega) (by omega)]
theorem nmL_ne (c : Int) (h : isC c) : nmL c ≠ [] := by
  rcases sixteen c h.1 h.2 with rfl | rfl | rfl | rfl | rfl | rfl | rfl | rfl | rfl | rfl | rfl | rfl | rfl | rfl | rfl | rfl <;> decide
theorem nameR_ne (c : Int) : nameR c ≠ [] ↔ isC c := by
  unfold nameR
  by_cases h : isC c
  · rw [if_pos h]; exact ⟨fun _ => h, fun _ => nmL_ne c h⟩
  · rw [if_neg h]; exact ⟨fun e => absurd rfl e, fun e => absurd e h⟩

/-! ### The clause of a name -/
def fnd (l : List UInt8) : List (List UInt8) → Nat → Option Nat
  | [], _ => none
  | n :: r, i => if n = l then some i else fnd l r (i + 1)
def findR (l : List UInt8) : Option Nat := fnd l clauseNames 0
theorem drop_names (i : Nat) (h : i < 16) : clauseNames.drop i = nmL (i : Int) :: clauseNames.drop (i + 1) := by
  have hl : i < clauseNames.length := h
  rw [List.drop_eq_getElem_cons hl]
  congr 1
  unfold nmL
  rw [Int.toNat_natCast, List.getD_eq_getElem?_getD, List.getElem?_eq_getElem hl]
  rfl
theorem Find_tells (s : ByteArray) : Ev (fun k => clause_Find.f k s) (match findR s.data.toList with | some c => ((c : Int), 0) | none => (0, 13)) := by
  suffices H : ∀ (d i : Nat), i + d = 16 → Ev (fun k => clause_Find.l0 k s (i : Int)) (match fnd s.data.toList (clauseNames.drop i) i with | some c => ((c : Int), 0) | none => (0, 13)) from H 16 0 rfl
  intro d
  induction d with
  | zero =>
    intro i hi
    obtain rfl : i = 16 := by omega
    refine Ev.step (f := fun _ => some (0, 13)) (fun k => ?_) (Ev.now _)
    simp only [clause_Find.l0]
    rw [if_neg (by omega)]
  | succ d ih =>
    intro i hi
    rw [drop_names i (by omega), fnd]
    have e := nm_rd (i : Int) (by omega) (by omega)
    by_cases h : nmL (i : Int) = s.data.toList
    · rw [if_pos h]
      refine Ev.step (f := fun _ => some ((i : Int), 0)) (fun k => ?_) (Ev.now _)
      simp only [clause_Find.l0]
      rw [if_pos (by omega), if_pos (by omega), e, toList_mk, Lib.toList_data, if_pos h]
    · rw [if_neg h]
      have := ih (i + 1) (by omega)
      refine Ev.step (f := fun k => clause_Find.l0 k s ((i + 1 : Nat) : Int)) (fun k => ?_) this
      simp only [clause_Find.l0]
      rw [if_pos (by omega), if_pos (by omega), e, toList_mk, Lib.toList_data, if_neg h, show (i : Int) + 1 = ((i + 1 : Nat) : Int) by omega, wrp (by omega) (by omega)]
theorem refFind_tells (s : ByteArray) : Ev (fun k => haulierref15_Find.f k s) (match findR s.data.toList with | some c => (c : Int) | none => -1) := by
  suffices H : ∀ (d i : Nat), i + d = 16 → Ev (fun k => haulierref15_Find.l0 k s (i : Int)) (match fnd s.data.toList (clauseNames.drop i) i with | some c => (c : Int) | none => -1) from H 16 0 rfl
  intro d
  induction d with
  | zero =>
    intro i hi
    obtain rfl : i = 16 := by omega
    refine Ev.step (f := fun _ => some (-1)) (fun k => ?_) (Ev.now _)
    simp only [haulierref15_Find.l0]
    rw [if_neg (by omega)]
  | succ d ih =>
    intro i hi
    rw [drop_names i (by omega), fnd]
    have e : nameR (i : Int) = nmL (i : Int) := if_pos ⟨by omega, by omega⟩
    by_cases h : nmL (i : Int) = s.data.toList
    · rw [if_pos h]
      refine Ev.step (f := fun _ => some (i : Int)) (fun k => ?_) (Ev.now _)
      have h' : (mk (nmL (i : Int))).data.toList = s.data.toList := h
      simp only [haulierref15_Find.l0, refName_tells, Option.bind_some, Lib.toList_data, e]
      rw [if_pos (by omega), if_pos h']
    · rw [if_neg h]
      have := ih (i + 1) (by omega)
      refine Ev.step (f := fun k => haulierref15_Find.l0 k s ((i + 1 : Nat) : Int)) (fun k => ?_) this
      have h' : ¬ (mk (nmL (i : Int))).data.toList = s.data.toList := h
      simp only [haulierref15_Find.l0, refName_tells, Option.bind_some, Lib.toList_data, e]
      rw [if_pos (by omega), if_neg h', show (i : Int) + 1 = ((i + 1 : Nat) : Int) by omega, wrp (by omega) (by omega)]
theorem findR_lt {l : List UInt8} {c : Nat} (h : findR l = some c) : c < 16 ∧ nmL (c : Int) = l := by
  suffices H : ∀ (d i : Nat), i + d = 16 → fnd l (clauseNames.drop i) i = some c → c < 16 ∧ nmL (c : Int) = l from H 16 0 rfl h
  intro d
  induction d with
  | zero =>
    intro i hi h
    obtain rfl : i = 16 := by omega
    cases h
  | succ d ih =>
    intro i hi h
    rw [drop_names i (by omega), fnd] at h
    split at h
    · rename_i e
      cases h
      exact ⟨by omega, e⟩
    · exact ih (i + 1) (by omega) h
theorem findR_name (c : Int) (h : isC c) : findR (nmL c) = some c.toNat := by
  rcases sixteen c h.1 h.2 with rfl | rfl | rfl | rfl | rfl | rfl | rfl | rfl | rfl | rfl | rfl | rfl | rfl | rfl | rfl | rfl <;> decide

/-! ### Sets -/
theorem i64_and1 (n : Int) : bits .and .i64 n 1 = n % 2 := by
  have h1 : (BitVec.ofInt 64 1).toNat = 2 ^ 1 - 1 := by decide
  have key : (BitVec.ofInt 64 n &&& BitVec.ofInt 64 1).toNat = (n % ((2 ^ 64 : Nat) : Int)).toNat % 2 ^ 1 := by
    rw [BitVec.toNat_and, BitVec.toNat_ofInt, h1, Nat.and_two_pow_sub_one_eq_mod]
  show IntKind.i64.wrap ((BitVec.ofInt 64 n &&& BitVec.ofInt 64 1).toNat : Nat) = n % 2
  rw [key, IntKind.wrap_i64]
  omega
/-- Is a clause in a set? -/
def bitC (set : Int) (c : Nat) : Bool := decide ((set / 2 ^ c) % 2 = 1)
theorem In_tells (set c : Int) : clause_In.f set c = some (if isC c then bitC set c.toNat else false) := by
  unfold clause_In.f
  rw [is_tells]
  by_cases h : isC c
  · simp only [Option.bind_some, decide_eq_true h, if_true, if_pos h, if_pos h.1]
    rw [i64_and1]
    unfold bitC
    have hb64 : c ≤ ((IntKind.i64).bits : Int) := by show c ≤ 64; have := h.2; omega
    have e : shr .i64 set c = set / 2 ^ c.toNat := (shr_small rfl hb64).symm
    rw [e]
    rfl
  · simp only [Option.bind_some, decide_eq_false h, if_neg h, Bool.false_eq_true, if_false]
def allL (set : Int) : Nat → Nat → List Int
  | 0, _ => []
  | d + 1, i => if bitC set i = true then (i : Int) :: allL set d (i + 1) else allL set d (i + 1)
theorem All_tells (set : Int) : Ev (fun k => clause_All.f k set) (allL set 16 0) := by
  suffices H : ∀ (d i : Nat) (acc : List Int), i + d = 16 → acc.length ≤ i → Ev (fun k => clause_All.l0 k set acc (i : Int)) (acc ++ allL set d i) from H 16 0 [] rfl (Nat.le_refl _)
  intro d
  induction d with
  | zero =>
    intro i acc hi ha
    obtain rfl : i = 16 := by omega
    refine Ev.step (f := fun _ => some (acc ++ allL set 0 16)) (fun k => ?_) (Ev.now _)
    simp only [clause_All.l0]
    rw [if_neg (by omega)]
    simp [allL]
  | succ d ih =>
    intro i acc hi ha
    have hc : isC (i : Int) := ⟨by omega, by omega⟩
    have e1 : (i : Int) + 1 = ((i + 1 : Nat) : Int) := by omega
    have b1 : -9223372036854775808 ≤ ((i + 1 : Nat) : Int) := by omega
    have b2 : ((i + 1 : Nat) : Int) ≤ 9223372036854775807 := by omega
    have c1 : (i : Int) < 16 := by omega
    have c2 : acc.length < 17592186044416 := by omega
    have i1 := ih (i + 1) (acc ++ [(i : Int)]) (by omega) (by simp; omega)
    have i2 := ih (i + 1) acc (by omega) (by omega)
    cases hb : bitC set i with
    | true =>
      rw [allL, if_pos hb]
      rw [List.append_assoc] at i1
      refine Ev.step (f := fun k => clause_All.l0 k set (acc ++ [(i : Int)]) ((i + 1 : Nat) : Int)) (fun k => ?_) i1
      simp only [clause_All.l0, In_tells, Option.bind_some, if_pos hc, Int.toNat_natCast, hb, if_true]
      rw [if_pos c1, if_pos c2, e1, wrp b1 b2]
    | false =>
      rw [allL, if_neg (by rw [hb]; decide)]
      refine Ev.step (f := fun k => clause_All.l0 k set acc ((i + 1 : Nat) : Int)) (fun k => ?_) i2
      simp only [clause_All.l0, In_tells, Option.bind_some, if_pos hc, Int.toNat_natCast, hb, Bool.false_eq_true, if_false]
      rw [if_pos c1, e1, wrp b1 b2]
theorem u64_half (x : Int) (h0 : 0 ≤ x) (h1 : x < 18446744073709551616) : IntKind.u64.wrap (Int.tdiv x 2) = x / 2 := by
  rw [Int.tdiv_eq_ediv_of_nonneg h0]
  show x / 2 % 18446744073709551616 = x / 2
  omega
theorem bit_u64 (set : Int) (i : Nat) (h : i < 16) : (set % 18446744073709551616 / 2 ^ i) % 2 = (set / 2 ^ i) % 2 := by
  have : i = 0 ∨ i = 1 ∨ i = 2 ∨ i = 3 ∨ i = 4 ∨ i = 5 ∨ i = 6 ∨ i = 7 ∨ i = 8 ∨ i = 9 ∨ i = 10 ∨ i = 11 ∨ i = 12 ∨ i = 13 ∨ i = 14 ∨ i = 15 := by omega
  rcases this with rfl | rfl | rfl | rfl | rfl | rfl | rfl | rfl | rfl | rfl | rfl | rfl | rfl | rfl | rfl | rfl <;> omega
theorem refAll_tells (set : Int) : Ev (fun k => haulierref15_All.f k set) (allL set 16 0) := by
  have hu : IntKind.u64.wrap set = set % 18446744073709551616 := rfl
  suffices H : ∀ (d i : Nat) (x : Int) (acc : List Int), i + d = 16 → acc.length ≤ i → x = set % 18446744073709551616 / 2 ^ i → Ev (fun k => haulierref15_All.l0 k acc x (i : Int)) (acc ++ allL set d i) by
    have := H 16 0 (IntKind.u64.wrap set) [] rfl (Nat.le_refl _) (by rw [hu]; simp)
    exact this
  intro d
  induction d with
  | zero =>
    intro i x acc hi ha hx
    obtain rfl : i = 16 := by omega
    refine Ev.step (f := fun _ => some (acc ++ allL set 0 16)) (fun k => ?_) (Ev.now _)
    simp only [haulierref15_All.l0]
    rw [if_neg (by omega)]
    simp [allL]
  | succ d ih =>
    intro i x acc hi ha hx
    have x0 : 0 ≤ x := by rw [hx]; exact Int.ediv_nonneg (by omega) (Int.le_of_lt (Int.pow_pos (by omega)))
    have x1 : x < 18446744073709551616 := by
      have h1 : x ≤ set % 18446744073709551616 := by rw [hx]; exact Int.ediv_le_self _ (by omega)
      omega
    have hn : x / 2 = set % 18446744073709551616 / 2 ^ (i + 1) := by
      rw [hx, Int.pow_succ, Int.ediv_ediv_of_nonneg (Int.le_of_lt (Int.pow_pos (by omega)))]
    have hb2 : (Int.tmod x 2 = 1) ↔ bitC set i = true := by
      unfold bitC
      rw [Int.tmod_eq_emod_of_nonneg x0, hx, bit_u64 set i (by omega), decide_eq_true_eq]
    have e1 : (i : Int) + 1 = ((i + 1 : Nat) : Int) := by omega
    have b1 : -9223372036854775808 ≤ ((i + 1 : Nat) : Int) := by omega
    have b2 : ((i + 1 : Nat) : Int) ≤ 9223372036854775807 := by omega
    have c1 : (i : Int) < 16 := by omega
    have c2 : acc.length < 17592186044416 := by omega
    have i1 := ih (i + 1) (x / 2) (acc ++ [(i : Int)]) (by omega) (by simp; omega) hn
    have i2 := ih (i + 1) (x / 2) acc (by omega) (by omega) hn
    cases hb : bitC set i with
    | true =>
      rw [allL, if_pos hb]
      rw [List.append_assoc] at i1
      refine Ev.step (f := fun k => haulierref15_All.l0 k (acc ++ [(i : Int)]) (x / 2) ((i + 1 : Nat) : Int)) (fun k => ?_) i1
      simp only [haulierref15_All.l0]
      rw [if_pos c1, if_pos (hb2.2 hb), if_pos c2, u64_half x x0 x1, e1, wrp b1 b2]
    | false =>
      have hb3 : ¬ Int.tmod x 2 = 1 := fun e => by rw [hb2.1 e] at hb; cases hb
      rw [allL, if_neg (by rw [hb]; decide)]
      refine Ev.step (f := fun k => haulierref15_All.l0 k acc (x / 2) ((i + 1 : Nat) : Int)) (fun k => ?_) i2
      simp only [haulierref15_All.l0]
      rw [if_pos c1, if_neg hb3, u64_half x x0 x1, e1, wrp b1 b2]
theorem allL_len (set : Int) : ∀ d i, (allL set d i).length ≤ d
  | 0, i => Nat.le_refl _
  | d + 1, i => by
    have := allL_len set d (i + 1)
    unfold allL
    split
    · simp; omega
    · omega
theorem allL_mem (set c : Int) : ∀ d i : Nat, c ∈ allL set d i ↔ ((i : Int) ≤ c ∧ c < (i : Int) + d ∧ bitC set c.toNat = true)
  | 0, i => by simp [allL]; omega
  | d + 1, i => by
    have ih := allL_mem set c d (i + 1)
    unfold allL
    by_cases hb : bitC set i = true
    · rw [if_pos hb, List.mem_cons, ih]
      constructor
      · rintro (e | ⟨h1, h2, h3⟩)
        · subst e
          exact ⟨by omega, by omega, by rw [Int.toNat_natCast]; exact hb⟩
        · exact ⟨by omega, by omega, h3⟩
      · rintro ⟨h1, h2, h3⟩
        by_cases e : c = (i : Int)
        · exact .inl e
        · exact .inr ⟨by omega, by omega, h3⟩
    · rw [if_neg hb, ih]
      constructor
      · rintro ⟨h1, h2, h3⟩
        exact ⟨by omega, by omega, h3⟩
      · rintro ⟨h1, h2, h3⟩
        refine ⟨?_, by omega, h3⟩
        by_cases e : c = (i : Int)
        · rw [e, Int.toNat_natCast] at h3
          exact absurd h3 hb
        · omega
def art4 : List UInt8 := [97, 114, 116, 46]
def lineL (c a b : Int) : List UInt8 := art4 ++ arL c ++ 32 :: (nmL c ++ 32 :: toldL a b)
def lineR (c a b : Int) : List UInt8 × Int := if isC c then (if b ≤ a then ([], 3) else if a < 0 ∨ b > 40320 then ([], 4) else (lineL c a b, 0)) else ([], 13)
theorem arL_len (c : Int) (h : isC c) : (arL c).length ≤ 4 := by
  rcases sixteen c h.1 h.2 with rfl | rfl | rfl | rfl | rfl | rfl | rfl | rfl | rfl | rfl | rfl | rfl | rfl | rfl | rfl | rfl <;> decide
theorem nmL_len (c : Int) (h : isC c) : (nmL c).length ≤ 9 := by
  rcases sixteen c h.1 h.2 with rfl | rfl | rfl | rfl | rfl | rfl | rfl | rfl | rfl | rfl | rfl | rfl | rfl | rfl | rfl | rfl <;> decide
theorem told_len (a b : Int) (ha : i64B a) (hb : i64B b) : (toldL a b).length ≤ 41 := by
  have la := itoa_len a ha.1 ha.2
  have lb := itoa_len b hb.1 hb.2
  unfold toldL
  simp
  omega
theorem Line_yes (c a b : Int) (h : isC c) (ha : i64B a) (hb : i64B b) (k : Nat) : clause_Line.j0 (k + 1) false c a b = some (mk (lineL c a b), 0) := by
  have l1 := arL_len c h
  have l2 := nmL_len c h
  have l3 := told_len a b ha hb
  have hj : word_Join.f [mk (art4 ++ arL c), mk (nmL c), mk (toldL a b)] = some (mk (lineL c a b)) := by
    have e : joinB [mk (art4 ++ arL c), mk (nmL c), mk (toldL a b)] (strOfNums [32]) = lineL c a b := by
      show Lib.join [art4 ++ arL c, nmL c, toldL a b] [32] = _
      rw [Lib.join_cons]
      simp [Lib.joinTail, lineL]
    have hlen : (lineL c a b).length ≤ 140737488355328 := by simp [lineL, art4]; omega
    unfold word_Join.f strings_Join.f
    rw [e, if_pos ⟨by simp, hlen⟩]
    rfl
  have hcat : (⟨#[97, 114, 116, 46]⟩ : ByteArray) ++ mk (arL c) = mk (art4 ++ arL c) := append_mk art4 (arL c)
  simp only [clause_Line.j0]
  rw [if_neg (by decide), if_pos h.1, if_pos h.2, ar_rd c h.1 h.2, nm_rd c h.1 h.2, hcat, if_pos (by rw [size_mk]; omega), Told_tells a b ha hb]
  simp only [Option.bind_some]
  rw [hj]
  rfl
theorem Line_tells (c a b : Int) (ha : i64B a) (hb : i64B b) : Ev (fun k => clause_Line.f k c a b) (mk (lineR c a b).1, (lineR c a b).2) := by
  have no : Ev (fun k => clause_Line.j0 k true c a b) (mk [], 4) := Ev.step (f := fun _ => some (mk [], 4)) (fun k => by simp only [clause_Line.j0]; rw [if_pos trivial]; rfl) (Ev.now _)
  unfold clause_Line.f lineR
  rw [is_tells]
  simp only [Option.bind_some]
  by_cases h : isC c
  case neg => 
    simp only [decide_eq_false h, if_neg h, Bool.false_eq_true, if_false]
    exact Ev.now _
  simp only [decide_eq_true h, if_pos h, if_true]
  by_cases h1 : b ≤ a
  · simp only [if_pos h1]
    exact Ev.now _
  simp only [if_neg h1]
  by_cases h2 : a < 0
  · simp only [if_pos h2, if_pos (Or.inl h2 : a < 0 ∨ b > 40320)]
    exact no
  simp only [if_neg h2]
  by_cases h3 : b > 40320
  · simp only [decide_eq_true h3, if_pos (Or.inr h3 : a < 0 ∨ b > 40320)]
    exact no
  simp only [decide_eq_false h3, if_neg (show ¬ (a < 0 ∨ b > 40320) by omega)]
  exact Ev.step (fun k => Line_yes c a b h ha hb k) (Ev.now _)
theorem line_alive : (lineR 0 0 271) = ([97, 114, 116, 46, 55, 32, 98, 114, 101, 97, 107, 32, 48, 45, 50, 55, 49], 0) := by
  have e0 : Lib.itoa 0 = [48] := by
    rw [itoa_pos (by omega), show (0 : Int).toNat = 0 from rfl, Lib.decDigits, dif_pos (by omega)]; rfl
  have e1 : Lib.itoa 271 = [50, 55, 49] := by
    rw [itoa_pos (by omega), show (271 : Int).toNat = 271 from rfl, Lib.decDigits, dif_neg (by omega), show 271 / 10 = 27 from rfl, Lib.decDigits, dif_neg (by omega), show 27 / 10 = 2 from rfl, Lib.decDigits, dif_pos (by omega)]
    rfl
  unfold lineR
  rw [if_pos (by decide), if_neg (by omega), if_neg (by omega)]
  unfold lineL toldL
  rw [e0, e1]
  rfl
theorem alive15' : Ev (fun k => haulierlaw15_alive.f k) true := by
  unfold haulierlaw15_alive.f
  have := Line_tells 0 0 271 (by unfold i64B; omega) (by unfold i64B; omega)
  rw [line_alive] at this
  refine Ev.bind (f := fun k bt110 => _) this ?_
  exact Ev.congr (f := fun _ => some true) (fun k => by rw [toList_mk, if_pos rfl]; rfl) (Ev.now _)
theorem alive15 : Ev (fun k => (haulierlaw15_alive.f k).bind fun t => some t) true := Ev.bind (f := fun _ t => some t) alive15' (Ev.now _)
end Go.Proofs.YtaaiamfolbcchaaDoor.Pure

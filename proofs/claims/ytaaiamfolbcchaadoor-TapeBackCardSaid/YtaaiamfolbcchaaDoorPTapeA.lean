/- Layer 10, plain: what record.Check, tape.Line, tape.Read and their references tell. -/
import Derived.Test.YtaaiamfolbcchaaDoorX32
import Derived.Test.YtaaiamfolbcchaaDoorX33
import Derived.Test.YtaaiamfolbcchaaDoorX34
import Derived.Test.YtaaiamfolbcchaaDoorX35
import Derived.Test.YtaaiamfolbcchaaDoorX35
import Derived.Test.YtaaiamfolbcchaaDoorX36
import Derived.Test.YtaaiamfolbcchaaDoorPWordD
import Derived.Test.YtaaiamfolbcchaaDoorPWordE
import Derived.OpenShut
namespace Go.Proofs.YtaaiamfolbcchaaDoor.Pure
set_option linter.unusedVariables false
set_option linter.unusedSimpArgs false
open Go.RowKit Go.Proofs.YtaaiamfolbcchaaDoor.Y0 Go.Proofs.YtaaiamfolbcchaaDoor.X1 Go.Proofs.YtaaiamfolbcchaaDoor.X2 Go.Proofs.YtaaiamfolbcchaaDoor.X3 Go.Proofs.YtaaiamfolbcchaaDoor.Ext Go.Proofs.YtaaiamfolbcchaaDoorW.PrintWords Go.Proofs.YtaaiamfolbcchaaDoorW.PrintLast Go.Proofs.YtaaiamfolbcchaaDoorW.PrintMore

abbrev Rec := S75
def rdR (l : List Rec) (i : Int) : Rec := rd_T75 l i
def faultR (a b c : Int) : Int := if 0 ≤ a ∧ a < 4 then (if (0 ≤ b ∧ b ≤ 40320) ∧ 0 ≤ c ∧ c ≤ 40320 then (if c ≤ b then 3 else 0) else 4) else 2
theorem kind_tells (a : Int) : record_kind.f a = some (decide (0 ≤ a ∧ a < 4)) := by
  unfold record_kind.f
  by_cases h : a ≥ 0
  · rw [if_pos h]; congr 1; exact decide_eq_decide.2 ⟨fun x => ⟨h, x⟩, fun x => x.2⟩
  · rw [if_neg h]; congr 1; exact (decide_eq_false (fun x => h x.1)).symm
theorem in_tells (a : Int) : record_in.f a = some (decide (0 ≤ a ∧ a ≤ 40320)) := by
  unfold record_in.f
  by_cases h : a ≥ 0
  · rw [if_pos h]; congr 1; exact decide_eq_decide.2 ⟨fun x => ⟨h, x⟩, fun x => x.2⟩
  · rw [if_neg h]; congr 1; exact (decide_eq_false (fun x => h x.1)).symm
theorem fault_t (a b c : Int) : Ev (fun k => record_fault.j0 k true a b c) 4 :=
  Ev.step (f := fun _ => some 4) (fun k => by simp only [record_fault.j0]; rfl) (Ev.now _)
theorem fault_f (a b c : Int) : Ev (fun k => record_fault.j0 k false a b c) (if c ≤ b then 3 else 0) :=
  Ev.step (f := fun _ => some (if c ≤ b then 3 else 0)) (fun k => by simp only [record_fault.j0]; rw [if_neg (by decide)]; split <;> rfl) (Ev.now _)
theorem fault_tells (a b c : Int) : Ev (fun k => record_fault.f k a b c) (faultR a b c) := by
  unfold record_fault.f faultR
  simp only [kind_tells, in_tells, Option.bind_some]
  by_cases h1 : 0 ≤ a ∧ a < 4
  · rw [if_pos h1]
    by_cases h2 : 0 ≤ b ∧ b ≤ 40320
    · by_cases h3 : 0 ≤ c ∧ c ≤ 40320
      · rw [if_pos ⟨h2, h3⟩]
        exact Ev.congr (fun k => by rw [if_pos (decide_eq_true h1), if_pos (decide_eq_true h2), decide_eq_true h3]; rfl) (fault_f a b c)
      · rw [if_neg (fun x => h3 x.2)]
        exact Ev.congr (fun k => by rw [if_pos (decide_eq_true h1), if_pos (decide_eq_true h2), decide_eq_false h3]; rfl) (fault_t a b c)
    · rw [if_neg (fun x => h2 x.1)]
      exact Ev.congr (fun k => by rw [if_pos (decide_eq_true h1), if_neg (by rw [decide_eq_false h2]; decide)]) (fault_t a b c)
  · rw [if_neg h1]
    exact Ev.congr (fun k => by rw [if_neg (by rw [decide_eq_false h1]; decide)]) (Ev.now 2)

/-- The first record that is wrong, the one ahead of it at hand. -/
def chk : Option Int → Nat → List Rec → Int × Int
  | _, _, [] => (0, 0)
  | p, i, r :: rs => if faultR r.f0 r.f1 r.f2 = 0 then (match p with
      | none => chk (some r.f2) (i + 1) rs
      | some e => if r.f1 > e then ((i : Int), 5) else if r.f1 < e then ((i : Int), 6) else chk (some r.f2) (i + 1) rs) else ((i : Int), faultR r.f0 r.f1 r.f2)
theorem rd_drop {l : List Rec} {i : Nat} {r : Rec} {rs : List Rec} (h : l.drop i = r :: rs) : rd_T75 l (i : Int) = r ∧ i < l.length ∧ l.drop (i + 1) = rs := by
  have hl : i < l.length := by
    rcases Nat.lt_or_ge i l.length with h' | h'
    · exact h'
    · rw [List.drop_of_length_le h'] at h; cases h
  rw [List.drop_eq_getElem_cons hl] at h
  injection h with h1 h2
  exact ⟨by simp [rd_T75, List.getD_eq_getElem?_getD, hl, h1], hl, h2⟩
def prevO (l : List Rec) (i : Nat) : Option Int := if i = 0 then none else some (rd_T75 l ((i : Int) - 1)).f2
theorem prevO_succ {l : List Rec} {i : Nat} {r : Rec} (h : rd_T75 l (i : Int) = r) : prevO l (i + 1) = some r.f2 := by
  unfold prevO
  rw [if_neg (by omega), show (((i + 1 : Nat) : Int) - 1) = (i : Int) by omega, h]
theorem check_loop (l : List Rec) (hl : l.length ≤ 4294967280) : ∀ (rest : List Rec) (i : Nat), l.drop i = rest → Ev (fun k => record_Check.l0 k l l (l.length : Int) (i : Int)) (chk (prevO l i) i rest) := by
  intro rest
  induction rest with
  | nil =>
    intro i hd
    have hi : l.length ≤ i := by simpa using hd
    exact Ev.step (f := fun _ => some (0, 0)) (fun k => by simp only [record_Check.l0]; rw [if_neg (by omega)]) (Ev.now _)
  | cons r rs ih =>
    intro i hd
    obtain ⟨e1, h1, h2⟩ := rd_drop hd
    have c1 : (i : Int) < (l.length : Int) := by omega
    have c2 : (0 : Int) ≤ (i : Int) := by omega
    have e3 : wrap64 ((i : Int) + 1) = ((i + 1 : Nat) : Int) := by unfold wrap64; omega
    have nx := ih (i + 1) h2
    rw [prevO_succ e1] at nx
    by_cases h0 : i = 0
    · have h0i : (i : Int) = 0 := by omega
      refine Ev.step (f := fun k => (record_fault.f k r.f0 r.f1 r.f2).bind fun t => if t = 0 then record_Check.l0 k l l (l.length : Int) ((i + 1 : Nat) : Int) else some ((i : Int), t)) (fun k => ?_) ?_
      · simp only [record_Check.l0]
        rw [if_pos c1, if_pos c2, if_pos c1, e1]
        simp only [if_pos h0i, e3]
      refine Ev.bind (f := fun k t => _) (fault_tells _ _ _) ?_
      unfold chk prevO
      by_cases hf : faultR r.f0 r.f1 r.f2 = 0
      · simp only [if_pos hf, if_pos h0]; exact nx
      · simp only [if_neg hf]; exact Ev.now _
    · have h0i : ¬ (i : Int) = 0 := by omega
      have e4 : wrap64 ((i : Int) - 1) = (i : Int) - 1 := by unfold wrap64; omega
      have c3 : (0 : Int) ≤ (i : Int) - 1 := by omega
      have c4 : (i : Int) - 1 < (l.length : Int) := by omega
      refine Ev.step (f := fun k => (record_fault.f k r.f0 r.f1 r.f2).bind fun t => if t = 0 then (if r.f1 > (rd_T75 l ((i : Int) - 1)).f2 then some ((i : Int), 5) else (if r.f1 < (rd_T75 l ((i : Int) - 1)).f2 then some ((i : Int), 6) else record_Check.l0 k l l (l.length : Int) ((i + 1 : Nat) : Int))) else some ((i : Int), t)) (fun k => ?_) ?_
      · simp only [record_Check.l0]
        rw [if_pos c1, if_pos c2, if_pos c1, e1]
        simp only [if_neg h0i, e3, e4, if_pos c3, if_pos c4]
      refine Ev.bind (f := fun k t => _) (fault_tells _ _ _) ?_
      unfold chk prevO
      by_cases hf : faultR r.f0 r.f1 r.f2 = 0
      · simp only [if_pos hf, if_neg h0]
        split
        · exact Ev.now _
        · split
          · exact Ev.now _
          · exact nx
      · simp only [if_neg hf]; exact Ev.now _
theorem Check_tells (l : List Rec) (hl : l.length ≤ 4294967280) : Ev (fun k => record_Check.f k l) (chk none 0 l) := check_loop l hl l 0 rfl
theorem refcheck_loop (l : List Rec) (hl : l.length ≤ 4294967280) : ∀ (rest : List Rec) (i : Nat), l.drop i = rest → Ev (fun k => haulierref08_Check.l0 k l (i : Int)) (chk (prevO l i) i rest) := by
  intro rest
  induction rest with
  | nil =>
    intro i hd
    have hi : l.length ≤ i := by simpa using hd
    exact Ev.step (f := fun _ => some (0, 0)) (fun k => by simp only [haulierref08_Check.l0]; rw [if_neg (by omega)]) (Ev.now _)
  | cons r rs ih =>
    intro i hd
    obtain ⟨e1, h1, h2⟩ := rd_drop hd
    have c1 : (i : Int) < (l.length : Int) := by omega
    have c2 : (0 : Int) ≤ (i : Int) := by omega
    have e3 : wrap64 ((i : Int) + 1) = ((i + 1 : Nat) : Int) := by unfold wrap64; omega
    have nx := ih (i + 1) h2
    rw [prevO_succ e1] at nx
    unfold chk faultR
    by_cases hk : 0 ≤ r.f0 ∧ r.f0 < 4
    · refine Ev.step (f := fun k => haulierref08_Check.j1 k l (i : Int) false r.f0 r.f1 r.f2) (fun k => by simp only [haulierref08_Check.l0]; rw [if_pos c1, if_pos c2, e1, if_neg (by omega), decide_eq_false (by omega)]) ?_
      rw [if_pos hk]
      by_cases hin : (0 ≤ r.f1 ∧ r.f1 ≤ 40320) ∧ 0 ≤ r.f2 ∧ r.f2 ≤ 40320
      · refine Ev.step (f := fun k => haulierref08_Check.j2 k l (i : Int) false r.f0 r.f1 r.f2) (fun k => by simp only [haulierref08_Check.j1]; rw [if_neg (by decide), if_neg (by omega), if_neg (by omega), if_neg (by omega), decide_eq_false (by omega)]) ?_
        rw [if_pos hin]
        by_cases hs : r.f2 ≤ r.f1
        · rw [if_pos hs, if_neg (by decide)]
          exact Ev.step (f := fun _ => some ((i : Int), 3)) (fun k => by simp only [haulierref08_Check.j2]; rw [if_neg (by decide), if_pos hs]) (Ev.now _)
        · rw [if_neg hs, if_pos rfl]
          unfold prevO
          by_cases h0 : i = 0
          · have h0i : ¬ (i : Int) > 0 := by omega
            rw [if_pos h0]
            refine Ev.step (f := fun k => haulierref08_Check.j3 k l (i : Int) false r.f0 r.f1 r.f2) (fun k => by simp only [haulierref08_Check.j2]; rw [if_neg (by decide), if_neg hs, if_neg h0i]) ?_
            exact Ev.step (f := fun k => haulierref08_Check.l0 k l ((i + 1 : Nat) : Int)) (fun k => by simp only [haulierref08_Check.j3]; rw [if_neg (by decide), if_neg h0i, e3]) nx
          · have h0i : (i : Int) > 0 := by omega
            have e4 : wrap64 ((i : Int) - 1) = (i : Int) - 1 := by unfold wrap64; omega
            have c3 : (0 : Int) ≤ (i : Int) - 1 := by omega
            have c4 : (i : Int) - 1 < (l.length : Int) := by omega
            rw [if_neg h0]
            refine Ev.step (f := fun k => haulierref08_Check.j3 k l (i : Int) (decide (r.f1 > (rd_T75 l ((i : Int) - 1)).f2)) r.f0 r.f1 r.f2) (fun k => by simp only [haulierref08_Check.j2]; rw [if_neg (by decide), if_neg hs, if_pos h0i, e4, if_pos c3, if_pos c4]) ?_
            by_cases g1 : r.f1 > (rd_T75 l ((i : Int) - 1)).f2
            · simp only [if_pos g1]
              exact Ev.step (f := fun _ => some ((i : Int), 5)) (fun k => by simp only [haulierref08_Check.j3]; rw [if_pos (decide_eq_true g1)]) (Ev.now _)
            · simp only [if_neg g1]
              by_cases g2 : r.f1 < (rd_T75 l ((i : Int) - 1)).f2
              · simp only [if_pos g2]
                exact Ev.step (f := fun _ => some ((i : Int), 6)) (fun k => by simp only [haulierref08_Check.j3]; rw [if_neg (by rw [decide_eq_false g1]; decide), if_pos h0i, e4, if_pos c3, if_pos c4, if_pos g2]) (Ev.now _)
              · simp only [if_neg g2]
                exact Ev.step (f := fun k => haulierref08_Check.l0 k l ((i + 1 : Nat) : Int)) (fun k => by simp only [haulierref08_Check.j3]; rw [if_neg (by rw [decide_eq_false g1]; decide), if_pos h0i, e4, if_pos c3, if_pos c4, if_neg g2, e3]) nx
      · rw [if_neg hin, if_neg (by decide)]
        refine Ev.step (f := fun k => haulierref08_Check.j2 k l (i : Int) true r.f0 r.f1 r.f2) (fun k => ?_) (Ev.step (f := fun _ => some ((i : Int), 4)) (fun k => by simp only [haulierref08_Check.j2]; rfl) (Ev.now _))
        simp only [haulierref08_Check.j1]
        rw [if_neg (by decide)]
        by_cases b1 : r.f1 < 0
        · rw [if_pos b1]
        · rw [if_neg b1]
          by_cases b2 : r.f1 > 40320
          · rw [if_pos b2]
          · rw [if_neg b2]
            by_cases b3 : r.f2 < 0
            · rw [if_pos b3]
            · rw [if_neg b3, decide_eq_true (by omega)]
    · rw [if_neg hk, if_neg (by decide)]
      refine Ev.step (f := fun k => haulierref08_Check.j1 k l (i : Int) true r.f0 r.f1 r.f2) (fun k => ?_) (Ev.step (f := fun _ => some ((i : Int), 2)) (fun k => by simp only [haulierref08_Check.j1]; rfl) (Ev.now _))
      simp only [haulierref08_Check.l0]
      rw [if_pos c1, if_pos c2, e1]
      by_cases b1 : r.f0 < 0
      · rw [if_pos b1]
      · rw [if_neg b1, decide_eq_true (by omega)]
theorem refCheck_tells (l : List Rec) (hl : l.length ≤ 4294967280) : Ev (fun k => haulierref08_Check.f k l) (chk none 0 l) := refcheck_loop l hl l 0 rfl
theorem chk_one (r : Rec) : chk none 0 [r] = if faultR r.f0 r.f1 r.f2 = 0 then (0, 0) else (0, faultR r.f0 r.f1 r.f2) := by
  unfold chk
  by_cases h : faultR r.f0 r.f1 r.f2 = 0
  · rw [if_pos h, if_pos h]; rfl
  · rw [if_neg h, if_neg h]; rfl
theorem faultR_ok {a b c : Int} (h : faultR a b c = 0) : (0 ≤ a ∧ a < 4) ∧ (0 ≤ b ∧ b ≤ 40320) ∧ (0 ≤ c ∧ c ≤ 40320) ∧ b < c := by
  unfold faultR at h
  split at h
  · split at h
    · split at h
      · omega
      · refine ⟨by omega, by omega, by omega, by omega⟩
    · omega
  · omega
/-- A kind's letter. -/
def letter (a : Int) : UInt8 := if a = 0 then 82 else if a = 1 then 65 else if a = 2 then 87 else 68
theorem kinds4 {a : Int} (h : 0 ≤ a ∧ a < 4) : a = 0 ∨ a = 1 ∨ a = 2 ∨ a = 3 := by omega
theorem Letter_tells {a : Int} (h : 0 ≤ a ∧ a < 4) : view_Letter.f a = some (((letter a).toNat : Int), true) := by
  rcases kinds4 h with rfl | rfl | rfl | rfl <;> rfl
def lineL (a b c : Int) : List UInt8 := letter a :: 32 :: toldL b c
def lineR (a b c : Int) : ByteArray × Int := if faultR a b c = 0 then (mk (lineL a b c), 0) else (mk [], faultR a b c)
theorem toldL_len (a b : Int) (ha : i64B a) (hb : i64B b) : (toldL a b).length ≤ 41 := by
  have h1 := itoa_len a ha.1 ha.2
  have h2 := itoa_len b hb.1 hb.2
  unfold toldL
  rw [List.length_append, List.length_cons]
  omega
theorem Join2_tells (x y : List UInt8) (h : x.length + y.length ≤ 1000000) : word_Join.f [mk x, mk y] = some (mk (x ++ 32 :: y)) := by
  have e : joinB [mk x, mk y] (strOfNums [32]) = x ++ 32 :: y := by
    show Lib.join [x, y] [32] = _
    simp [Lib.join, List.intercalate]
  unfold word_Join.f strings_Join.f
  rw [if_pos ⟨by simp, by rw [e]; simp; omega⟩, e]
  rfl
theorem one_text (n : UInt8) : strOfNums [(n.toNat : Int)] = mk [n] := by
  have : UInt8.ofNat n.toNat = n := UInt8.ofNat_toNat
  simp only [strOfNums, List.map_cons, List.map_nil, Int.toNat_natCast]
  show (⟨#[UInt8.ofNat n.toNat]⟩ : ByteArray) = _
  rw [this]
  rfl
theorem Line_rec (a b c : Int) : Ev (fun k => tape_Line.f k a b c) (lineR a b c) := by
  unfold tape_Line.f lineR
  refine Ev.bind (f := fun k bt => _) (Check_tells [⟨a, b, c⟩] (by simp)) ?_
  rw [chk_one]
  by_cases h : faultR a b c = 0
  · obtain ⟨h1, h2, h3, _⟩ := faultR_ok h
    have tl := toldL_len b c ⟨by omega, by omega⟩ ⟨by omega, by omega⟩
    simp only [if_pos h, if_true, Letter_tells h1, Option.bind_some, Told_tells b c ⟨by omega, by omega⟩ ⟨by omega, by omega⟩, one_text, Join2_tells [letter a] (toldL b c) (by simp; omega)]
    exact Ev.now _
  · simp only [if_neg h]
    exact Ev.now _
theorem letter_cut {a : Int} (h : 0 ≤ a ∧ a < 4) : (⟨#[82, 65, 87, 68]⟩ : ByteArray).extract a.toNat (a + 1).toNat = mk [letter a] := by
  rcases kinds4 h with rfl | rfl | rfl | rfl <;> rfl
theorem refLine_rec (a b c : Int) : Ev (fun k => haulierref10_Line.f k a b c) (lineR a b c) := by
  unfold haulierref10_Line.f lineR
  refine Ev.bind (f := fun k bt => _) (refCheck_tells [⟨a, b, c⟩] (by simp)) ?_
  rw [chk_one]
  by_cases h : faultR a b c = 0
  · obtain ⟨h1, h2, h3, _⟩ := faultR_ok h
    have tl := toldL_len b c ⟨by omega, by omega⟩ ⟨by omega, by omega⟩
    have e1 : wrap64 (a + 1) = a + 1 := by unfold wrap64; omega
    have c1 : a ≤ a + 1 := by omega
    have c2 : a + 1 ≤ 4 := by omega
    have s1 : (mk [letter a]).size + 1 ≤ 9223372036854775807 := by rw [size_mk]; simp
    have a1 : mk [letter a] ++ (⟨#[32]⟩ : ByteArray) = mk [letter a, 32] := append_mk [letter a] [32]
    have s2 : (mk [letter a, 32]).size + (mk (toldL b c)).size ≤ 9223372036854775807 := by rw [size_mk, size_mk]; simp; omega
    simp only [if_pos h, if_true, e1, if_pos h1.1, if_pos c1, if_pos c2, letter_cut h1, if_pos s1]
    refine Ev.bind (f := fun k bt => _) (refTold_tells b c ⟨by omega, by omega⟩ ⟨by omega, by omega⟩) ?_
    simp only [a1, if_pos s2, append_mk]
    exact Ev.now _
  · simp only [if_neg h]
    exact Ev.now _
/-- A letter's kind. -/
def kindR (c : UInt8) : Option Nat := if c = 82 then some 0 else if c = 65 then some 1 else if c = 87 then some 2 else if c = 68 then some 3 else none
theorem all256 (P : UInt8 → Prop) (h : ∀ n, n < 256 → P (UInt8.ofNat n)) (c : UInt8) : P c := by
  have := h c.toNat c.toNat_lt
  rwa [UInt8.ofNat_toNat] at this
theorem kind_index (c : UInt8) : Lib.indexByte [82, 65, 87, 68] c = (match kindR c with | some k => (k : Int) | none => -1) := by
  unfold kindR
  by_cases h0 : c = 82
  · subst h0; rfl
  · by_cases h1 : c = 65
    · subst h1; rfl
    · by_cases h2 : c = 87
      · subst h2; rfl
      · by_cases h3 : c = 68
        · subst h3; rfl
        · rw [if_neg h0, if_neg h1, if_neg h2, if_neg h3]
          have hge := Lib.indexByte_ge [82, 65, 87, 68] c
          by_cases hm : Lib.indexByte [82, 65, 87, 68] c = -1
          · exact hm
          · obtain ⟨o, ho⟩ : ∃ o : Nat, Lib.indexByte [82, 65, 87, 68] c = o := ⟨(Lib.indexByte [82, 65, 87, 68] c).toNat, by omega⟩
            have hmem := List.mem_of_getElem? (Lib.indexByte_some ho).1
            simp [h0, h1, h2, h3] at hmem
theorem Kind_tells (c : UInt8) : view_Kind.f (c.toNat : Int) = some (match kindR c with | some k => ((k : Int), true) | none => (0, false)) := by
  unfold view_Kind.f strings_IndexByte.f
  have e : ((c.toNat : Int)).toNat.toUInt8 = c := UInt8.ofNat_toNat
  rw [e, show (⟨#[82, 65, 87, 68]⟩ : ByteArray).data.toList = [82, 65, 87, 68] from rfl, kind_index, Option.bind_some]
  cases kindR c with
  | none => rfl
  | some k =>
    show (if (k : Int) < 0 then some ((0 : Int), false) else some ((k : Int), true)) = some ((k : Int), true)
    rw [if_neg (by omega)]
theorem refKind_loop (c : UInt8) : ∀ (d i : Nat), i + d = 4 → (∀ j, j < i → bt (⟨#[82, 65, 87, 68]⟩ : ByteArray) (j : Int) ≠ (c.toNat : Int)) →
    Ev (fun k => haulierref09_Kind.l0 k (c.toNat : Int) (i : Int)) (match kindR c with | some k => ((k : Int), true) | none => (0, false)) := by
  have nat_eq : ∀ n : UInt8, ((n.toNat : Int) = (c.toNat : Int)) ↔ c = n := fun n => ⟨fun h => (UInt8.toNat_inj.1 (by omega)).symm, fun h => by rw [h]⟩
  have key : ∀ i : Nat, i < 4 → ∃ x : UInt8, bt (⟨#[82, 65, 87, 68]⟩ : ByteArray) (i : Int) = (x.toNat : Int) ∧ (c = x → kindR c = some i) := by
    intro i hi
    have : i = 0 ∨ i = 1 ∨ i = 2 ∨ i = 3 := by omega
    rcases this with rfl | rfl | rfl | rfl
    · exact ⟨82, rfl, fun h => by subst h; rfl⟩
    · exact ⟨65, rfl, fun h => by subst h; rfl⟩
    · exact ⟨87, rfl, fun h => by subst h; rfl⟩
    · exact ⟨68, rfl, fun h => by subst h; rfl⟩
  intro d
  induction d with
  | zero =>
    intro i hi hn
    obtain rfl : i = 4 := by omega
    have h0 : c ≠ 82 := fun h => hn 0 (by omega) (by subst h; rfl)
    have h1 : c ≠ 65 := fun h => hn 1 (by omega) (by subst h; rfl)
    have h2 : c ≠ 87 := fun h => hn 2 (by omega) (by subst h; rfl)
    have h3 : c ≠ 68 := fun h => hn 3 (by omega) (by subst h; rfl)
    unfold kindR
    rw [if_neg h0, if_neg h1, if_neg h2, if_neg h3]
    exact Ev.step (f := fun _ => some (0, false)) (fun k => by simp only [haulierref09_Kind.l0]; rfl) (Ev.now _)
  | succ d ih =>
    intro i hi hn
    have c1 : (i : Int) < 4 := by omega
    have c2 : (0 : Int) ≤ (i : Int) := by omega
    have e3 : wrap64 ((i : Int) + 1) = ((i + 1 : Nat) : Int) := by unfold wrap64; omega
    obtain ⟨x, hx, hk⟩ := key i (by omega)
    by_cases h : bt (⟨#[82, 65, 87, 68]⟩ : ByteArray) (i : Int) = (c.toNat : Int)
    · rw [hk ((nat_eq x).1 (hx ▸ h))]
      exact Ev.step (f := fun _ => some ((i : Int), true)) (fun k => by simp only [haulierref09_Kind.l0]; rw [if_pos c1, if_pos c2, if_pos h]) (Ev.now _)
    · refine Ev.step (f := fun k => haulierref09_Kind.l0 k (c.toNat : Int) ((i + 1 : Nat) : Int)) (fun k => by simp only [haulierref09_Kind.l0]; rw [if_pos c1, if_pos c2, if_neg h, e3]) (ih (i + 1) (by omega) (fun j hj => ?_))
      rcases Nat.lt_succ_iff_lt_or_eq.1 hj with hj | rfl
      · exact hn j hj
      · exact h
theorem refKind_tells (c : UInt8) : Ev (fun k => haulierref09_Kind.f k (c.toNat : Int)) (match kindR c with | some k => ((k : Int), true) | none => (0, false)) :=
  refKind_loop c 4 0 rfl (fun j hj => by omega)
def read2 (t0 t1 : List UInt8) : Int × Int × Int × Int := match t0 with
  | [c] => match kindR c with
    | some k => if (spanR t1).2.2 = 0 then ((k : Int), (spanR t1).1, (spanR t1).2.1, 0) else (0, 0, 0, (spanR t1).2.2)
    | none => (0, 0, 0, 2)
  | _ => (0, 0, 0, 2)
def readW : Except Nat (List (Nat × List UInt8)) → Int × Int × Int × Int
  | .ok [w0, w1] => read2 w0.2 w1.2
  | _ => (0, 0, 0, 7)
theorem bt_one (c : UInt8) : bt (mk [c]) 0 = (c.toNat : Int) := bt_head (s := mk [c]) (r := []) rfl
theorem read_j0 (w0 w1 : Nat × List UInt8) (h1 : w1.2.length ≤ 4294967280) : Ev (fun k => tape_Read.j0 k [toW w0, toW w1] false) (read2 w0.2 w1.2) := by
  have sp := Span_tells (mk w1.2) h1
  rw [data_mk] at sp
  have l2 : ((([toW w0, toW w1] : List S54).length : Nat) : Int) = 2 := rfl
  have f0 : (rd_T54 [toW w0, toW w1] 0).f1 = mk w0.2 := rfl
  have f1 : (rd_T54 [toW w0, toW w1] 1).f1 = mk w1.2 := rfl
  obtain ⟨p0, t0⟩ := w0
  unfold read2
  match t0 with
  | [] =>
    refine Ev.step (f := fun _ => some (0, 0, 0, 2)) (fun k => ?_) (Ev.now _)
    simp only [tape_Read.j0, l2, f0, size_mk]
    rfl
  | [c] =>
    have kt := Kind_tells c
    simp only
    refine Ev.step (f := fun k => (view_Kind.f (c.toNat : Int)).bind fun bt150 => (if bt150.2 = true then ((word_Span.f k (mk w1.2)).bind fun bt153 => (if bt153.2.2 = 0 then (some (bt150.1, bt153.1, bt153.2.1, 0)) else (some (0, 0, 0, bt153.2.2)))) else (some (0, 0, 0, 2)))) (fun k => ?_) ?_
    · simp only [tape_Read.j0, l2, f0, f1, size_mk, bt_one]
      rfl
    · rw [kt]
      cases kindR c with
      | none => exact Ev.now _
      | some k0 =>
        simp only [Option.bind_some, if_true]
        refine Ev.bind (f := fun k bt => _) sp ?_
        by_cases h : (spanR w1.2).2.2 = 0
        · simp only [if_pos h]; exact Ev.now _
        · simp only [if_neg h]; exact Ev.now _
  | a :: b :: r =>
    refine Ev.step (f := fun _ => some (0, 0, 0, 2)) (fun k => ?_) (Ev.now _)
    simp only [tape_Read.j0, l2, f0, size_mk]
    rw [if_neg (by decide), if_pos (by decide), if_neg (by simp; omega)]
theorem Read_tells (s : ByteArray) (hs : s.size ≤ 4294967280) : Ev (fun k => tape_Read.f k s) (readW (splR s.data.toList)) := by
  have no : ∀ ws, Ev (fun k => tape_Read.j0 k ws true) (0, 0, 0, 7) := fun ws => Ev.step (f := fun _ => some (0, 0, 0, 7)) (fun k => by simp only [tape_Read.j0]; rw [if_pos trivial]) (Ev.now _)
  unfold tape_Read.f
  refine Ev.bind (f := fun k bt143 => _) (Split_tells' s hs) ?_
  cases hw : splR s.data.toList with
  | error p =>
    simp only [resW, if_neg (show ¬ ((7 : Int) = 0) by decide)]
    exact no _
  | ok ws =>
    simp only [resW, if_true, List.nil_append]
    have hlen := splR_wl hw
    rw [← Lib.size_eq s] at hlen
    match ws, hlen with
    | [], _ => exact no _
    | [_], _ => exact no _
    | [w0, w1], hlen => exact read_j0 w0 w1 (by have := hlen w1 (by simp); omega)
    | _ :: _ :: _ :: r, _ =>
      rw [show (((((_ :: _ :: _ :: r : List (Nat × List UInt8)).map toW).length : Nat) : Int) != 2) = true by simp; omega]
      exact no _
theorem refread_j0 (w0 w1 : Nat × List UInt8) (h1 : w1.2.length ≤ 4294967280) : Ev (fun k => haulierref10_Read.j0 k [toR w0, toR w1] false) (read2 w0.2 w1.2) := by
  have sp := refSpan_tells (mk w1.2) h1
  rw [data_mk] at sp
  have l2 : ((([toR w0, toR w1] : List SR).length : Nat) : Int) = 2 := rfl
  have f0 : (rd_T109 [toR w0, toR w1] 0).f1 = mk w0.2 := rfl
  have f1 : (rd_T109 [toR w0, toR w1] 1).f1 = mk w1.2 := rfl
  obtain ⟨p0, t0⟩ := w0
  have no : ∀ x, Ev (fun k => haulierref10_Read.j1 k [toR (p0, t0), toR w1] x false) (0, 0, 0, 2) := fun x => Ev.step (f := fun _ => some (0, 0, 0, 2)) (fun k => by simp only [haulierref10_Read.j1]; rfl) (Ev.now _)
  unfold read2
  match t0, no with
  | [], no =>
    refine Ev.step (fun k => ?_) (no 0)
    simp only [haulierref10_Read.j0, l2, f0, size_mk]
    rfl
  | [c], no =>
    simp only
    refine Ev.step (f := fun k => (haulierref09_Kind.f k (c.toNat : Int)).bind fun bt165 => haulierref10_Read.j1 k [toR (p0, [c]), toR w1] bt165.1 bt165.2) (fun k => ?_) ?_
    · simp only [haulierref10_Read.j0, l2, f0, f1, size_mk, bt_one]
      rfl
    · refine Ev.bind (f := fun k bt => _) (refKind_tells c) ?_
      cases kindR c with
      | none => exact no 0
      | some k0 =>
        refine Ev.step (f := fun k => (haulierref06_Span.f k (mk w1.2)).bind fun bt168 => (if bt168.2.2 = 0 then (some ((k0 : Int), bt168.1, bt168.2.1, 0)) else (some (0, 0, 0, bt168.2.2)))) (fun k => ?_) ?_
        · simp only [haulierref10_Read.j1, l2, f1]
          rfl
        refine Ev.bind (f := fun k bt => _) sp ?_
        by_cases h : (spanR w1.2).2.2 = 0
        · simp only [if_pos h]; exact Ev.now _
        · simp only [if_neg h]; exact Ev.now _
  | a :: b :: r, no =>
    refine Ev.step (fun k => ?_) (no 0)
    simp only [haulierref10_Read.j0, l2, f0, size_mk]
    rw [if_neg (by decide), if_pos (by decide), if_neg (by simp; omega)]
theorem refRead_tells (s : ByteArray) (hs : s.size ≤ 4294967280) : Ev (fun k => haulierref10_Read.f k s) (readW (splR s.data.toList)) := by
  have no : ∀ ws, Ev (fun k => haulierref10_Read.j0 k ws true) (0, 0, 0, 7) := fun ws => Ev.step (f := fun _ => some (0, 0, 0, 7)) (fun k => by simp only [haulierref10_Read.j0]; rw [if_pos trivial]) (Ev.now _)
  unfold haulierref10_Read.f
  refine Ev.bind (f := fun k bt143 => _) (refSplit_tells s hs) ?_
  cases hw : splR s.data.toList with
  | error p =>
    simp only [resR, if_neg (show ¬ ((7 : Int) = 0) by decide)]
    exact no _
  | ok ws =>
    simp only [resR, if_true, List.nil_append]
    have hlen := splR_wl hw
    rw [← Lib.size_eq s] at hlen
    match ws, hlen with
    | [], _ => exact no _
    | [_], _ => exact no _
    | [w0, w1], hlen => exact refread_j0 w0 w1 (by have := hlen w1 (by simp); omega)
    | _ :: _ :: _ :: r, _ =>
      rw [show (((((_ :: _ :: _ :: r : List (Nat × List UInt8)).map toR).length : Nat) : Int) != 2) = true by simp; omega]
      exact no _
end Go.Proofs.YtaaiamfolbcchaaDoor.Pure

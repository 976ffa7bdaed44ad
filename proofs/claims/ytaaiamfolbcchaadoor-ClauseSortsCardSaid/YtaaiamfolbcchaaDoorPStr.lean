/- Plain laws of texts: splitting and cutting at one byte. -/
import Derived.Test.YtaaiamfolbcchaaDoorExtB
import Derived.Lib.PathFns
import Derived.Lib.IndexLaws
namespace Go.Proofs.YtaaiamfolbcchaaDoor.Pure
set_option linter.unusedVariables false
set_option linter.unusedSimpArgs false
open Go.RowKit Go.Proofs.YtaaiamfolbcchaaDoor.Ext Go.Proofs.YtaaiamfolbcchaaDoorW.PrintWords Go.Proofs.YtaaiamfolbcchaaDoorW.PrintLast

def mk (l : List UInt8) : ByteArray := ⟨l.toArray⟩
theorem mk_data (s : ByteArray) : mk s.data.toList = s := rfl
theorem data_mk (l : List UInt8) : (mk l).data.toList = l := rfl
theorem size_mk (l : List UInt8) : (mk l).size = l.length := rfl
theorem toList_mk (l : List UInt8) : (mk l).toList = l := by rw [Lib.toList_data]; rfl
theorem mk_inj {a b : List UInt8} (h : mk a = mk b) : a = b := by
  have := congrArg (fun s : ByteArray => s.data.toList) h
  exact this
theorem append_mk (a b : List UInt8) : mk a ++ mk b = mk (a ++ b) := by
  apply ByteArray.ext
  show (mk a ++ mk b).data = _
  rw [ByteArray.data_append]
  simp [mk]
theorem extract_mk (l : List UInt8) (a b : Nat) : (mk l).extract a b = mk ((l.drop a).take (b - a)) := by
  rw [Lib.extract_eq]; rfl

/-- A text's parts between the bytes c. -/
def splitL (c : UInt8) : List UInt8 → List (List UInt8)
  | [] => [[]]
  | b :: r => if b = c then [] :: splitL c r else match splitL c r with | [] => [[b]] | h :: t => (b :: h) :: t
theorem splitL_ne (c : UInt8) : ∀ l, splitL c l ≠ []
  | [] => by simp [splitL]
  | b :: r => by
    unfold splitL
    split
    · simp
    · split <;> simp
theorem splitL_none {c : UInt8} : ∀ {l : List UInt8}, c ∉ l → splitL c l = [l]
  | [], _ => rfl
  | b :: r, h => by
    have h1 : ¬ b = c := fun e => h (by rw [e]; exact List.mem_cons_self)
    have h2 : c ∉ r := fun e => h (List.mem_cons_of_mem _ e)
    unfold splitL
    rw [if_neg h1, splitL_none h2]
theorem splitL_hit {c : UInt8} : ∀ {p : List UInt8} (q : List UInt8), c ∉ p → splitL c (p ++ c :: q) = p :: splitL c q
  | [], q, _ => by
    show splitL c (c :: q) = _
    rw [splitL, if_pos rfl]
  | b :: p, q, h => by
    have h1 : ¬ b = c := fun e => h (by rw [e]; exact List.mem_cons_self)
    have h2 : c ∉ p := fun e => h (List.mem_cons_of_mem _ e)
    show splitL c (b :: (p ++ c :: q)) = _
    rw [splitL, if_neg h1, splitL_hit q h2]
/-- Where the first c stands. -/
theorem first_of {l : List UInt8} {c : UInt8} {i : Nat} (h : Lib.indexByte l c = i) : ∃ p q, l = p ++ c :: q ∧ c ∉ p ∧ p.length = i := by
  obtain ⟨h1, h2⟩ := Lib.indexByte_some h
  obtain ⟨hl, he⟩ := List.getElem?_eq_some_iff.1 h1
  refine ⟨l.take i, l.drop (i + 1), ?_, fun hm => ?_, by simp; omega⟩
  · rw [← he, ← List.drop_eq_getElem_cons hl, List.take_append_drop]
  · obtain ⟨k, hk, e⟩ := List.getElem_of_mem hm
    rw [List.length_take] at hk
    apply h2 k (by omega)
    rw [List.getElem_take] at e
    rw [List.getElem?_eq_getElem (by omega), e]
theorem none_of {l : List UInt8} {c : UInt8} (h : Lib.indexByte l c = -1) : c ∉ l := fun hm => by
  obtain ⟨k, hk, e⟩ := List.getElem_of_mem hm
  exact Lib.indexByte_none h k (by rw [List.getElem?_eq_getElem hk, e])
theorem index_cases (l : List UInt8) (c : UInt8) : (Lib.index l [c] = -1 ∧ c ∉ l) ∨ ∃ p q, Lib.index l [c] = p.length ∧ l = p ++ c :: q ∧ c ∉ p := by
  rw [Lib.index_one]
  have hg := Lib.indexByte_ge l c
  by_cases h : Lib.indexByte l c = -1
  · exact .inl ⟨h, none_of h⟩
  · obtain ⟨i, hi⟩ : ∃ i : Nat, Lib.indexByte l c = i := ⟨(Lib.indexByte l c).toNat, by omega⟩
    obtain ⟨p, q, e, hp, hl⟩ := first_of hi
    exact .inr ⟨p, q, by rw [hi, hl], e, hp⟩
theorem split_eq (c : UInt8) (n : Nat) : ∀ s : ByteArray, s.size ≤ n → Lib.splitB ⟨#[c]⟩ 0 (Lib.countB s ⟨#[c]⟩) s = (splitL c s.data.toList).map mk := by
  induction n with
  | zero =>
    intro s hs
    have h0 : s.data.toList = [] := List.eq_nil_of_length_eq_zero (by rw [← Lib.size_eq]; omega)
    rcases index_cases s.data.toList c with ⟨h, hn⟩ | ⟨p, q, h, e, hp⟩
    · rw [Lib.countB_miss s _ h, Lib.splitB_zero, splitL_none hn]; rfl
    · rw [h0] at e; cases p <;> cases e
  | succ n ih =>
    intro s hs
    rcases index_cases s.data.toList c with ⟨h, hn⟩ | ⟨p, q, h, e, hp⟩
    · rw [Lib.countB_miss s _ h, Lib.splitB_zero, splitL_none hn]; rfl
    · have hl : s.size = p.length + 1 + q.length := by rw [Lib.size_eq, e]; simp; omega
      have h1 : s.extract (p.length + (⟨#[c]⟩ : ByteArray).size) s.size = mk q := by
        rw [Lib.Pa.extract_from, e]
        show mk (List.drop (p.length + 1) (p ++ c :: q)) = _
        simp
      have h2 : s.extract 0 (p.length + 0) = mk p := by
        rw [Lib.Pa.extract_upto, e]
        show mk (List.take (p.length + 0) (p ++ c :: q)) = _
        simp
      rw [Lib.countB_hit s ⟨#[c]⟩ p.length (Nat.le_refl 1) h, Nat.add_comm 1, Lib.splitB_hit ⟨#[c]⟩ 0 _ s p.length h, h1, h2, ih (mk q) (by rw [size_mk]; omega), e, splitL_hit q hp]
      rfl
theorem Split_tells (s : ByteArray) (c : UInt8) (hs : s.size < 4294967281) : strings_Split.f s ⟨#[c]⟩ = some ((splitL c s.data.toList).map mk) := by
  unfold strings_Split.f
  rw [if_pos ⟨hs, Nat.le_refl 1⟩, split_eq c s.size s (Nat.le_refl _)]
theorem Cut_hit (s : ByteArray) (c : UInt8) (p q : List UInt8) (hs : s.size < 4294967281) (e : s.data.toList = p ++ c :: q) (hp : c ∉ p) : strings_Cut.f s ⟨#[c]⟩ = some (mk p, mk q, true) := by
  unfold strings_Cut.f
  rw [if_pos hs]
  have hi : Lib.index s.data.toList [c] = p.length := by
    rcases index_cases s.data.toList c with ⟨h, hn⟩ | ⟨p', q', h, e', hp'⟩
    · exact absurd (by rw [e]; simp) hn
    · rw [h]
      have := splitL_hit q hp
      rw [← e, e', splitL_hit q' hp'] at this
      injection this with h1 _
      rw [h1]
  have hc : Lib.cut s.data.toList (⟨#[c]⟩ : ByteArray).data.toList = (p, q, true) := by
    show Lib.cut s.data.toList [c] = _
    unfold Lib.cut
    rw [hi, if_pos (by omega), Int.toNat_natCast, e]
    simp
  rw [hc]
  rfl
theorem Cut_miss (s : ByteArray) (c : UInt8) (hs : s.size < 4294967281) (h : c ∉ s.data.toList) : strings_Cut.f s ⟨#[c]⟩ = some (s, mk [], false) := by
  unfold strings_Cut.f
  rw [if_pos hs]
  have hi : Lib.index s.data.toList [c] = -1 := by
    rcases index_cases s.data.toList c with ⟨h, _⟩ | ⟨p', q', _, e', _⟩
    · exact h
    · exact absurd (by rw [e']; simp) h
  have hc : Lib.cut s.data.toList (⟨#[c]⟩ : ByteArray).data.toList = (s.data.toList, [], false) := by
    show Lib.cut s.data.toList [c] = _
    unfold Lib.cut
    rw [hi, if_neg (by omega)]
  rw [hc]
  rfl
/-- A text with a byte c, or without. -/
theorem cases_at (l : List UInt8) (c : UInt8) : c ∉ l ∨ ∃ p q, l = p ++ c :: q ∧ c ∉ p := by
  rcases index_cases l c with ⟨_, h⟩ | ⟨p, q, _, e, h⟩
  · exact .inl h
  · exact .inr ⟨p, q, e, h⟩
end Go.Proofs.YtaaiamfolbcchaaDoor.Pure

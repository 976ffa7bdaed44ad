/- Contracts of package strings in the print's form: IndexByte, Cut, Split, Join. -/
import Derived.Test.YtaaiamfolbcchaaDoorExtA
import Derived.Shelf.Strings.Split
import Derived.Shelf.Strings.OnBuilder
namespace Go.Proofs.YtaaiamfolbcchaaDoor.Ext
set_option linter.unusedVariables false
set_option linter.unusedSimpArgs false
open Go.RowKit Go.Proofs.YtaaiamfolbcchaaDoorW.PrintWords Go.Proofs.YtaaiamfolbcchaaDoorW.PrintLast

theorem Laid.maxLen {l : List Tb} {w : World} (h : Laid l w) (ht : Tb.maxLen ∈ l) : ∃ m, w.cell? ⟨Tb.g .maxLen, 0, none⟩ = some (.int .i64 m) := by
  obtain ⟨cs, ty, f, e, m, k⟩ := h _ ht
  refine ⟨m, ?_⟩
  unfold World.cell?
  simp only [e, Option.isSome_none, Bool.false_eq_true, if_false]
  simpa using k

def strings_IndexByte.f (s : ByteArray) (c : Int) : Option Int := some (Lib.indexByte s.data.toList c.toNat.toUInt8)
theorem strings_IndexByte.calls (s : ByteArray) (c r : Int) (w : World) (h : strings_IndexByte.f s c = some r) :
    Calls Tryd.prog 118 #[.string s, .int .u8 c] w fun e w' => e = .returned (.int .i64 r) ∧ Drawn0 w w' := by
  obtain rfl := Option.some.inj h
  refine (Tryd.strings_IndexByte s c w).mono ?_
  rintro e w' ⟨rfl, rfl⟩
  exact ⟨rfl, Drawn0.refl _⟩

def strings_Cut.f (s sep : ByteArray) : Option (ByteArray × ByteArray × Bool) :=
  if s.size < 4294967281 then some (⟨(Lib.cut s.data.toList sep.data.toList).1.toArray⟩, ⟨(Lib.cut s.data.toList sep.data.toList).2.1.toArray⟩, (Lib.cut s.data.toList sep.data.toList).2.2) else none
theorem strings_Cut.calls (s sep r1 r2 : ByteArray) (r3 : Bool) (w : World) (hL : Laid [Tb.maxLen] w) (h : strings_Cut.f s sep = some (r1, r2, r3)) :
    Calls Tryd.prog 80 #[.string s, .string sep] w fun e w' => e = .returned (.tuple #[.string r1, .string r2, .bool r3]) ∧ Below w.heap.size w w' := by
  unfold strings_Cut.f at h
  by_cases hb : s.size < 4294967281
  · rw [if_pos hb] at h
    simp only [Option.some.injEq, Prod.mk.injEq] at h
    obtain ⟨rfl, rfl, rfl⟩ := h
    obtain ⟨m, hm⟩ := hL.maxLen (by simp)
    refine (Tryd.strings_Cut s sep m w hb hm).mono ?_
    rintro e w' ⟨rfl, n, rfl⟩
    exact ⟨rfl, pw_below_drewN (Below.refl _ _) n⟩
  · rw [if_neg hb] at h
    exact absurd h (by simp)

theorem split_length (sep : ByteArray) (h1 : 1 ≤ sep.size) (n : Nat) : ∀ s : ByteArray, s.size ≤ n → (Lib.splitB sep 0 (Lib.countB s sep) s).length = Lib.countB s sep + 1 := by
  induction n with
  | zero =>
    intro s hs
    rcases Lib.indexB_cases s sep with h | ⟨i, h, hi⟩
    · rw [Lib.countB_miss s sep h]; rfl
    · omega
  | succ n ih =>
    intro s hs
    rcases Lib.indexB_cases s sep with h | ⟨i, h, hi⟩
    · rw [Lib.countB_miss s sep h]; rfl
    · rw [Lib.countB_hit s sep i h1 h, Nat.add_comm 1, Lib.splitB_hit sep 0 _ s i h, List.length_cons, ih _ (by rw [ByteArray.size_extract]; omega)]
def strings_Split.f (s sep : ByteArray) : Option (List ByteArray) :=
  if s.size < 4294967281 ∧ 1 ≤ sep.size then some (Lib.splitB sep 0 (Lib.countB s sep) s) else none
/-- A row of texts that was just laid. -/
theorem R_strs (w : World) (xs : List ByteArray) (e n : Nat) (hn : n = xs.length) (hm : xs.length ≤ maxLen) :
    Kd.R Kd.string e (w.alloc (.cells (xs.map Value.string).toArray e)) w.heap.size (fun _ => True) (.slice (some ⟨w.heap.size, 0, none⟩) n n) xs := by
  subst hn
  refine Kd.R_of_own ⟨by simp [encs], .inr ⟨w.heap.size, xs.length, (xs.map Value.string).toArray, rfl, Nat.le_refl _, ?_, Nat.le_refl _, hm, by simp, ?_⟩⟩ (fun _ _ => trivial)
  · show (w.heap.push _)[w.heap.size]? = _
    simp
  · simp only [encs, Nat.mul_one, List.toList_toArray]
    exact List.take_of_length_le (by simp)
theorem strings_Split.calls (s sep : ByteArray) (r : List ByteArray) (w : World) (hL : Laid [Tb.maxLen] w) (h : strings_Split.f s sep = some r) :
    Calls Tryd.prog 79 #[.string s, .string sep] w fun e w' => ∃ v0_ : Value, e = .returned (v0_) ∧ Kd.R Kd.string 9 w' w.heap.size (fun _ => True) v0_ r ∧ Below w.heap.size w w' := by
  unfold strings_Split.f at h
  by_cases hb : s.size < 4294967281 ∧ 1 ≤ sep.size
  · rw [if_pos hb] at h
    obtain rfl := Option.some.inj h
    obtain ⟨m, hm⟩ := hL.maxLen (by simp)
    refine (Tryd.strings_Split s sep m w hb.1 hm hb.2).mono ?_
    rintro e w' ⟨rfl, rfl⟩
    refine ⟨_, rfl, R_strs w _ 9 _ (split_length sep hb.2 s.size s (Nat.le_refl _)).symm ?_, below_alloc (Below.refl _ _) _⟩
    rw [split_length sep hb.2 s.size s (Nat.le_refl _)]
    have := Lib.count_le s.data.toList sep.data.toList
    have h2 : s.data.toList.length = s.size := (Lib.size_eq s).symm
    unfold maxLen
    show Lib.count _ _ + 1 ≤ _
    omega
  · rw [if_neg hb] at h
    exact absurd h (by simp)
end Go.Proofs.YtaaiamfolbcchaaDoor.Ext

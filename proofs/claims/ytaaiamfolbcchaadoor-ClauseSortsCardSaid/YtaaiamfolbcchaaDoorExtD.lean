/- The contract of strings.Join in the print's form. -/
import Derived.Test.YtaaiamfolbcchaaDoorExtB
namespace Go.Proofs.YtaaiamfolbcchaaDoor.Ext
set_option linter.unusedVariables false
set_option linter.unusedSimpArgs false
open Go.RowKit Go.Proofs.YtaaiamfolbcchaaDoorW.PrintWords Go.Proofs.YtaaiamfolbcchaaDoorW.PrintLast

def joinB (l : List ByteArray) (sep : ByteArray) : List UInt8 := Lib.join (l.map (·.data.toList)) sep.data.toList
def strings_Join.f (l : List ByteArray) (sep : ByteArray) : Option ByteArray :=
  if l.length ≤ 140737488355328 ∧ (joinB l sep).length ≤ 140737488355328 then some ⟨(joinB l sep).toArray⟩ else none
theorem strings_Join.calls (A0 : Option Addr) (c0 : Nat) (l0 : List ByteArray) (a1 r : ByteArray) (w : World) (hr0 : Kd.C Kd.string w A0 l0.length l0) (hc0 : l0.length ≤ c0) (h : strings_Join.f l0 a1 = some r) :
    Calls Tryd.prog 85 #[.slice A0 l0.length c0, .string a1] w fun e w' => e = .returned (.string r) ∧ Below w.heap.size w w' := by
  unfold strings_Join.f at h
  by_cases hb : l0.length ≤ 140737488355328 ∧ (joinB l0 a1).length ≤ 140737488355328
  · rw [if_pos hb] at h
    obtain rfl := Option.some.inj h
    cases l0 with
    | nil =>
      refine (Tryd.strings_Join_none A0 c0 a1 w).mono ?_
      rintro e w' ⟨rfl, rfl⟩
      exact ⟨rfl, Below.refl _ _⟩
    | cons x0 xs =>
      obtain ⟨_, _, hcell0⟩ := Kd.reads_of_C (enc := Value.string) (d := ByteArray.empty) (h1 := fun _ => rfl) hr0
      obtain ⟨⟨bk, o, sp⟩, rfl, hcell⟩ := hcell0 (by simp)
      have hz := hcell 0 (by simp)
      rw [show (⟨bk, o, sp⟩ : Addr).add 0 = ⟨bk, o, sp⟩ from if_pos rfl] at hz
      have hsp : sp = none := by
        cases sp with
        | none => rfl
        | some s =>
          unfold World.cell? at hz
          split at hz <;> simp at hz
      subst hsp
      have hbk : bk < w.heap.size := by
        by_cases hlt : bk < w.heap.size
        · exact hlt
        · unfold World.cell? at hz
          simp only [Array.getElem?_eq_none (Nat.le_of_not_lt hlt)] at hz
          cases hz
      refine (Tryd.strings_Join bk o c0 (x0 :: xs) a1 w (fun j x hx => ?_) hbk hb.1 hc0 hb.2).mono ?_
      · obtain ⟨hj, he⟩ := List.getElem?_eq_some_iff.1 hx
        have := hcell j hj
        rw [List.getD_eq_getElem?_getD, hx] at this
        rw [show (⟨bk, o + j, none⟩ : Addr) = (⟨bk, o, none⟩ : Addr).add j by unfold Addr.add; split <;> simp_all]
        exact this
      · rintro e w' ⟨rfl, hbl⟩
        exact ⟨rfl, hbl⟩
  · rw [if_neg hb] at h
    exact absurd h (by simp)
end Go.Proofs.YtaaiamfolbcchaaDoor.Ext

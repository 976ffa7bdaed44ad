/- The contract of word.Number, which asks Go's own ParseInt. -/
import Derived.Test.YtaaiamfolbcchaaDoorExtB
import Derived.Test.YtaaiamfolbcchaaDoorY01
import Derived.Lib.AtoiErrMem
import Derived.Shelf.Strconv.ErrVarParseInt
namespace Go.Proofs.YtaaiamfolbcchaaDoor.Ext
set_option linter.unusedVariables false
set_option linter.unusedSimpArgs false
open Go.RowKit Go.Proofs.YtaaiamfolbcchaaDoorW.PrintWords Go.Proofs.YtaaiamfolbcchaaDoorW.PrintLast Go.Proofs.YtaaiamfolbcchaaDoor.Y0

theorem Laid.errS {l : List Tb} {w : World} (h : Laid l w) (ht : Tb.errS ∈ l) : ∃ t v, w.cell? ⟨Tb.g .errS, 0, none⟩ = some (.iface t v) := by
  obtain ⟨cs, ty, f, e, t, v, k⟩ := h _ ht
  refine ⟨t, v, ?_⟩
  unfold World.cell?
  simp only [e, Option.isSome_none, Bool.false_eq_true, if_false]
  rw [← Array.getElem?_toList, k]
  rfl
theorem Laid.errR {l : List Tb} {w : World} (h : Laid l w) (ht : Tb.errR ∈ l) : ∃ t v, w.cell? ⟨Tb.g .errR, 0, none⟩ = some (.iface t v) := by
  obtain ⟨cs, ty, f, e, t, v, k⟩ := h _ ht
  refine ⟨t, v, ?_⟩
  unfold World.cell?
  simp only [e, Option.isSome_none, Bool.false_eq_true, if_false]
  rw [← Array.getElem?_toList, k]
  rfl
/-- strconv.ParseInt(s, 10, 64), an error told by a mark alone. -/
theorem parse_ok (s : ByteArray) (v : Int) (hs : s.size ≤ 281474976710656) (h : Lib.parseIntB 64 s.data.toList = .ok v) (w : World) :
    Calls Tryd.prog 83 #[.string s, .int .i64 10, .int .i64 64] w fun e w' => e = .returned (.tuple #[.int .i64 v, .nilIface]) ∧ Below w.heap.size w w' := by
  refine (Tryd.strconv_ParseInt_10_at64_ok s (by omega) v h w).mono ?_
  rintro e w' ⟨rfl, rfl | ⟨t, rfl⟩⟩
  · exact ⟨rfl, Below.refl _ _⟩
  · exact ⟨rfl, Lib.bytesWorld_below w _ t⟩
theorem parse_bad (s : ByteArray) (hs : s.size ≤ 281474976710656) (h : ∀ v, Lib.parseIntB 64 s.data.toList ≠ .ok v) (w : World) (hL : Laid [Tb.errS, Tb.errR] w) :
    Calls Tryd.prog 83 #[.string s, .int .i64 10, .int .i64 64] w fun e w' => ∃ n t p, e = .returned (.tuple #[.int .i64 n, .iface t p]) ∧ Below w.heap.size w w' := by
  cases hp : Lib.parseIntB 64 s.data.toList with
  | ok v => exact absurd hp (h v)
  | «syntax» =>
    obtain ⟨t, v, hv⟩ := hL.errS (by simp)
    refine (Tryd.strconv_ParseInt_10_at64_syntax s hs hp _ w hv (.inr ⟨_, _, rfl⟩)).mono ?_
    rintro e w' ⟨N, rfl, _, _, hb⟩
    exact ⟨_, _, _, rfl, hb⟩
  | range =>
    obtain ⟨t, v, hv⟩ := hL.errR (by simp)
    refine (Tryd.strconv_ParseInt_10_at64_range s hs hp _ w hv (.inr ⟨_, _, rfl⟩)).mono ?_
    rintro e w' ⟨N, rfl, _, _, hb⟩
    exact ⟨_, _, _, rfl, hb⟩
/-- What a text of digits spells: its number, or none that an int holds. -/
def parsed (s : ByteArray) : Option Int := match Lib.parseIntB 64 s.data.toList with | .ok v => some v | _ => none
def word_Number.f (k : Nat) (s : ByteArray) (most : Int) : Option (Int × Int) :=
  (word_decimal.f k s).bind fun d => if d = true then (if s.size ≤ 281474976710656 then some (if (parsed s).all (fun v => decide (most < v)) then (0, 4) else ((parsed s).getD 0, 0)) else none) else some (0, 7)
theorem word_Number.mono : ∀ a0 a1 k, LeO (word_Number.f k a0 a1) (word_Number.f (k + 1) a0 a1) := fun a0 a1 k =>
  LeO.bind (word_decimal.mono a0 k) (fun _ => LeO.refl _)
set_option maxHeartbeats 1000000 in
set_option maxRecDepth 100000 in
theorem word_Number.calls (k : Nat) (a0 : ByteArray) (a1 r1 r2 : Int) (w : World) (hL : Laid [Tb.errS, Tb.errR] w) (h : word_Number.f k a0 a1 = some (r1, r2)) :
    Calls Tryd.prog 39 #[.string a0, .int .i64 a1] w fun e w' => e = .returned (.tuple #[.int .i64 r1, .int .i64 r2]) ∧ Below w.heap.size w w' := by
  unfold word_Number.f at h
  obtain ⟨d, hd, h⟩ := Option.bind_eq_some_iff.1 h
  have A := Aside0.mk hd
  clear hd
  cases d with
  | false =>
    simp only [Bool.false_eq_true, if_false, Option.some.injEq, Prod.mk.injEq] at h
    obtain ⟨rfl, rfl⟩ := h
    go_enter Tryd.func39, Tryd.ntmps39
    go_wp2_with (go_at_call 82; refine (word_decimal.calls k a0 false _ A.out).mono ?_; rintro e w' ⟨rfl, ⟨n, rfl⟩⟩)
    go_ret2
    exact ⟨rfl, pw_below_drewN (Below.refl _ _) _⟩
  | true =>
    simp only [if_true] at h
    by_cases hs : a0.size ≤ 281474976710656
    case neg => rw [if_neg hs] at h; exact absurd h (by simp)
    rw [if_pos hs] at h
    have HL := Aside0.mk hL
    clear hL
    by_cases hp : ∃ v, Lib.parseIntB 64 a0.data.toList = .ok v
    · obtain ⟨v, hv⟩ := hp
      have hpar : parsed a0 = some v := by unfold parsed; rw [hv]
      have HV := Aside0.mk hv
      clear hv
      rw [hpar] at h
      simp only [Option.all_some, decide_eq_true_eq, Option.getD_some, Option.some.injEq] at h
      have HS := Aside0.mk hs
      clear hs hpar
      by_cases hm : a1 < v
      · rw [if_pos hm] at h
        simp only [Prod.mk.injEq] at h
        obtain ⟨rfl, rfl⟩ := h
        go_enter Tryd.func39, Tryd.ntmps39
        go_wp2_with (first
          | (go_at_call 82; refine (word_decimal.calls k a0 true _ A.out).mono ?_; rintro e w' ⟨rfl, ⟨n, rfl⟩⟩)
          | (go_at_call 83; refine (parse_ok a0 v HS.out HV.out _).mono ?_; rintro e w1 ⟨rfl, hb⟩; have HB := Aside0.mk hb; clear hb))
        go_ret2
        exact ⟨rfl, below_step (pw_below_drewN (Below.refl _ _) _) HB.out⟩
      · rw [if_neg hm] at h
        simp only [Prod.mk.injEq] at h
        obtain ⟨rfl, rfl⟩ := h
        go_enter Tryd.func39, Tryd.ntmps39
        go_wp2_with (first
          | (go_at_call 82; refine (word_decimal.calls k a0 true _ A.out).mono ?_; rintro e w' ⟨rfl, ⟨n, rfl⟩⟩)
          | (go_at_call 83; refine (parse_ok a0 _ HS.out HV.out _).mono ?_; rintro e w1 ⟨rfl, hb⟩; have HB := Aside0.mk hb; clear hb))
        go_ret2
        exact ⟨rfl, below_step (pw_below_drewN (Below.refl _ _) _) HB.out⟩
    · have hno : ∀ v, Lib.parseIntB 64 a0.data.toList ≠ .ok v := fun v e => hp ⟨v, e⟩
      have hpar : parsed a0 = none := by
        unfold parsed
        split
        · rename_i v e; exact absurd e (hno v)
        · rfl
      rw [hpar] at h
      simp only [Option.all_none, if_true, Option.some.injEq, Prod.mk.injEq] at h
      obtain ⟨rfl, rfl⟩ := h
      have HS := Aside0.mk hs
      have HN := Aside0.mk hno
      clear hs hpar hno hp
      go_enter Tryd.func39, Tryd.ntmps39
      go_wp2_with (first
        | (go_at_call 82; refine (word_decimal.calls k a0 true _ A.out).mono ?_; rintro e w' ⟨rfl, ⟨n, rfl⟩⟩)
        | (go_at_call 83; refine (parse_bad a0 HS.out HN.out _ (Laid.below HL.out (pw_below_drewN (Below.refl _ _) _))).mono ?_; rintro e w1 ⟨n1, t1, p1, rfl, hb⟩; have HB := Aside0.mk hb; clear hb))
      go_ret2
      exact ⟨rfl, below_step (pw_below_drewN (Below.refl _ _) _) HB.out⟩
end Go.Proofs.YtaaiamfolbcchaaDoor.Ext

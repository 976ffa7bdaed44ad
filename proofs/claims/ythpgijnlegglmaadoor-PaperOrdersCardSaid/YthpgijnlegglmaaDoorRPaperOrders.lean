/- The law PaperOrders holds of every input: its row (the listed variables lie as the program's text lays them), and the card that ties them to the text. -/
import Derived.Test.YthpgijnlegglmaaDoorExtR
import Derived.Test.YthpgijnlegglmaaDoorPPaperO
import Derived.Test.YthpgijnlegglmaaDoorRows
import Derived.Test.YthpgijnlegglmaaDoorCards
import Derived.Test.YthpgijnlegglmaaDoorTie
import Derived.WalkKit
import Derived.ProofKit
import Derived.OpenShut
import Derived.ShutString
import Derived.ChangeOld
import Derived.Below
import Derived.SizedLaws
import Derived.Stop.Joined
import Derived.SevenTiedAt
import Derived.Lib.SmallJoins
import Derived.Test.YthpgijnlegglmaaDoorExtS
namespace Go.Proofs.YthpgijnlegglmaaDoor.paperOrders
open Go.ChangeShapes Go.WideShapes Go.ChangeAt Go.RowKit Go.Joins
open Go.ChangeMaps (open_string shut_string)
set_option linter.unusedVariables false
theorem own : ownKnob Tryd.prog.godebug = none := by kernel_rfl
theorem laidOut : laidOutB Tryd.prog = true := by kernel_rfl
/-- The heap that the program's own initialisers leave meets the row's condition. -/
theorem door_met (os : Os) (args : Array Value) : laidMetH Tryd.prog Rows.paperOrdersRow.laid ((World.doorLaid Tryd.prog 400 os).forCall (fun _ _ => 0) ⟨#[], args, []⟩).memory :=
  laidMetH_of_parts3 (fuel := 8) (laidMet_of_run' 8 (by kernel_rfl) (by kernel_rfl)) (by kernel_rfl) (by kernel_rfl)
theorem tables {W : World} (h : laidMetH Tryd.prog Rows.paperOrdersRow.laid W) (hs : W.ShapedOpen Tryd.prog) : Ext.Laid [Ext.Tb.pow10, Ext.Tb.maxLen, Ext.Tb.errS, Ext.Tb.errR] W := by
  rw [MakeChecks.laidMetH_plain _ _ _ (by kernel_rfl)] at h
  intro t ht
  simp only [List.mem_cons, List.mem_nil_iff, or_false] at ht
  rcases ht with rfl | rfl | rfl | rfl
  · exact Ext.laid_pow10 (Lib.laidMet.reads h (d := Rows.laid_internal_strconv_uint64pow10) (by simp [Rows.paperOrdersRow]))
  · exact Ext.laid_maxLen hs
  · exact Ext.laid_errS (Lib.laidMet.reads h (d := Rows.laid_strconv_ErrSyntax) (by simp [Rows.paperOrdersRow]))
  · exact Ext.laid_errR (Lib.laidMet.reads h (d := Rows.laid_strconv_ErrRange) (by simp [Rows.paperOrdersRow]))
set_option maxRecDepth 100000 in
theorem lifted (os : Os) (started : os.Started) (H : Type) (enc : TypeId × Value → H) :
    ReturnsInHanded {} Tryd.checked os 4 .any (fun w args => (Rows.paperOrdersSpec.pre enc Tryd.prog Tryd.f4 [] false w args ∧ laidMetH Tryd.prog Rows.paperOrdersRow.laid w) ∧ sizedMet enc Tryd.prog Tryd.f4 (OpenSpec.ofChange Rows.paperOrdersSpec) false w args)
      (Rows.paperOrdersSpec.post enc Tryd.prog Tryd.f4 false true false false) := by
  refine Ext.returnsLaid (C := Tryd.checked) (X := fun w _ => laidMetH Tryd.prog Rows.paperOrdersRow.laid w) (fun _ _ _ hh h => h.of_heap hh) own started (by kernel_rfl) Tryd.func4
    (ChangeSpec.witness_shaped (enc := enc) (C := Tryd.checked) (os := os) (X := fun w _ => laidMetH Tryd.prog Rows.paperOrdersRow.laid w) false (World.doorLaid Tryd.prog 400 os) #[.agg #[.int .i64 0, .int .i64 0, .int .i64 0, .int .i64 0, .slice none 0 0], .string ByteArray.empty] 8 rfl (World.shaped_of_RefB (by kernel_rfl) (by kernel_rfl)) (by kernel_rfl) (by kernel_rfl) (by kernel_rfl) (door_met os _)) ?_
  intro W base args ds gs before hval0 hW _ hsz0 hL hsh
  have hT := tables hL hsh
  have hsz : (DataW.weightsEach Tryd.prog (Tryd.f4.params.toList ++ Rows.paperOrdersSpec.plain.varTypes Tryd.prog) (ds ++ gs)).all (· ≤ reachBytes) = true := hsz0
  have hval : ∀ (j : Nat) t v, Tryd.f4.params[j]? = some t → args[j]? = some v → Value.okWide Tryd.prog W .any base t v := hval0
  have hW' := hW
  obtain ⟨p, q, hA0, hV, rfl, hfz, hnd⟩ := hW
  have hA : DataW.TrodAll enc Tryd.prog W 0 (fun _ => true) true Tryd.f4.params.toList args.toList ds p := hA0
  rw [Tryd.params4] at hA hval hsz
  obtain ⟨v0, vs0, d0, ds0, p0, q0, hargs, rfl, rfl, h0, r0⟩ := trodAll_cons hA
  obtain ⟨v1, vs1, d1, ds1, p1, q1, rfl, rfl, rfl, h1, r1⟩ := trodAll_cons r0
  obtain ⟨rfl, rfl, rfl⟩ := trodAll_nil r1
  obtain rfl : args = #[v0, v1] := by cases args; simp_all
  obtain ⟨rfl, rfl⟩ := trodVars_none hV
  have k0 := h0
  have lt0 : ∀ x ∈ p0, x.block < W.heap.size := by obtain ⟨m, hm⟩ := k0; exact DataW.trod_lt m _ _ _ hm
  obtain ⟨cs0, rfl, hz0⟩ := okWide_struct Tryd.underlying35 (hval 0 35 v0 rfl rfl)
  obtain ⟨li0⟩ := cs0
  obtain ⟨x0_0, x0_1, x0_2, x0_3, x0_4, rfl⟩ : ∃ x0_0 x0_1 x0_2 x0_3 x0_4, li0 = [x0_0, x0_1, x0_2, x0_3, x0_4] := by
    match li0, (show li0.length = 5 from hz0.trans (by kernel_rfl)) with
    | [x0_0, x0_1, x0_2, x0_3, x0_4], _ => exact ⟨_, _, _, _, _, rfl⟩
  obtain ⟨fu0, g0⟩ := h0
  obtain ⟨n0_0, y0_0, g0_0⟩ := Ext.fld Tryd.underlying35 g0 0 _ rfl 1 (by kernel_rfl)
  obtain ⟨a0_0, e0_0, _, w0_0⟩ := DataW.trod_int Tryd.underlying3 g0_0
  replace e0_0 : [x0_0] = [Value.int .i64 a0_0] := e0_0
  obtain rfl := List.head_eq_of_cons_eq e0_0
  obtain ⟨n0_1, y0_1, g0_1⟩ := Ext.fld Tryd.underlying35 g0 1 _ rfl 1 (by kernel_rfl)
  obtain ⟨a0_1, e0_1, _, w0_1⟩ := DataW.trod_int Tryd.underlying3 g0_1
  replace e0_1 : [x0_1] = [Value.int .i64 a0_1] := e0_1
  obtain rfl := List.head_eq_of_cons_eq e0_1
  obtain ⟨n0_2, y0_2, g0_2⟩ := Ext.fld Tryd.underlying35 g0 2 _ rfl 1 (by kernel_rfl)
  obtain ⟨a0_2, e0_2, _, w0_2⟩ := DataW.trod_int Tryd.underlying3 g0_2
  replace e0_2 : [x0_2] = [Value.int .i64 a0_2] := e0_2
  obtain rfl := List.head_eq_of_cons_eq e0_2
  obtain ⟨n0_3, y0_3, g0_3⟩ := Ext.fld Tryd.underlying35 g0 3 _ rfl 1 (by kernel_rfl)
  obtain ⟨a0_3, e0_3, _, w0_3⟩ := DataW.trod_int Tryd.underlying3 g0_3
  replace e0_3 : [x0_3] = [Value.int .i64 a0_3] := e0_3
  obtain rfl := List.head_eq_of_cons_eq e0_3
  obtain ⟨n0_4, y0_4, g0_4⟩ := Ext.fld Tryd.underlying35 g0 4 _ rfl 1 (by kernel_rfl)
  obtain ⟨A0_4, cap0_4, l0_4, e0_4, hc0_4, hr0_4, hn0_4, hy0_4⟩ := Ext.read23 g0_4
  replace e0_4 : [x0_4] = [Value.slice A0_4 l0_4.length cap0_4] := e0_4
  obtain rfl := List.head_eq_of_cons_eq e0_4
  obtain ⟨a1, rfl, rfl, rfl, y1⟩ := open_string Tryd.underlying9 (hval 1 9 v1 rfl rfl) h1
  have w1 : a1.size ≤ 140737488351232 := by
    have z := sized_string hsz (j := 1) (t := 9) rfl rfl
    rw [Array.length_toList] at z
    exact z
  clear hA0 hval0 hsz0 hsz
  obtain ⟨k, h⟩ := Pure.PaperOrders a0_0 a0_1 a0_2 a0_3 l0_4 a1 w0_0 w0_1 w0_2 w0_3 hn0_4 hy0_4 w1
  refine (X6.haulierlaw31_PaperOrders.calls k a0_0 a0_1 a0_2 a0_3 _ _ l0_4 a1 true rfl W (Ext.Laid.sub (by decide) hT) hr0_4 hc0_4 h).mono ?_
  rintro e W' ⟨he, bel⟩
  subst he
  exact ⟨_, rfl, _, _, _, [], _, [], hW', trodAll_mk1 (shut_bool Tryd.underlying4 _), (trodAll_cons_mk (Below.trod laidOut (by kernel_rfl) (of_decide_eq_true (by kernel_rfl)) k0 bel lt0) (trodAll_cons_mk (shut_string Tryd.underlying9 y1) trodAll_mk0)), rfl, bel.frame _, fun h => by cases h⟩
theorem over : Rows.paperOrdersRow.holds Tryd.pinned (OpenSpec.ofChange Rows.paperOrdersSpec) :=
  OpenClaim.holds_of_wide 4 Tryd.f4 rfl rfl rfl rfl rfl rfl rfl ⟨rfl, rfl, rfl, rfl, rfl⟩ rfl rfl rfl rfl rfl (by kernel_rfl) Tryd.func4 (by kernel_rfl)
    (of_decide_eq_true (by kernel_rfl)) (by unfold Func.isWrapper; first | (rw [if_pos (by decide +kernel)]; kernel_rfl) | (rw [if_neg (by decide +kernel)]; exact ⟨rfl, rfl⟩))
    (fun os started H enc _ => lifted os started H enc)
end Go.Proofs.YthpgijnlegglmaaDoor.paperOrders
namespace Go.Proofs.YthpgijnlegglmaaDoor
open Go
theorem paperOrders_holds : Rows.PaperOrdersSaid := paperOrders.over
/-- The tied card. -/
theorem paperOrders_card : Rows.PaperOrdersCardSaid :=
  Claim7.holds_tied_plain_at .later [] [.data, .data, .data, .sentinel, .sentinel] true (true, "09edfb2789f7b0be10ed6482eeba4978dc6ce0e3b4d7fd7be32b04e4e0f4e347") true
    paperOrders_holds (fun _ h => by cases h) (by kernel_rfl) (fun _ h => by cases h) paperOrders_row_tie rfl ⟨rfl, rfl⟩ (by kernel_rfl) rfl
    (fun f fn hf hfn => by
      obtain rfl : f = 4 := Option.some.inj ((show Tryd.prog.funcNamed Rows.paperOrdersRow.func = some 4 by kernel_rfl).symm.trans hf) |>.symm
      obtain rfl : fn = Tryd.f4 := (Option.some.inj (Tryd.func4.symm.trans hfn)).symm
      exact ⟨by kernel_rfl, fun j t ht => by
        rw [Tryd.params4] at ht
        have hm : t ∈ [35, 9] := by simpa using Array.mem_of_getElem? ht
        have hall : ([35, 9].all fun u => !Tryd.prog.wantsStandIn u) = true := by kernel_rfl
        exact (show Tryd.prog.wantsStandIn t = false by simpa using List.all_eq_true.1 hall t hm)⟩)
    (by kernel_rfl)
#print axioms paperOrders_card
end Go.Proofs.YthpgijnlegglmaaDoor

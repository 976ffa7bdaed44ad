/- The law PaperCut holds of every input: its row (the listed variables lie as the program's text lays them), and the card that ties them to the text. -/
import Derived.Test.YtieenbjncimikaaGreatDoorBVD
import Derived.Test.YtieenbjncimikaaGreatDoorBAmRow
import Derived.Test.YtieenbjncimikaaGreatDoorBPrm
import Derived.Test.YtieenbjncimikaaGreatDoorRows
import Derived.Test.YtieenbjncimikaaGreatDoorCards
import Derived.Test.YtieenbjncimikaaGreatDoorTie
import Derived.Lay
namespace Go.Proofs.YtieenbjncimikaaGreatDoor.paperCut
open Go.ChangeShapes Go.WideShapes Go.ChangeAt Go.RowKit Go.Joins Go.AM
set_option linter.unusedVariables false
theorem own : ownKnob Tryz.prog.godebug = none := by kernel_rfl
theorem laidOut : laidOutB Tryz.prog = true := by kernel_rfl
/-- A heap in which each listed variable is laid meets the row's condition. -/
theorem door_met (os : Os) (args : Array Value) : laidMetH Tryz.prog Rows.paperCutRow.laid ((World.laidAll Tryz.prog os Rows.paperCutRow.laid).forCall (fun _ _ => 0) ⟨#[], args, []⟩).memory := by
  rw [MakeChecks.laidMetH_plain _ _ _ (by kernel_rfl)]; exact laidMet_laidAll _ (by kernel_rfl) (by kernel_rfl)
theorem tables {W : World} (h : laidMetH Tryz.prog Rows.paperCutRow.laid W) (hs : W.ShapedOpen Tryz.prog) : GlobOk ZD.cx (sg0 W) W := by
  rw [MakeChecks.laidMetH_plain _ _ _ (by kernel_rfl)] at h
  refine ⟨fun g cs hg => by simp [ZD.cx] at hg, fun p hp => ?_⟩
  simp only [ZD.cx, List.mem_cons, List.mem_nil_iff, or_false] at hp
  rcases hp with rfl | rfl | rfl | rfl
  · exact tab_laid (laid_block (name := "internal/strconv.uint64pow10") (by kernel_rfl) (by kernel_rfl) (Lib.laidMet.reads h (d := Rows.laid_internal_strconv_uint64pow10) (by simp [Rows.paperCutRow])) fun cs fuel p hd => Lib.cells_of_tab (zs := Lib.pow10Tab) (n := 20) (e := 240) Tryz.underlying260 Tryz.underlying240 (by kernel_rfl) (by kernel_rfl) hd)
  · exact tab_laid (shaped_int (t := 3) hs (cell_of_shapedOpen_int (g := 0) (t := 3) (zero := #[.int .i64 0]) (k := .i64) hs (of_decide_eq_true (by kernel_rfl)) (by kernel_rfl) rfl (by kernel_rfl) (by kernel_rfl) Tryz.underlying3))
  · exact tab_laid (laid_block (name := "strconv.ErrSyntax") (ty := 106) (by kernel_rfl) (by kernel_rfl) (Lib.laidMet.reads h (d := Rows.laid_strconv_ErrSyntax) (by simp [Rows.paperCutRow])) fun cs fuel p hd => iface_cells Tryz.underlying106 hd)
  · exact tab_laid (laid_block (name := "strconv.ErrRange") (ty := 106) (by kernel_rfl) (by kernel_rfl) (Lib.laidMet.reads h (d := Rows.laid_strconv_ErrRange) (by simp [Rows.paperCutRow])) fun cs fuel p hd => iface_cells Tryz.underlying106 hd)
set_option maxRecDepth 100000 in
theorem lifted (os : Os) (started : os.Started) (H : Type) (enc : TypeId × Value → H) :
    ReturnsInHanded {} Tryz.checked os 7 .any (fun w args => (Rows.paperCutSpec.pre enc Tryz.prog Tryz.f7 [] false w args ∧ laidMetH Tryz.prog Rows.paperCutRow.laid w) ∧ sizedMet enc Tryz.prog Tryz.f7 (OpenSpec.ofChange Rows.paperCutSpec) false w args)
      (Rows.paperCutSpec.post enc Tryz.prog Tryz.f7 false true false false) := by
  refine Go.AM.returnsLaid (C := Tryz.checked) (X := fun w _ => laidMetH Tryz.prog Rows.paperCutRow.laid w) (fun _ _ _ hh h => h.of_heap hh) own started (by kernel_rfl) Tryz.func7
    (ChangeSpec.witness_shaped (enc := enc) (C := Tryz.checked) (os := os) (X := fun w _ => laidMetH Tryz.prog Rows.paperCutRow.laid w) false (World.laidAll Tryz.prog os Rows.paperCutRow.laid) #[.agg #[.int .i64 0, .int .i64 0, .int .i64 0, .int .i64 0, .int .i64 0, .int .i64 0, .int .i64 0, .int .i64 0, .int .i64 0, .int .i64 0, .int .i64 0, .int .i64 0, .int .i64 0, .int .i64 0, .int .i64 0, .int .i64 0, .int .i64 0, .int .i64 0, .int .i64 0, .slice none 0 0, .slice none 0 0, .slice none 0 0], .int .i64 0] 8 (World.laidAll_os _ _ _) (World.shaped_of_ZipB (by kernel_rfl) (by kernel_rfl)) (by kernel_rfl) (by kernel_rfl) (by kernel_rfl) (door_met os _)) ?_
  intro W base args ds gs before hval0 hW _ _ hL hsh
  have hT := tables hL hsh
  have hval : ∀ (j : Nat) t v, Tryz.f7.params[j]? = some t → args[j]? = some v → Value.okWide Tryz.prog W .any base t v := hval0
  have hW' := hW
  obtain ⟨p, q, hA0, hV, rfl, hfz, hnd⟩ := hW
  have hA : DataW.TrodAll enc Tryz.prog W 0 (fun _ => true) true Tryz.f7.params.toList args.toList ds p := hA0
  rw [Tryz.params7] at hA hval
  obtain ⟨v0, vs0, d0, ds0, p0, q0, hargs, rfl, rfl, h0, r0⟩ := trodAll_cons hA
  obtain ⟨v1, vs1, d1, ds1, p1, q1, rfl, rfl, rfl, h1, r1⟩ := trodAll_cons r0
  obtain ⟨rfl, rfl, rfl⟩ := trodAll_nil r1
  obtain rfl : args = #[v0, v1] := by cases args; simp_all
  obtain ⟨rfl, rfl⟩ := trodVars_none hV
  have lt0 : ∀ x ∈ p0, x.block < W.heap.size := by obtain ⟨m, hm⟩ := h0; exact DataW.trod_lt m _ _ _ hm
  obtain ⟨u0, hu0, ht0⟩ := arg_rel (m := 6) (by kernel_rfl) (hval 0 55 v0 rfl rfl) h0
  have lt1 : ∀ x ∈ p1, x.block < W.heap.size := by obtain ⟨m, hm⟩ := h1; exact DataW.trod_lt m _ _ _ hm
  obtain ⟨u1, hu1, ht1⟩ := arg_rel (m := 6) (by kernel_rfl) (hval 1 3 v1 rfl rfl) h1
  obtain ⟨k, h', hk⟩ := ZD.law7 ht0 ht1
  refine (join (xs := #[v0, v1]) ZD.good hk (L2.cons hu0 (L2.cons hu1 L2.nil)) hT).mono ?_
  rintro e W' ⟨rfl, bel⟩
  exact ⟨_, rfl, _, _, _, [], _, [], hW', trodAll_mk1 (shut_bool Tryz.underlying4 _), (trodAll_cons_mk (Below.trod laidOut (by kernel_rfl) (of_decide_eq_true (by kernel_rfl)) h0 bel lt0) (trodAll_cons_mk (Below.trod laidOut (by kernel_rfl) (of_decide_eq_true (by kernel_rfl)) h1 bel lt1) trodAll_mk0)), rfl, bel.frame _, fun h => by cases h⟩
theorem over : Rows.paperCutRow.holds Tryz.pinned (OpenSpec.ofChange Rows.paperCutSpec) :=
  OpenClaim.holds_of_wide 7 Tryz.f7 rfl rfl rfl rfl rfl rfl rfl ⟨rfl, rfl, rfl, rfl, rfl⟩ rfl rfl rfl rfl rfl (by kernel_rfl) Tryz.func7 (by kernel_rfl)
    (of_decide_eq_true (by kernel_rfl)) (by unfold Func.isWrapper; first | (rw [if_pos (by decide +kernel)]; kernel_rfl) | (rw [if_neg (by decide +kernel)]; exact ⟨rfl, rfl⟩))
    (fun os started H enc _ => lifted os started H enc)
end Go.Proofs.YtieenbjncimikaaGreatDoor.paperCut
namespace Go.Proofs.YtieenbjncimikaaGreatDoor
open Go
theorem paperCut_holds : Rows.PaperCutSaid := paperCut.over
/-- The tied card. -/
theorem paperCut_card : Rows.PaperCutCardSaid :=
  Claim7.holds_tied_plain_at .later [] [.data, .data, .data, .data, .sentinel, .sentinel, .pinned] true (true, "0e2f4c609fd2da8ccd43c3d8258189637f5bd006c4c2eb9077246b07506376a6") true
    paperCut_holds (fun _ h => by cases h) (by kernel_rfl) (fun _ h => by cases h) paperCut_row_tie rfl ⟨rfl, rfl⟩ (by kernel_rfl) rfl
    (fun f fn hf hfn => by
      obtain rfl : f = 7 := Option.some.inj ((show Tryz.prog.funcNamed Rows.paperCutRow.func = some 7 by kernel_rfl).symm.trans hf) |>.symm
      obtain rfl : fn = Tryz.f7 := (Option.some.inj (Tryz.func7.symm.trans hfn)).symm
      exact ⟨by kernel_rfl, fun j t ht => by
        rw [Tryz.params7] at ht
        have hm : t ∈ [55, 3] := by simpa using Array.mem_of_getElem? ht
        have hall : ([55, 3].all fun u => !Tryz.prog.wantsStandIn u) = true := by kernel_rfl
        exact (show Tryz.prog.wantsStandIn t = false by simpa using List.all_eq_true.1 hall t hm)⟩)
    (by kernel_rfl)
#print axioms paperCut_card
end Go.Proofs.YtieenbjncimikaaGreatDoor

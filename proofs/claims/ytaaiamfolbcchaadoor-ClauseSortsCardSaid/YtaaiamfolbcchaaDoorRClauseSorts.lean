/- The law ClauseSorts holds of every input: its row (the listed variables lie as the program's text lays them), and the card that ties them to the text. -/
import Derived.Test.YtaaiamfolbcchaaDoorExtR
import Derived.Test.YtaaiamfolbcchaaDoorPClS
import Derived.Test.YtaaiamfolbcchaaDoorRows
import Derived.Test.YtaaiamfolbcchaaDoorCards
import Derived.Test.YtaaiamfolbcchaaDoorTie
import Derived.WalkKit
import Derived.ProofKit
import Derived.OpenShut
import Derived.ShutString
import Derived.ChangeOld
import Derived.Below
import Derived.SizedLaws
import Derived.Stop.Joined
import Derived.SevenTiedAt
import Derived.Lib.SmallJoins
import Derived.Test.YtaaiamfolbcchaaDoorExtS
namespace Go.Proofs.YtaaiamfolbcchaaDoor.clauseSorts
open Go.ChangeShapes Go.WideShapes Go.ChangeAt Go.RowKit Go.Joins
open Go.ChangeMaps (open_string shut_string)
set_option linter.unusedVariables false
theorem own : ownKnob Tryd.prog.godebug = none := by kernel_rfl
theorem laidOut : laidOutB Tryd.prog = true := by kernel_rfl
/-- The heap that the program's own initialisers leave meets the row's condition. -/
theorem door_met (os : Os) (args : Array Value) : laidMetH Tryd.prog Rows.clauseSortsRow.laid ((World.doorLaid Tryd.prog 400 os).forCall (fun _ _ => 0) ⟨#[], args, []⟩).memory :=
  laidMetH_of_parts3 (fuel := 8) (laidMet_of_run' 8 (by kernel_rfl) (by kernel_rfl)) (by kernel_rfl) (by kernel_rfl)
theorem tables {W : World} (h : laidMetH Tryd.prog Rows.clauseSortsRow.laid W) (hs : W.ShapedOpen Tryd.prog) : Ext.Laid [Ext.Tb.pow10, Ext.Tb.names, Ext.Tb.articles] W := by
  rw [MakeChecks.laidMetH_plain _ _ _ (by kernel_rfl)] at h
  intro t ht
  simp only [List.mem_cons, List.mem_nil_iff, or_false] at ht
  rcases ht with rfl | rfl | rfl
  · exact Ext.laid_pow10 (Lib.laidMet.reads h (d := Rows.laid_internal_strconv_uint64pow10) (by simp [Rows.clauseSortsRow]))
  · exact Ext.laid_names (Lib.laidMet.reads h (d := Rows.laid_haulier_clause_names) (by simp [Rows.clauseSortsRow]))
  · exact Ext.laid_articles (Lib.laidMet.reads h (d := Rows.laid_haulier_clause_articles) (by simp [Rows.clauseSortsRow]))
set_option maxRecDepth 100000 in
theorem lifted (os : Os) (started : os.Started) (H : Type) (enc : TypeId × Value → H) :
    ReturnsInHanded {} Tryd.checked os 9 .any (fun w args => (Rows.clauseSortsSpec.pre enc Tryd.prog Tryd.f9 [] false w args ∧ laidMetH Tryd.prog Rows.clauseSortsRow.laid w) ∧ sizedMet enc Tryd.prog Tryd.f9 (OpenSpec.ofChange Rows.clauseSortsSpec) false w args)
      (Rows.clauseSortsSpec.post enc Tryd.prog Tryd.f9 false true false false) := by
  refine Ext.returnsLaid (C := Tryd.checked) (X := fun w _ => laidMetH Tryd.prog Rows.clauseSortsRow.laid w) (fun _ _ _ hh h => h.of_heap hh) own started (by kernel_rfl) Tryd.func9
    (ChangeSpec.witness_shaped (enc := enc) (C := Tryd.checked) (os := os) (X := fun w _ => laidMetH Tryd.prog Rows.clauseSortsRow.laid w) false (World.doorLaid Tryd.prog 400 os) #[.slice none 0 0] 8 rfl (World.shaped_of_RefB (by kernel_rfl) (by kernel_rfl)) (by kernel_rfl) (by kernel_rfl) (by kernel_rfl) (door_met os _)) ?_
  intro W base args ds gs before hval0 hW _ hsz0 hL hsh
  have hT := tables hL hsh
  have hsz : (DataW.weightsEach Tryd.prog (Tryd.f9.params.toList ++ Rows.clauseSortsSpec.plain.varTypes Tryd.prog) (ds ++ gs)).all (· ≤ reachBytes) = true := hsz0
  have hval : ∀ (j : Nat) t v, Tryd.f9.params[j]? = some t → args[j]? = some v → Value.okWide Tryd.prog W .any base t v := hval0
  have hW' := hW
  obtain ⟨p, q, hA0, hV, rfl, hfz, hnd⟩ := hW
  have hA : DataW.TrodAll enc Tryd.prog W 0 (fun _ => true) true Tryd.f9.params.toList args.toList ds p := hA0
  rw [Tryd.params9] at hA hval hsz
  obtain ⟨v0, vs0, d0, ds0, p0, q0, hargs, rfl, rfl, h0, r0⟩ := trodAll_cons hA
  obtain ⟨rfl, rfl, rfl⟩ := trodAll_nil r0
  obtain rfl : args = #[v0] := by cases args; simp_all
  obtain ⟨rfl, rfl⟩ := trodVars_none hV
  have k0 := h0
  have lt0 : ∀ x ∈ p0, x.block < W.heap.size := by obtain ⟨m, hm⟩ := k0; exact DataW.trod_lt m _ _ _ hm
  obtain ⟨B0, len0, ca0, rfl⟩ := okWide_slice Tryd.underlying56 (hval 0 56 v0 rfl rfl)
  obtain ⟨fu0, g0⟩ := h0
  obtain ⟨A0, cap0, l0, e0, hc0, hr0, hn0, hy0⟩ := Ext.read62 g0
  simp only [Value.cells, List.cons.injEq, and_true, Value.slice.injEq] at e0
  obtain ⟨rfl, rfl, rfl⟩ := e0
  clear hA0 hval0 hsz0 hsz
  have key : Calls Tryd.prog 9 #[.slice B0 l0.length ca0] W fun e W' => e = .returned (.bool true) ∧ Below W.heap.size W W' := by
    by_cases hz : 0 < l0.length
    · obtain ⟨k, h⟩ := Pure.ClauseSorts l0 hz
      exact X7.haulierlaw15_ClauseSorts.calls k _ _ l0 true rfl W (Ext.Laid.sub (by decide) hT) hr0 hc0 h
    · obtain rfl : l0 = [] := List.length_eq_zero_iff.1 (Nat.le_zero.1 (Nat.not_lt.1 hz))
      obtain ⟨k, h1, h2, h3⟩ := Pure.none_rounds
      exact Ext.sorts_none k B0 ca0 W (Ext.Laid.sub (by decide) hT) h1 h2 h3
  refine key.mono ?_
  rintro e W' ⟨he, bel⟩
  subst he
  exact ⟨_, rfl, _, _, _, [], _, [], hW', trodAll_mk1 (shut_bool Tryd.underlying4 _), (trodAll_cons_mk (Below.trod laidOut (by kernel_rfl) (of_decide_eq_true (by kernel_rfl)) k0 bel lt0) trodAll_mk0), rfl, bel.frame _, fun h => by cases h⟩
theorem over : Rows.clauseSortsRow.holds Tryd.pinned (OpenSpec.ofChange Rows.clauseSortsSpec) :=
  OpenClaim.holds_of_wide 9 Tryd.f9 rfl rfl rfl rfl rfl rfl rfl ⟨rfl, rfl, rfl, rfl, rfl⟩ rfl rfl rfl rfl rfl (by kernel_rfl) Tryd.func9 (by kernel_rfl)
    (of_decide_eq_true (by kernel_rfl)) (by unfold Func.isWrapper; first | (rw [if_pos (by decide +kernel)]; kernel_rfl) | (rw [if_neg (by decide +kernel)]; exact ⟨rfl, rfl⟩))
    (fun os started H enc _ => lifted os started H enc)
end Go.Proofs.YtaaiamfolbcchaaDoor.clauseSorts
namespace Go.Proofs.YtaaiamfolbcchaaDoor
open Go
theorem clauseSorts_holds : Rows.ClauseSortsSaid := clauseSorts.over
/-- The tied card. -/
theorem clauseSorts_card : Rows.ClauseSortsCardSaid :=
  Claim7.holds_tied_plain_at .later [] [.data, .data, .data, .data, .data] true (true, "e24e93734a5dcdec9eb533fcc512df88ded2262e9fda777b12e1af929dfd4991") true
    clauseSorts_holds (fun _ h => by cases h) (by kernel_rfl) (fun _ h => by cases h) clauseSorts_row_tie rfl ⟨rfl, rfl⟩ (by kernel_rfl) rfl
    (fun f fn hf hfn => by
      obtain rfl : f = 9 := Option.some.inj ((show Tryd.prog.funcNamed Rows.clauseSortsRow.func = some 9 by kernel_rfl).symm.trans hf) |>.symm
      obtain rfl : fn = Tryd.f9 := (Option.some.inj (Tryd.func9.symm.trans hfn)).symm
      exact ⟨by kernel_rfl, fun j t ht => by
        rw [Tryd.params9] at ht
        have hm : t ∈ [56] := by simpa using Array.mem_of_getElem? ht
        have hall : ([56].all fun u => !Tryd.prog.wantsStandIn u) = true := by kernel_rfl
        exact (show Tryd.prog.wantsStandIn t = false by simpa using List.all_eq_true.1 hall t hm)⟩)
    (by kernel_rfl)
#print axioms clauseSorts_card
end Go.Proofs.YtaaiamfolbcchaaDoor

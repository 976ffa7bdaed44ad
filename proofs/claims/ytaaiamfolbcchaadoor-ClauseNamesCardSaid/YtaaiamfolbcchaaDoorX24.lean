/- Contracts of the seat's functions: written by xprint.py for this session. -/
import Derived.Test.YtaaiamfolbcchaaDoorX20
import Derived.Test.YtaaiamfolbcchaaDoorX22
import Derived.Test.YtaaiamfolbcchaaDoorX23
import Derived.Test.YtaaiamfolbcchaaDoorY00
namespace Go.Proofs.YtaaiamfolbcchaaDoor.X2
open Go.RowKit Go.Proofs.YtaaiamfolbcchaaDoorW.PrintWords Go.Proofs.YtaaiamfolbcchaaDoorW.PrintLast Go.Proofs.YtaaiamfolbcchaaDoorW.PrintMore Go.Proofs.YtaaiamfolbcchaaDoor.Ext Go.Proofs.YtaaiamfolbcchaaDoor.Y0 Go.Proofs.YtaaiamfolbcchaaDoor.X1
attribute [local go_sem] max2_int min2_int max_two min_two max_three min_three max_four min_four   -- for this text's walks alone
set_option linter.unusedVariables false
set_option linter.unusedSimpArgs false

/-! ### haulierlaw15_ClauseNames: function 5 -/
mutual
def haulierlaw15_ClauseNames.l0 : Nat → Int → Int → ByteArray → ByteArray → Int → ByteArray → Int → Int → Int → List Int → Bool → List Int → Int → Int → Option (Bool)
  | 0, _, _, _, _, _, _, _, _, _, _, _, _, _, _ => none
  | k + 1, x0, x1, x2, x7, x8, x9, x10, x11, x12, x13, x14, x39, x40, x41 => if x41 < x40 then (if 0 ≤ x41 then (if x41 < (x39.length : Int) then (if x14 = true then (haulierlaw15_ClauseNames.l0 k x0 x1 x2 x7 x8 x9 x10 x11 x12 x13 true x39 x40 (wrap64 (x41 + 1))) else (haulierlaw15_ClauseNames.l0 k x0 x1 x2 x7 x8 x9 x10 x11 x12 x13 ((rd x39 x41) == x0) x39 x40 (wrap64 (x41 + 1)))) else (none)) else (none)) else ((haulierref15_Name.f x0).bind fun t146 => (if x7.toList = t146.toList then ((haulierref15_Article.f x0).bind fun t147 => (if x9.toList = t147.toList then (if ((x8 == 0) != (x7.toList != ([] : List UInt8))) = true then (haulierlaw15_ClauseNames.j1 k x0 x1 x2 x11 x12 x13 x14 true) else (if ((x10 == 0) != (x7.toList != ([] : List UInt8))) = true then (haulierlaw15_ClauseNames.j1 k x0 x1 x2 x11 x12 x13 x14 true) else (if x8 = 0 then (haulierlaw15_ClauseNames.j1 k x0 x1 x2 x11 x12 x13 x14 (x10 != x8)) else (if x8 = 13 then (haulierlaw15_ClauseNames.j1 k x0 x1 x2 x11 x12 x13 x14 (x10 != x8)) else (haulierlaw15_ClauseNames.j1 k x0 x1 x2 x11 x12 x13 x14 true))))) else (haulierlaw15_ClauseNames.j1 k x0 x1 x2 x11 x12 x13 x14 true))) else (haulierlaw15_ClauseNames.j1 k x0 x1 x2 x11 x12 x13 x14 true)))
def haulierlaw15_ClauseNames.j1 : Nat → Int → Int → ByteArray → Int → Int → List Int → Bool → Bool → Option (Bool)
  | 0, _, _, _, _, _, _, _, _ => none
  | k + 1, x0, x1, x2, x11, x12, x13, x14, x88 => if x88 = true then (some false) else ((haulierref15_Find.f k x2).bind fun t148 => (if t148 < 0 then (if x11 = 0 then (if x12 = 13 then (if t148 ≥ 0 then (if x11 = t148 then (haulierlaw15_ClauseNames.j2 k x0 x1 x13 x14 (x12 != 0)) else (haulierlaw15_ClauseNames.j2 k x0 x1 x13 x14 true)) else (haulierlaw15_ClauseNames.j2 k x0 x1 x13 x14 false)) else (haulierlaw15_ClauseNames.j2 k x0 x1 x13 x14 true)) else (haulierlaw15_ClauseNames.j2 k x0 x1 x13 x14 true)) else (if t148 ≥ 0 then (if x11 = t148 then (haulierlaw15_ClauseNames.j2 k x0 x1 x13 x14 (x12 != 0)) else (haulierlaw15_ClauseNames.j2 k x0 x1 x13 x14 true)) else (haulierlaw15_ClauseNames.j2 k x0 x1 x13 x14 false))))
def haulierlaw15_ClauseNames.j2 : Nat → Int → Int → List Int → Bool → Bool → Option (Bool)
  | 0, _, _, _, _, _ => none
  | k + 1, x0, x1, x13, x14, x113 => if x113 = true then (some false) else ((clause_All.f k x1).bind fun t149 => ((haulierref07_Same.f k t149 x13).bind fun t152 => (if t152 = true then ((clause_In.f x1 x0).bind fun t153 => (if (t153 == x14) = true then ((haulierlaw15_alive.f k).bind fun t154 => (some t154)) else (some false))) else (some false))))
end
def haulierlaw15_ClauseNames.f (k : Nat) (a0 : Int) (a1 : Int) (a2 : ByteArray) : Option (Bool) := if (a2.size : Int) > 100 then ((haulierlaw15_alive.f k).bind fun t135 => (some t135)) else ((clause_Name.f a0).bind fun bt136 => ((clause_Article.f a0).bind fun bt138 => ((clause_Find.f k a2).bind fun bt140 => ((haulierref15_All.f k a1).bind fun t142 => (haulierlaw15_ClauseNames.l0 k a0 a1 a2 bt136.1 bt136.2 bt138.1 bt138.2 bt140.1 bt140.2 t142 false t142 (t142.length : Int) 0)))))
theorem haulierlaw15_ClauseNames.mono_l : ∀ k, (∀ y0 y1 y2 y3 y4 y5 y6 y7 y8 y9 y10 y11 y12 y13, LeO (haulierlaw15_ClauseNames.l0 k y0 y1 y2 y3 y4 y5 y6 y7 y8 y9 y10 y11 y12 y13) (haulierlaw15_ClauseNames.l0 (k + 1) y0 y1 y2 y3 y4 y5 y6 y7 y8 y9 y10 y11 y12 y13)) ∧ (∀ y0 y1 y2 y3 y4 y5 y6 y7, LeO (haulierlaw15_ClauseNames.j1 k y0 y1 y2 y3 y4 y5 y6 y7) (haulierlaw15_ClauseNames.j1 (k + 1) y0 y1 y2 y3 y4 y5 y6 y7)) ∧ (∀ y0 y1 y2 y3 y4, LeO (haulierlaw15_ClauseNames.j2 k y0 y1 y2 y3 y4) (haulierlaw15_ClauseNames.j2 (k + 1) y0 y1 y2 y3 y4))
  | 0 => ⟨fun _ _ _ _ _ _ _ _ _ _ _ _ _ _ r h => by simp [haulierlaw15_ClauseNames.l0] at h, fun _ _ _ _ _ _ _ _ r h => by simp [haulierlaw15_ClauseNames.j1] at h, fun _ _ _ _ _ r h => by simp [haulierlaw15_ClauseNames.j2] at h⟩
  | k + 1 => by
    obtain ⟨ih0, ih1, ih2⟩ := haulierlaw15_ClauseNames.mono_l k
    refine ⟨?_, ?_, ?_⟩
    · intro y0 y1 y2 y3 y4 y5 y6 y7 y8 y9 y10 y11 y12 y13
      unfold haulierlaw15_ClauseNames.l0
      repeat' first
      | (with_reducible exact ih0 _ _ _ _ _ _ _ _ _ _ _ _ _ _)
      | (with_reducible exact ih1 _ _ _ _ _ _ _ _)
      | (with_reducible exact ih2 _ _ _ _ _)
      | (with_reducible exact clause_All.mono _ _)
      | (with_reducible exact clause_Find.mono _ _)
      | (with_reducible exact haulierlaw15_alive.mono _)
      | (with_reducible exact haulierref07_Same.mono _ _ _)
      | (with_reducible exact haulierref15_All.mono _ _)
      | (with_reducible exact haulierref15_Find.mono _ _)
      | (with_reducible exact LeO.refl _)
      | (with_reducible exact LeO.none _)
      | (with_reducible refine LeO.ite ?_ ?_)
      | (with_reducible refine LeO.bind ?_ (fun _ => ?_))
      | exact ih0 _ _ _ _ _ _ _ _ _ _ _ _ _ _
      | exact ih1 _ _ _ _ _ _ _ _
      | exact ih2 _ _ _ _ _
      | exact clause_All.mono _ _
      | exact clause_Find.mono _ _
      | exact haulierlaw15_alive.mono _
      | exact haulierref07_Same.mono _ _ _
      | exact haulierref15_All.mono _ _
      | exact haulierref15_Find.mono _ _
      | exact LeO.none _
      | refine LeO.ite ?_ ?_
      | refine LeO.bind ?_ (fun _ => ?_)
    · intro y0 y1 y2 y3 y4 y5 y6 y7
      unfold haulierlaw15_ClauseNames.j1
      repeat' first
      | (with_reducible exact ih0 _ _ _ _ _ _ _ _ _ _ _ _ _ _)
      | (with_reducible exact ih1 _ _ _ _ _ _ _ _)
      | (with_reducible exact ih2 _ _ _ _ _)
      | (with_reducible exact clause_All.mono _ _)
      | (with_reducible exact clause_Find.mono _ _)
      | (with_reducible exact haulierlaw15_alive.mono _)
      | (with_reducible exact haulierref07_Same.mono _ _ _)
      | (with_reducible exact haulierref15_All.mono _ _)
      | (with_reducible exact haulierref15_Find.mono _ _)
      | (with_reducible exact LeO.refl _)
      | (with_reducible exact LeO.none _)
      | (with_reducible refine LeO.ite ?_ ?_)
      | (with_reducible refine LeO.bind ?_ (fun _ => ?_))
      | exact ih0 _ _ _ _ _ _ _ _ _ _ _ _ _ _
      | exact ih1 _ _ _ _ _ _ _ _
      | exact ih2 _ _ _ _ _
      | exact clause_All.mono _ _
      | exact clause_Find.mono _ _
      | exact haulierlaw15_alive.mono _
      | exact haulierref07_Same.mono _ _ _
      | exact haulierref15_All.mono _ _
      | exact haulierref15_Find.mono _ _
      | exact LeO.none _
      | refine LeO.ite ?_ ?_
      | refine LeO.bind ?_ (fun _ => ?_)
    · intro y0 y1 y2 y3 y4
      unfold haulierlaw15_ClauseNames.j2
      repeat' first
      | (with_reducible exact ih0 _ _ _ _ _ _ _ _ _ _ _ _ _ _)
      | (with_reducible exact ih1 _ _ _ _ _ _ _ _)
      | (with_reducible exact ih2 _ _ _ _ _)
      | (with_reducible exact clause_All.mono _ _)
      | (with_reducible exact clause_Find.mono _ _)
      | (with_reducible exact haulierlaw15_alive.mono _)
      | (with_reducible exact haulierref07_Same.mono _ _ _)
      | (with_reducible exact haulierref15_All.mono _ _)
      | (with_reducible exact haulierref15_Find.mono _ _)
      | (with_reducible exact LeO.refl _)
      | (with_reducible exact LeO.none _)
      | (with_reducible refine LeO.ite ?_ ?_)
      | (with_reducible refine LeO.bind ?_ (fun _ => ?_))
      | exact ih0 _ _ _ _ _ _ _ _ _ _ _ _ _ _
      | exact ih1 _ _ _ _ _ _ _ _
      | exact ih2 _ _ _ _ _
      | exact clause_All.mono _ _
      | exact clause_Find.mono _ _
      | exact haulierlaw15_alive.mono _
      | exact haulierref07_Same.mono _ _ _
      | exact haulierref15_All.mono _ _
      | exact haulierref15_Find.mono _ _
      | exact LeO.none _
      | refine LeO.ite ?_ ?_
      | refine LeO.bind ?_ (fun _ => ?_)
theorem haulierlaw15_ClauseNames.mono : ∀ a0 a1 a2 k, LeO (haulierlaw15_ClauseNames.f k a0 a1 a2) (haulierlaw15_ClauseNames.f (k + 1) a0 a1 a2) := by
  intro a0 a1 a2 k
  obtain ⟨ih0, ih1, ih2⟩ := haulierlaw15_ClauseNames.mono_l k
  unfold haulierlaw15_ClauseNames.f
  repeat' first
      | (with_reducible exact ih0 _ _ _ _ _ _ _ _ _ _ _ _ _ _)
      | (with_reducible exact ih1 _ _ _ _ _ _ _ _)
      | (with_reducible exact ih2 _ _ _ _ _)
      | (with_reducible exact clause_All.mono _ _)
      | (with_reducible exact clause_Find.mono _ _)
      | (with_reducible exact haulierlaw15_alive.mono _)
      | (with_reducible exact haulierref07_Same.mono _ _ _)
      | (with_reducible exact haulierref15_All.mono _ _)
      | (with_reducible exact haulierref15_Find.mono _ _)
      | (with_reducible exact LeO.refl _)
      | (with_reducible exact LeO.none _)
      | (with_reducible refine LeO.ite ?_ ?_)
      | (with_reducible refine LeO.bind ?_ (fun _ => ?_))
      | exact ih0 _ _ _ _ _ _ _ _ _ _ _ _ _ _
      | exact ih1 _ _ _ _ _ _ _ _
      | exact ih2 _ _ _ _ _
      | exact clause_All.mono _ _
      | exact clause_Find.mono _ _
      | exact haulierlaw15_alive.mono _
      | exact haulierref07_Same.mono _ _ _
      | exact haulierref15_All.mono _ _
      | exact haulierref15_Find.mono _ _
      | exact LeO.none _
      | refine LeO.ite ?_ ?_
      | refine LeO.bind ?_ (fun _ => ?_)
set_option maxHeartbeats 8000000 in
set_option maxRecDepth 100000 in
theorem haulierlaw15_ClauseNames.calls (k : Nat) (a0 : Int) (a1 : Int) (a2 : ByteArray) (r : Bool) (hr_ : r = true) (w : World) (hL : Laid [Tb.pow10, Tb.names, Tb.articles] w) (h : haulierlaw15_ClauseNames.f k a0 a1 a2 = some r) :
    Calls Tryd.prog 5 #[.int .i64 a0, .int .i64 a1, .string a2] w fun e w' => e = .returned (.bool r) ∧ Below w.heap.size w w' := by
  have HR_ := Aside0.mk hr_
  clear hr_
  have HB := Aside0.mk (Below.refl w.heap.size w)
  have HLd := Aside0.mk hL
  clear hL
  have H : (if (a2.size : Int) > 100 then ((haulierlaw15_alive.f k).bind fun t135 => (some t135)) else ((clause_Name.f a0).bind fun bt136 => ((clause_Article.f a0).bind fun bt138 => ((clause_Find.f k a2).bind fun bt140 => ((haulierref15_All.f k a1).bind fun t142 => (haulierlaw15_ClauseNames.l0 k a0 a1 a2 bt136.1 bt136.2 bt138.1 bt138.2 bt140.1 bt140.2 t142 false t142 (t142.length : Int) 0)))))) = some r := h
  clear h
  by_cases c4 : (a2.size : Int) > 100
  · rw [if_pos c4] at H
    have c4b0 : decide (100 < (a2.size : Int)) = true := decide_eq_true c4
    have c4b1 : decide (100 < a2.size) = true := decide_eq_true (by omega)
    clear c4
    replace H := Option.bind_eq_some_iff.mp H
    obtain ⟨t135, A50, H⟩ := H
    replace H : (some t135) = some r := H
    have A5 := Aside0.mk A50
    clear A50
    obtain rfl := Option.some.inj H
    go_enter Tryd.func5, Tryd.ntmps5
    go_wp2_with (first | ((with_reducible refine gate_callee (f := 23) rfl ?_); refine goesL_ (some 21) rfl rfl Tryd.func23 (by kernel_rfl) rfl #[] rfl (by (try simp only [List.map_toArray, List.map_cons, List.map_nil]); first | done | rfl | (simp only [List.length_drop, List.length_take]; rfl)) ?_; (with_reducible refine (haulierlaw15_alive.calls k  t135 _ ?side1 A5.out).mono ?_); (case side1 => exact Laid.below HLd.out (by repeat (first | (with_reducible first | exact HB.out | apply below_alloc | apply pw_below_drewN | apply below_drew1) | exact HB.out))); rintro e w6 ⟨rfl, hb⟩; refine ⟨_, rfl, ?_⟩; have n0_ := Aside0.mk (below_step (by repeat (first | (with_reducible first | exact HB.out | apply below_alloc | apply pw_below_drewN | apply below_drew1) | exact HB.out)) hb); clear HB; have HB := n0_; clear n0_; (try clear hb); (try clear hb2); (try clear hk); (try clear hi)))
    go_ret
    exact ⟨by first | rfl | (simp [errW_none, errW_some] <;> rfl) | (simp [*, errW_none, errW_some] <;> rfl), by repeat (first | (with_reducible first | exact HB.out | apply below_alloc | apply pw_below_drewN | apply below_drew1) | exact HB.out)⟩
  · rw [if_neg c4] at H
    have c4b0 : decide (100 < (a2.size : Int)) = false := decide_eq_false c4
    have c4b1 : decide (100 < a2.size) = false := decide_eq_false (by omega)
    clear c4
    replace H := Option.bind_eq_some_iff.mp H
    obtain ⟨⟨t136, t137⟩, A70, H⟩ := H
    replace H : ((clause_Article.f a0).bind fun bt138 => ((clause_Find.f k a2).bind fun bt140 => ((haulierref15_All.f k a1).bind fun t142 => (haulierlaw15_ClauseNames.l0 k a0 a1 a2 t136 t137 bt138.1 bt138.2 bt140.1 bt140.2 t142 false t142 (t142.length : Int) 0)))) = some r := H
    have A7 := Aside0.mk A70
    clear A70
    replace H := Option.bind_eq_some_iff.mp H
    obtain ⟨⟨t138, t139⟩, A80, H⟩ := H
    replace H : ((clause_Find.f k a2).bind fun bt140 => ((haulierref15_All.f k a1).bind fun t142 => (haulierlaw15_ClauseNames.l0 k a0 a1 a2 t136 t137 t138 t139 bt140.1 bt140.2 t142 false t142 (t142.length : Int) 0))) = some r := H
    have A8 := Aside0.mk A80
    clear A80
    replace H := Option.bind_eq_some_iff.mp H
    obtain ⟨⟨t140, t141⟩, A90, H⟩ := H
    replace H : ((haulierref15_All.f k a1).bind fun t142 => (haulierlaw15_ClauseNames.l0 k a0 a1 a2 t136 t137 t138 t139 t140 t141 t142 false t142 (t142.length : Int) 0)) = some r := H
    have A9 := Aside0.mk A90
    clear A90
    replace H := Option.bind_eq_some_iff.mp H
    obtain ⟨t142, A100, H⟩ := H
    replace H : (haulierlaw15_ClauseNames.l0 k a0 a1 a2 t136 t137 t138 t139 t140 t141 t142 false t142 (t142.length : Int) 0) = some r := H
    have A10 := Aside0.mk A100
    clear A100
    have H' := Aside0.mk H
    clear H
    go_enter Tryd.func5, Tryd.ntmps5
    go_wp2_with (first | ((with_reducible refine gate_callee (f := 24) rfl ?_); refine goesL_ (some 24) rfl rfl Tryd.func24 (by kernel_rfl) rfl #[.int .i64 a0] rfl (by (try simp only [List.map_toArray, List.map_cons, List.map_nil]); first | done | rfl | (simp only [List.length_drop, List.length_take]; rfl)) ?_; (with_reducible refine (clause_Name.calls a0 t136 t137 _ ?side1 A7.out).mono ?_); (case side1 => exact Laid.below (Laid.sub (by decide) HLd.out) (by repeat (first | (with_reducible first | exact HB.out | apply below_alloc | apply pw_below_drewN | apply below_drew1) | exact HB.out))); rintro e w11 ⟨rfl, hb⟩; refine ⟨_, rfl, ?_⟩; have n0_ := Aside0.mk (below_step (by repeat (first | (with_reducible first | exact HB.out | apply below_alloc | apply pw_below_drewN | apply below_drew1) | exact HB.out)) hb); clear HB; have HB := n0_; clear n0_; (try clear hb); (try clear hb2); (try clear hk); (try clear hi)) | ((with_reducible refine gate_callee (f := 25) rfl ?_); refine goesL_ (some 29) rfl rfl Tryd.func25 (by kernel_rfl) rfl #[.int .i64 a0] rfl (by (try simp only [List.map_toArray, List.map_cons, List.map_nil]); first | done | rfl | (simp only [List.length_drop, List.length_take]; rfl)) ?_; (with_reducible refine (clause_Article.calls a0 t138 t139 _ ?side1 A8.out).mono ?_); (case side1 => exact Laid.below (Laid.sub (by decide) HLd.out) (by repeat (first | (with_reducible first | exact HB.out | apply below_alloc | apply pw_below_drewN | apply below_drew1) | exact HB.out))); rintro e w12 ⟨rfl, hb⟩; refine ⟨_, rfl, ?_⟩; have n0_ := Aside0.mk (below_step (by repeat (first | (with_reducible first | exact HB.out | apply below_alloc | apply pw_below_drewN | apply below_drew1) | exact HB.out)) hb); clear HB; have HB := n0_; clear n0_; (try clear hb); (try clear hb2); (try clear hk); (try clear hi)) | ((with_reducible refine gate_callee (f := 26) rfl ?_); refine goesL_ (some 34) rfl rfl Tryd.func26 (by kernel_rfl) rfl #[.string a2] rfl (by (try simp only [List.map_toArray, List.map_cons, List.map_nil]); first | done | rfl | (simp only [List.length_drop, List.length_take]; rfl)) ?_; (with_reducible refine (clause_Find.calls k a2 t140 t141 _ ?side1 A9.out).mono ?_); (case side1 => exact Laid.below (Laid.sub (by decide) HLd.out) (by repeat (first | (with_reducible first | exact HB.out | apply below_alloc | apply pw_below_drewN | apply below_drew1) | exact HB.out))); rintro e w13 ⟨rfl, hb⟩; refine ⟨_, rfl, ?_⟩; have n0_ := Aside0.mk (below_step (by repeat (first | (with_reducible first | exact HB.out | apply below_alloc | apply pw_below_drewN | apply below_drew1) | exact HB.out)) hb); clear HB; have HB := n0_; clear n0_; (try clear hb); (try clear hb2); (try clear hk); (try clear hi)) | ((with_reducible refine gate_callee (f := 27) rfl ?_); refine goesL_ (some 38) rfl rfl Tryd.func27 (by kernel_rfl) rfl #[.int .i64 a1] rfl (by (try simp only [List.map_toArray, List.map_cons, List.map_nil]); first | done | rfl | (simp only [List.length_drop, List.length_take]; rfl)) ?_; (with_reducible refine (haulierref15_All.calls k a1 t142 _ A10.out).mono ?_); rintro e w14 ⟨v143, rfl, ho0, hb⟩; refine ⟨_, rfl, ?_⟩; have n0_ := Aside0.mk (Kd.R_lower ho0 (below_size (by repeat (first | (with_reducible first | exact HB.out | apply below_alloc | apply pw_below_drewN | apply below_drew1) | exact HB.out)))); have n1_ := Aside0.mk (below_step (by repeat (first | (with_reducible first | exact HB.out | apply below_alloc | apply pw_below_drewN | apply below_drew1) | exact HB.out)) hb); clear HB; have HO144 := n0_; have HB := n1_; clear n0_ n1_; (try clear hb); (try clear hb2); (try clear hk); (try clear hi); (try clear ho0); obtain ⟨Ao15, co15, eo15⟩ := Kd.R_slice HO144.out; subst eo15))
    go_loopg [14, 41] k (fun kq v14 v41 w' => ∃ (x14_1 : Bool) (x41_1 : Int), v14 = .bool x14_1 ∧ v41 = .int .i64 x41_1 ∧ Aside0 (haulierlaw15_ClauseNames.l0 kq a0 a1 a2 t136 t137 t138 t139 t140 t141 t142 x14_1 t142 (t142.length : Int) x41_1 = some r) ∧ Aside0 (kq ≤ k) ∧ Aside0 (Kd.R (Kd.int .i64) 3 w' w.heap.size (fun _ => True) (.slice Ao15 t142.length co15) t142) ∧ Aside0 (Kd.R (Kd.int .i64) 3 w' w.heap.size (fun _ => True) (.slice Ao15 t142.length co15) t142) ∧ Aside0 (Below w.heap.size w w'))
    case atStart => exact ⟨(false), (0), (by first | rfl | (simp; done) | (simp [*]; done)), (by first | rfl | (simp; done) | (simp [*]; done)), H', ⟨Nat.le_refl _⟩, ⟨by (with_reducible repeat (first | apply Kd.R_alloc | apply Kd.R_drewN | apply Kd.R_drew)); exact HO144.out⟩, ⟨by (with_reducible repeat (first | apply Kd.R_alloc | apply Kd.R_drewN | apply Kd.R_drew)); exact HO144.out⟩, ⟨by repeat (first | (with_reducible first | exact HB.out | apply below_alloc | apply pw_below_drewN | apply below_drew1) | exact HB.out)⟩⟩
    case round =>
      clear H'
      try clear c2
      try clear p2
      try clear c4
      try clear c4b0
      try clear c4b1
      try clear c5
      obtain ⟨x14_1, x41_1, rfl, rfl, HA, HK1, HO_13, HO_39, HB⟩ := hrel
      cases gk with
      | zero => exact absurd HA.out (by simp [haulierlaw15_ClauseNames.l0])
      | succ k1 =>
        have H := HA.out
        clear HA
        simp only [haulierlaw15_ClauseNames.l0] at H
        by_cases c16 : x41_1 < (t142.length : Int)
        · rw [if_pos c16] at H
          have c16b0 : decide (x41_1 < (t142.length : Int)) = true := decide_eq_true c16
          clear c16
          by_cases c17 : 0 ≤ x41_1
          · rw [if_pos c17] at H
            have c17b0 : decide (0 ≤ x41_1) = true := decide_eq_true c17
            clear c17
            by_cases c18 : x41_1 < (t142.length : Int)
            · rw [if_pos c18] at H
              have c18b0 : decide (x41_1 < (t142.length : Int)) = true := decide_eq_true c18
              clear c18
              by_cases c19 : x14_1 = true
              · subst c19
                have H1 : (haulierlaw15_ClauseNames.l0 k1 a0 a1 a2 t136 t137 t138 t139 t140 t141 t142 true t142 (t142.length : Int) (wrap64 (x41_1 + 1))) = some r := by rw [if_pos rfl] at H; exact H
                clear H
                have H := H1
                clear H1
                have H' := Aside0.mk H
                clear H
                have p145 : 0 ≤ (x41_1 : Int) := of_decide_eq_true (by first | (with_reducible assumption) | assumption)
                have q145 : x41_1 < (t142.length : Int) := of_decide_eq_true (by first | (with_reducible assumption) | assumption)
                obtain ⟨ad145, e145, hx145_0⟩ := Kd.at_int (Kd.R_reads' HO_39.out).2.2 x41_1 p145 q145
                cases e145
                replace p145 := eq_true p145
                replace q145 := eq_true q145
                go_wp2
                go_roundg k1
                case measure => have := HK1.out; omega
                case rel => exact ⟨(true), (wrap64 (x41_1 + 1)), (by first | rfl | (simp; done) | (simp [*]; done)), (by first | rfl | (simp; done) | (simp [*]; done)), H', ⟨by have := HK1.out; omega⟩, ⟨by (with_reducible repeat (first | apply Kd.R_alloc | apply Kd.R_drewN | apply Kd.R_drew)); exact HO_13.out⟩, ⟨by (with_reducible repeat (first | apply Kd.R_alloc | apply Kd.R_drewN | apply Kd.R_drew)); exact HO_39.out⟩, ⟨by repeat (first | (with_reducible first | exact HB.out | apply below_alloc | apply pw_below_drewN | apply below_drew1) | exact HB.out)⟩⟩
              · replace c19 := Bool.eq_false_iff.mpr c19
                subst c19
                have H1 : (haulierlaw15_ClauseNames.l0 k1 a0 a1 a2 t136 t137 t138 t139 t140 t141 t142 ((rd t142 x41_1) == a0) t142 (t142.length : Int) (wrap64 (x41_1 + 1))) = some r := by rw [if_neg (show ¬ (false = true) by decide)] at H; exact H
                clear H
                have H := H1
                clear H1
                have H' := Aside0.mk H
                clear H
                have p145 : 0 ≤ (x41_1 : Int) := of_decide_eq_true (by first | (with_reducible assumption) | assumption)
                have q145 : x41_1 < (t142.length : Int) := of_decide_eq_true (by first | (with_reducible assumption) | assumption)
                obtain ⟨ad145, e145, hx145_0⟩ := Kd.at_int (Kd.R_reads' HO_39.out).2.2 x41_1 p145 q145
                cases e145
                replace p145 := eq_true p145
                replace q145 := eq_true q145
                go_wp2
                go_roundg k1
                case measure => have := HK1.out; omega
                case rel => exact ⟨(((rd t142 x41_1) == a0)), (wrap64 (x41_1 + 1)), (by first | rfl | (simp; done) | (simp [*]; done)), (by first | rfl | (simp; done) | (simp [*]; done)), H', ⟨by have := HK1.out; omega⟩, ⟨by (with_reducible repeat (first | apply Kd.R_alloc | apply Kd.R_drewN | apply Kd.R_drew)); exact HO_13.out⟩, ⟨by (with_reducible repeat (first | apply Kd.R_alloc | apply Kd.R_drewN | apply Kd.R_drew)); exact HO_39.out⟩, ⟨by repeat (first | (with_reducible first | exact HB.out | apply below_alloc | apply pw_below_drewN | apply below_drew1) | exact HB.out)⟩⟩
            · rw [if_neg c18] at H
              exact absurd H (by simp)
          · rw [if_neg c17] at H
            exact absurd H (by simp)
        · rw [if_neg c16] at H
          have c16b0 : decide (x41_1 < (t142.length : Int)) = false := decide_eq_false c16
          clear c16
          have HC20 := Aside0.mk H
          clear H
          go_upto_region 13 with (fail)
          go_cut [88] (fun v88 wc => ∃ (kq : Nat) (x88_19 : Bool), v88 = .bool x88_19 ∧ Aside0 (haulierlaw15_ClauseNames.j1 kq a0 a1 a2 t140 t141 t142 x14_1 x88_19 = some r) ∧ Aside0 (kq ≤ k1) ∧ Aside0 (Kd.R (Kd.int .i64) 3 wc w.heap.size (fun _ => True) (.slice Ao15 t142.length co15) t142) ∧ Aside0 (Below w.heap.size w wc))
          case first =>
            have H := HC20.out
            clear HC20
            replace H := Option.bind_eq_some_iff.mp H
            obtain ⟨t146, A210, H⟩ := H
            replace H : (if t136.toList = t146.toList then ((haulierref15_Article.f a0).bind fun t147 => (if t138.toList = t147.toList then (if ((t137 == 0) != (t136.toList != ([] : List UInt8))) = true then (haulierlaw15_ClauseNames.j1 k1 a0 a1 a2 t140 t141 t142 x14_1 true) else (if ((t139 == 0) != (t136.toList != ([] : List UInt8))) = true then (haulierlaw15_ClauseNames.j1 k1 a0 a1 a2 t140 t141 t142 x14_1 true) else (if t137 = 0 then (haulierlaw15_ClauseNames.j1 k1 a0 a1 a2 t140 t141 t142 x14_1 (t139 != t137)) else (if t137 = 13 then (haulierlaw15_ClauseNames.j1 k1 a0 a1 a2 t140 t141 t142 x14_1 (t139 != t137)) else (haulierlaw15_ClauseNames.j1 k1 a0 a1 a2 t140 t141 t142 x14_1 true))))) else (haulierlaw15_ClauseNames.j1 k1 a0 a1 a2 t140 t141 t142 x14_1 true))) else (haulierlaw15_ClauseNames.j1 k1 a0 a1 a2 t140 t141 t142 x14_1 true)) = some r := H
            have A21 := Aside0.mk A210
            clear A210
            by_cases c22 : t136.toList = t146.toList
            · rw [if_pos c22] at H
              have c22b0 : (t136.toList == t146.toList) = true := beq_iff_eq.mpr c22
              have c22b1 : (t136.toList != t146.toList) = false := bne_eq_false_iff_eq.mpr c22
              clear c22
              (first | rw [c22b0] | (simp only [i64_w, i32_w]; rw [c22b0]) | skip)
              replace H := Option.bind_eq_some_iff.mp H
              obtain ⟨t147, A230, H⟩ := H
              replace H : (if t138.toList = t147.toList then (if ((t137 == 0) != (t136.toList != ([] : List UInt8))) = true then (haulierlaw15_ClauseNames.j1 k1 a0 a1 a2 t140 t141 t142 x14_1 true) else (if ((t139 == 0) != (t136.toList != ([] : List UInt8))) = true then (haulierlaw15_ClauseNames.j1 k1 a0 a1 a2 t140 t141 t142 x14_1 true) else (if t137 = 0 then (haulierlaw15_ClauseNames.j1 k1 a0 a1 a2 t140 t141 t142 x14_1 (t139 != t137)) else (if t137 = 13 then (haulierlaw15_ClauseNames.j1 k1 a0 a1 a2 t140 t141 t142 x14_1 (t139 != t137)) else (haulierlaw15_ClauseNames.j1 k1 a0 a1 a2 t140 t141 t142 x14_1 true))))) else (haulierlaw15_ClauseNames.j1 k1 a0 a1 a2 t140 t141 t142 x14_1 true)) = some r := H
              have A23 := Aside0.mk A230
              clear A230
              by_cases c24 : t138.toList = t147.toList
              · rw [if_pos c24] at H
                have c24b0 : (t138.toList == t147.toList) = true := beq_iff_eq.mpr c24
                have c24b1 : (t138.toList != t147.toList) = false := bne_eq_false_iff_eq.mpr c24
                clear c24
                by_cases c25 : ((t137 == 0) != (t136.toList != ([] : List UInt8))) = true
                · rw [if_pos c25] at H
                  have c25b0 : ((t137 == 0) != (t136.toList != ([] : List UInt8))) = true := c25
                  (try (have c25b1 : decide ((t137 == 0) = (t136.toList != ([] : List UInt8))) = false := (show ∀ x_ y_ : Bool, (x_ != y_) = true → decide (x_ = y_) = false by decide) _ _ c25))
                  (try (have c25b2 : ((t137 == 0) == (t136.toList != ([] : List UInt8))) = false := (show ∀ x_ y_ : Bool, (x_ != y_) = true → (x_ == y_) = false by decide) _ _ c25))
                  (try (have c25b3 : (!((t137 == 0) == (t136.toList != ([] : List UInt8)))) = true := (show ∀ x_ y_ : Bool, (x_ != y_) = true → (!(x_ == y_)) = true by decide) _ _ c25))
                  (try (have c25b4 : ¬ ((t137 == 0) = (t136.toList != ([] : List UInt8))) := (show ∀ x_ y_ : Bool, (x_ != y_) = true → ¬ (x_ = y_) by decide) _ _ c25))
                  clear c25
                  rcases Bool.eq_false_or_eq_true ((t137 == 0)) with zAc25 | zAc25
                  all_goals (
                    have zBc25 : ((t136.toList != ([] : List UInt8))) = _ := (show ∀ x_ y_ : Bool, (x_ == y_) = false → y_ = !x_ by decide) _ _ c25b2
                    rw [zAc25] at zBc25
                    (try simp only [Bool.not_true, Bool.not_false] at zBc25)
                    (try have zCc25 : (t136.toList = ([] : List UInt8)) = False := eq_false (by simpa using zBc25))
                    (try have zCc25 : (t136.toList = ([] : List UInt8)) = True := eq_true (by simpa using zBc25))
                    (try clear c25b0)
                    (try clear c25b1)
                    (try clear c25b2)
                    (try clear c25b3)
                    (try clear c25b4))
                  any_goals first | (exfalso; exact absurd (zBc25.symm.trans (show ((t136.toList != ([] : List UInt8))) = true by assumption)) (by decide)) | (exfalso; exact absurd (zBc25.symm.trans (show ((t136.toList != ([] : List UInt8))) = false by assumption)) (by decide)) | skip
                  all_goals (
                    have H' := Aside0.mk H
                    clear H
                    go_wp2_with (first | ((with_reducible refine gate_callee (f := 28) rfl ?_); refine goesL_ (some 54) rfl rfl Tryd.func28 (by kernel_rfl) rfl #[.int .i64 a0] rfl (by (try simp only [List.map_toArray, List.map_cons, List.map_nil]); first | done | rfl | (simp only [List.length_drop, List.length_take]; rfl)) ?_; (with_reducible refine (haulierref15_Name.calls a0 t146 _ A21.out).mono ?_); rintro e w26 ⟨rfl, hb⟩; refine ⟨_, rfl, ?_⟩; have n0_ := Aside0.mk (Kd.R_below (by (with_reducible repeat (first | apply Kd.R_alloc | apply Kd.R_drewN | apply Kd.R_drew)); exact HO_13.out) hb); have n1_ := Aside0.mk (Kd.R_below (by (with_reducible repeat (first | apply Kd.R_alloc | apply Kd.R_drewN | apply Kd.R_drew)); exact HO_39.out) hb); have n2_ := Aside0.mk (below_step (by repeat (first | (with_reducible first | exact HB.out | apply below_alloc | apply pw_below_drewN | apply below_drew1) | exact HB.out)) hb); clear HO_13; clear HO_39; clear HB; have HO_13 := n0_; have HO_39 := n1_; have HB := n2_; clear n0_ n1_ n2_; (try clear hb); (try clear hb2); (try clear hk); (try clear hi)) | (go_at_call 29; (with_reducible refine (haulierref15_Article.calls a0 t147 _ A23.out).mono ?_); rintro e w27 ⟨rfl, hb⟩; have n0_ := Aside0.mk (Kd.R_below (by (with_reducible repeat (first | apply Kd.R_alloc | apply Kd.R_drewN | apply Kd.R_drew)); exact HO_13.out) hb); have n1_ := Aside0.mk (Kd.R_below (by (with_reducible repeat (first | apply Kd.R_alloc | apply Kd.R_drewN | apply Kd.R_drew)); exact HO_39.out) hb); have n2_ := Aside0.mk (below_step (by repeat (first | (with_reducible first | exact HB.out | apply below_alloc | apply pw_below_drewN | apply below_drew1) | exact HB.out)) hb); clear HO_13; clear HO_39; clear HB; have HO_13 := n0_; have HO_39 := n1_; have HB := n2_; clear n0_ n1_ n2_; (try clear hb); (try clear hb2); (try clear hk); (try clear hi)))
                    go_meet
                    case rel => exact ⟨_, (true), (by first | rfl | (simp; done) | (simp [*]; done)), H', ⟨by have := HK1.out; first | omega | exact Nat.le_refl _⟩, ⟨by (with_reducible repeat (first | apply Kd.R_alloc | apply Kd.R_drewN | apply Kd.R_drew)); exact HO_13.out⟩, ⟨by repeat (first | (with_reducible first | exact HB.out | apply below_alloc | apply pw_below_drewN | apply below_drew1) | exact HB.out)⟩⟩)
                · rw [if_neg c25] at H
                  have c25b0 : ((t137 == 0) != (t136.toList != ([] : List UInt8))) = false := by simpa using c25
                  (try (have c25b1 : decide ((t137 == 0) = (t136.toList != ([] : List UInt8))) = true := (show ∀ x_ y_ : Bool, ¬ (x_ != y_) = true → decide (x_ = y_) = true by decide) _ _ c25))
                  (try (have c25b2 : ((t137 == 0) == (t136.toList != ([] : List UInt8))) = true := (show ∀ x_ y_ : Bool, ¬ (x_ != y_) = true → (x_ == y_) = true by decide) _ _ c25))
                  (try (have c25b3 : (!((t137 == 0) == (t136.toList != ([] : List UInt8)))) = false := (show ∀ x_ y_ : Bool, ¬ (x_ != y_) = true → (!(x_ == y_)) = false by decide) _ _ c25))
                  clear c25
                  rcases Bool.eq_false_or_eq_true ((t137 == 0)) with zAc25 | zAc25
                  all_goals (
                    have zBc25 : ((t136.toList != ([] : List UInt8))) = _ := (show ∀ x_ y_ : Bool, (x_ == y_) = true → y_ = x_ by decide) _ _ c25b2
                    rw [zAc25] at zBc25
                    (try simp only [Bool.not_true, Bool.not_false] at zBc25)
                    (try have zCc25 : (t136.toList = ([] : List UInt8)) = False := eq_false (by simpa using zBc25))
                    (try have zCc25 : (t136.toList = ([] : List UInt8)) = True := eq_true (by simpa using zBc25))
                    (try clear c25b0)
                    (try clear c25b1)
                    (try clear c25b2)
                    (try clear c25b3)
                    (try clear c25b4))
                  any_goals first | (exfalso; exact absurd (zBc25.symm.trans (show ((t136.toList != ([] : List UInt8))) = true by assumption)) (by decide)) | (exfalso; exact absurd (zBc25.symm.trans (show ((t136.toList != ([] : List UInt8))) = false by assumption)) (by decide)) | skip
                  all_goals (
                    by_cases c28 : ((t139 == 0) != (t136.toList != ([] : List UInt8))) = true
                    · rw [if_pos c28] at H
                      have c28b0 : ((t139 == 0) != (t136.toList != ([] : List UInt8))) = true := c28
                      (try (have c28b1 : decide ((t139 == 0) = (t136.toList != ([] : List UInt8))) = false := (show ∀ x_ y_ : Bool, (x_ != y_) = true → decide (x_ = y_) = false by decide) _ _ c28))
                      (try (have c28b2 : ((t139 == 0) == (t136.toList != ([] : List UInt8))) = false := (show ∀ x_ y_ : Bool, (x_ != y_) = true → (x_ == y_) = false by decide) _ _ c28))
                      (try (have c28b3 : (!((t139 == 0) == (t136.toList != ([] : List UInt8)))) = true := (show ∀ x_ y_ : Bool, (x_ != y_) = true → (!(x_ == y_)) = true by decide) _ _ c28))
                      (try (have c28b4 : ¬ ((t139 == 0) = (t136.toList != ([] : List UInt8))) := (show ∀ x_ y_ : Bool, (x_ != y_) = true → ¬ (x_ = y_) by decide) _ _ c28))
                      clear c28
                      rcases Bool.eq_false_or_eq_true ((t139 == 0)) with zAc28 | zAc28
                      all_goals (
                        have zBc28 : ((t136.toList != ([] : List UInt8))) = _ := (show ∀ x_ y_ : Bool, (x_ == y_) = false → y_ = !x_ by decide) _ _ c28b2
                        rw [zAc28] at zBc28
                        (try simp only [Bool.not_true, Bool.not_false] at zBc28)
                        (try have zCc28 : (t136.toList = ([] : List UInt8)) = False := eq_false (by simpa using zBc28))
                        (try have zCc28 : (t136.toList = ([] : List UInt8)) = True := eq_true (by simpa using zBc28))
                        (try clear c28b0)
                        (try clear c28b1)
                        (try clear c28b2)
                        (try clear c28b3)
                        (try clear c28b4))
                      any_goals first | (exfalso; exact absurd (zBc28.symm.trans (show ((t136.toList != ([] : List UInt8))) = true by assumption)) (by decide)) | (exfalso; exact absurd (zBc28.symm.trans (show ((t136.toList != ([] : List UInt8))) = false by assumption)) (by decide)) | skip
                      all_goals (
                        have H' := Aside0.mk H
                        clear H
                        go_wp2_with (first | ((with_reducible refine gate_callee (f := 28) rfl ?_); refine goesL_ (some 54) rfl rfl Tryd.func28 (by kernel_rfl) rfl #[.int .i64 a0] rfl (by (try simp only [List.map_toArray, List.map_cons, List.map_nil]); first | done | rfl | (simp only [List.length_drop, List.length_take]; rfl)) ?_; (with_reducible refine (haulierref15_Name.calls a0 t146 _ A21.out).mono ?_); rintro e w29 ⟨rfl, hb⟩; refine ⟨_, rfl, ?_⟩; have n0_ := Aside0.mk (Kd.R_below (by (with_reducible repeat (first | apply Kd.R_alloc | apply Kd.R_drewN | apply Kd.R_drew)); exact HO_13.out) hb); have n1_ := Aside0.mk (Kd.R_below (by (with_reducible repeat (first | apply Kd.R_alloc | apply Kd.R_drewN | apply Kd.R_drew)); exact HO_39.out) hb); have n2_ := Aside0.mk (below_step (by repeat (first | (with_reducible first | exact HB.out | apply below_alloc | apply pw_below_drewN | apply below_drew1) | exact HB.out)) hb); clear HO_13; clear HO_39; clear HB; have HO_13 := n0_; have HO_39 := n1_; have HB := n2_; clear n0_ n1_ n2_; (try clear hb); (try clear hb2); (try clear hk); (try clear hi)) | (go_at_call 29; (with_reducible refine (haulierref15_Article.calls a0 t147 _ A23.out).mono ?_); rintro e w30 ⟨rfl, hb⟩; have n0_ := Aside0.mk (Kd.R_below (by (with_reducible repeat (first | apply Kd.R_alloc | apply Kd.R_drewN | apply Kd.R_drew)); exact HO_13.out) hb); have n1_ := Aside0.mk (Kd.R_below (by (with_reducible repeat (first | apply Kd.R_alloc | apply Kd.R_drewN | apply Kd.R_drew)); exact HO_39.out) hb); have n2_ := Aside0.mk (below_step (by repeat (first | (with_reducible first | exact HB.out | apply below_alloc | apply pw_below_drewN | apply below_drew1) | exact HB.out)) hb); clear HO_13; clear HO_39; clear HB; have HO_13 := n0_; have HO_39 := n1_; have HB := n2_; clear n0_ n1_ n2_; (try clear hb); (try clear hb2); (try clear hk); (try clear hi)))
                        go_meet
                        case rel => exact ⟨_, (true), (by first | rfl | (simp; done) | (simp [*]; done)), H', ⟨by have := HK1.out; first | omega | exact Nat.le_refl _⟩, ⟨by (with_reducible repeat (first | apply Kd.R_alloc | apply Kd.R_drewN | apply Kd.R_drew)); exact HO_13.out⟩, ⟨by repeat (first | (with_reducible first | exact HB.out | apply below_alloc | apply pw_below_drewN | apply below_drew1) | exact HB.out)⟩⟩)
                    · rw [if_neg c28] at H
                      have c28b0 : ((t139 == 0) != (t136.toList != ([] : List UInt8))) = false := by simpa using c28
                      (try (have c28b1 : decide ((t139 == 0) = (t136.toList != ([] : List UInt8))) = true := (show ∀ x_ y_ : Bool, ¬ (x_ != y_) = true → decide (x_ = y_) = true by decide) _ _ c28))
                      (try (have c28b2 : ((t139 == 0) == (t136.toList != ([] : List UInt8))) = true := (show ∀ x_ y_ : Bool, ¬ (x_ != y_) = true → (x_ == y_) = true by decide) _ _ c28))
                      (try (have c28b3 : (!((t139 == 0) == (t136.toList != ([] : List UInt8)))) = false := (show ∀ x_ y_ : Bool, ¬ (x_ != y_) = true → (!(x_ == y_)) = false by decide) _ _ c28))
                      clear c28
                      rcases Bool.eq_false_or_eq_true ((t139 == 0)) with zAc28 | zAc28
                      all_goals (
                        have zBc28 : ((t136.toList != ([] : List UInt8))) = _ := (show ∀ x_ y_ : Bool, (x_ == y_) = true → y_ = x_ by decide) _ _ c28b2
                        rw [zAc28] at zBc28
                        (try simp only [Bool.not_true, Bool.not_false] at zBc28)
                        (try have zCc28 : (t136.toList = ([] : List UInt8)) = False := eq_false (by simpa using zBc28))
                        (try have zCc28 : (t136.toList = ([] : List UInt8)) = True := eq_true (by simpa using zBc28))
                        (try clear c28b0)
                        (try clear c28b1)
                        (try clear c28b2)
                        (try clear c28b3)
                        (try clear c28b4))
                      any_goals first | (exfalso; exact absurd (zBc28.symm.trans (show ((t136.toList != ([] : List UInt8))) = true by assumption)) (by decide)) | (exfalso; exact absurd (zBc28.symm.trans (show ((t136.toList != ([] : List UInt8))) = false by assumption)) (by decide)) | skip
                      all_goals (
                        by_cases c31 : t137 = 0
                        · rw [if_pos c31] at H
                          have c31b0 : (t137 == 0) = true := beq_iff_eq.mpr c31
                          have c31b1 : (t137 != 0) = false := bne_eq_false_iff_eq.mpr c31
                          clear c31
                          have H' := Aside0.mk H
                          clear H
                          go_wp2_with (first | ((with_reducible refine gate_callee (f := 28) rfl ?_); refine goesL_ (some 54) rfl rfl Tryd.func28 (by kernel_rfl) rfl #[.int .i64 a0] rfl (by (try simp only [List.map_toArray, List.map_cons, List.map_nil]); first | done | rfl | (simp only [List.length_drop, List.length_take]; rfl)) ?_; (with_reducible refine (haulierref15_Name.calls a0 t146 _ A21.out).mono ?_); rintro e w32 ⟨rfl, hb⟩; refine ⟨_, rfl, ?_⟩; have n0_ := Aside0.mk (Kd.R_below (by (with_reducible repeat (first | apply Kd.R_alloc | apply Kd.R_drewN | apply Kd.R_drew)); exact HO_13.out) hb); have n1_ := Aside0.mk (Kd.R_below (by (with_reducible repeat (first | apply Kd.R_alloc | apply Kd.R_drewN | apply Kd.R_drew)); exact HO_39.out) hb); have n2_ := Aside0.mk (below_step (by repeat (first | (with_reducible first | exact HB.out | apply below_alloc | apply pw_below_drewN | apply below_drew1) | exact HB.out)) hb); clear HO_13; clear HO_39; clear HB; have HO_13 := n0_; have HO_39 := n1_; have HB := n2_; clear n0_ n1_ n2_; (try clear hb); (try clear hb2); (try clear hk); (try clear hi)) | (go_at_call 29; (with_reducible refine (haulierref15_Article.calls a0 t147 _ A23.out).mono ?_); rintro e w33 ⟨rfl, hb⟩; have n0_ := Aside0.mk (Kd.R_below (by (with_reducible repeat (first | apply Kd.R_alloc | apply Kd.R_drewN | apply Kd.R_drew)); exact HO_13.out) hb); have n1_ := Aside0.mk (Kd.R_below (by (with_reducible repeat (first | apply Kd.R_alloc | apply Kd.R_drewN | apply Kd.R_drew)); exact HO_39.out) hb); have n2_ := Aside0.mk (below_step (by repeat (first | (with_reducible first | exact HB.out | apply below_alloc | apply pw_below_drewN | apply below_drew1) | exact HB.out)) hb); clear HO_13; clear HO_39; clear HB; have HO_13 := n0_; have HO_39 := n1_; have HB := n2_; clear n0_ n1_ n2_; (try clear hb); (try clear hb2); (try clear hk); (try clear hi)))
                          go_meet
                          case rel => exact ⟨_, ((t139 != t137)), (by first | rfl | (simp; done) | (simp [*]; done)), H', ⟨by have := HK1.out; first | omega | exact Nat.le_refl _⟩, ⟨by (with_reducible repeat (first | apply Kd.R_alloc | apply Kd.R_drewN | apply Kd.R_drew)); exact HO_13.out⟩, ⟨by repeat (first | (with_reducible first | exact HB.out | apply below_alloc | apply pw_below_drewN | apply below_drew1) | exact HB.out)⟩⟩
                        · rw [if_neg c31] at H
                          have c31b0 : (t137 == 0) = false := beq_eq_false_iff_ne.mpr c31
                          have c31b1 : (t137 != 0) = true := bne_iff_ne.mpr c31
                          by_cases c34 : t137 = 13
                          · rw [if_pos c34] at H
                            have c34b0 : (t137 == 13) = true := beq_iff_eq.mpr c34
                            have c34b1 : (t137 != 13) = false := bne_eq_false_iff_eq.mpr c34
                            clear c34
                            have H' := Aside0.mk H
                            clear H
                            go_wp2_with (first | ((with_reducible refine gate_callee (f := 28) rfl ?_); refine goesL_ (some 54) rfl rfl Tryd.func28 (by kernel_rfl) rfl #[.int .i64 a0] rfl (by (try simp only [List.map_toArray, List.map_cons, List.map_nil]); first | done | rfl | (simp only [List.length_drop, List.length_take]; rfl)) ?_; (with_reducible refine (haulierref15_Name.calls a0 t146 _ A21.out).mono ?_); rintro e w35 ⟨rfl, hb⟩; refine ⟨_, rfl, ?_⟩; have n0_ := Aside0.mk (Kd.R_below (by (with_reducible repeat (first | apply Kd.R_alloc | apply Kd.R_drewN | apply Kd.R_drew)); exact HO_13.out) hb); have n1_ := Aside0.mk (Kd.R_below (by (with_reducible repeat (first | apply Kd.R_alloc | apply Kd.R_drewN | apply Kd.R_drew)); exact HO_39.out) hb); have n2_ := Aside0.mk (below_step (by repeat (first | (with_reducible first | exact HB.out | apply below_alloc | apply pw_below_drewN | apply below_drew1) | exact HB.out)) hb); clear HO_13; clear HO_39; clear HB; have HO_13 := n0_; have HO_39 := n1_; have HB := n2_; clear n0_ n1_ n2_; (try clear hb); (try clear hb2); (try clear hk); (try clear hi)) | (go_at_call 29; (with_reducible refine (haulierref15_Article.calls a0 t147 _ A23.out).mono ?_); rintro e w36 ⟨rfl, hb⟩; have n0_ := Aside0.mk (Kd.R_below (by (with_reducible repeat (first | apply Kd.R_alloc | apply Kd.R_drewN | apply Kd.R_drew)); exact HO_13.out) hb); have n1_ := Aside0.mk (Kd.R_below (by (with_reducible repeat (first | apply Kd.R_alloc | apply Kd.R_drewN | apply Kd.R_drew)); exact HO_39.out) hb); have n2_ := Aside0.mk (below_step (by repeat (first | (with_reducible first | exact HB.out | apply below_alloc | apply pw_below_drewN | apply below_drew1) | exact HB.out)) hb); clear HO_13; clear HO_39; clear HB; have HO_13 := n0_; have HO_39 := n1_; have HB := n2_; clear n0_ n1_ n2_; (try clear hb); (try clear hb2); (try clear hk); (try clear hi)))
                            go_meet
                            case rel => exact ⟨_, ((t139 != t137)), (by first | rfl | (simp; done) | (simp [*]; done)), H', ⟨by have := HK1.out; first | omega | exact Nat.le_refl _⟩, ⟨by (with_reducible repeat (first | apply Kd.R_alloc | apply Kd.R_drewN | apply Kd.R_drew)); exact HO_13.out⟩, ⟨by repeat (first | (with_reducible first | exact HB.out | apply below_alloc | apply pw_below_drewN | apply below_drew1) | exact HB.out)⟩⟩
                          · rw [if_neg c34] at H
                            have c34b0 : (t137 == 13) = false := beq_eq_false_iff_ne.mpr c34
                            have c34b1 : (t137 != 13) = true := bne_iff_ne.mpr c34
                            have H' := Aside0.mk H
                            clear H
                            go_wp2_with (first | ((with_reducible refine gate_callee (f := 28) rfl ?_); refine goesL_ (some 54) rfl rfl Tryd.func28 (by kernel_rfl) rfl #[.int .i64 a0] rfl (by (try simp only [List.map_toArray, List.map_cons, List.map_nil]); first | done | rfl | (simp only [List.length_drop, List.length_take]; rfl)) ?_; (with_reducible refine (haulierref15_Name.calls a0 t146 _ A21.out).mono ?_); rintro e w37 ⟨rfl, hb⟩; refine ⟨_, rfl, ?_⟩; have n0_ := Aside0.mk (Kd.R_below (by (with_reducible repeat (first | apply Kd.R_alloc | apply Kd.R_drewN | apply Kd.R_drew)); exact HO_13.out) hb); have n1_ := Aside0.mk (Kd.R_below (by (with_reducible repeat (first | apply Kd.R_alloc | apply Kd.R_drewN | apply Kd.R_drew)); exact HO_39.out) hb); have n2_ := Aside0.mk (below_step (by repeat (first | (with_reducible first | exact HB.out | apply below_alloc | apply pw_below_drewN | apply below_drew1) | exact HB.out)) hb); clear HO_13; clear HO_39; clear HB; have HO_13 := n0_; have HO_39 := n1_; have HB := n2_; clear n0_ n1_ n2_; (try clear hb); (try clear hb2); (try clear hk); (try clear hi)) | (go_at_call 29; (with_reducible refine (haulierref15_Article.calls a0 t147 _ A23.out).mono ?_); rintro e w38 ⟨rfl, hb⟩; have n0_ := Aside0.mk (Kd.R_below (by (with_reducible repeat (first | apply Kd.R_alloc | apply Kd.R_drewN | apply Kd.R_drew)); exact HO_13.out) hb); have n1_ := Aside0.mk (Kd.R_below (by (with_reducible repeat (first | apply Kd.R_alloc | apply Kd.R_drewN | apply Kd.R_drew)); exact HO_39.out) hb); have n2_ := Aside0.mk (below_step (by repeat (first | (with_reducible first | exact HB.out | apply below_alloc | apply pw_below_drewN | apply below_drew1) | exact HB.out)) hb); clear HO_13; clear HO_39; clear HB; have HO_13 := n0_; have HO_39 := n1_; have HB := n2_; clear n0_ n1_ n2_; (try clear hb); (try clear hb2); (try clear hk); (try clear hi)))
                            go_meet
                            case rel => exact ⟨_, (true), (by first | rfl | (simp; done) | (simp [*]; done)), H', ⟨by have := HK1.out; first | omega | exact Nat.le_refl _⟩, ⟨by (with_reducible repeat (first | apply Kd.R_alloc | apply Kd.R_drewN | apply Kd.R_drew)); exact HO_13.out⟩, ⟨by repeat (first | (with_reducible first | exact HB.out | apply below_alloc | apply pw_below_drewN | apply below_drew1) | exact HB.out)⟩⟩))
              · rw [if_neg c24] at H
                have c24b0 : (t138.toList == t147.toList) = false := beq_eq_false_iff_ne.mpr c24
                have c24b1 : (t138.toList != t147.toList) = true := bne_iff_ne.mpr c24
                have H' := Aside0.mk H
                clear H
                go_wp2_with (first | ((with_reducible refine gate_callee (f := 28) rfl ?_); refine goesL_ (some 54) rfl rfl Tryd.func28 (by kernel_rfl) rfl #[.int .i64 a0] rfl (by (try simp only [List.map_toArray, List.map_cons, List.map_nil]); first | done | rfl | (simp only [List.length_drop, List.length_take]; rfl)) ?_; (with_reducible refine (haulierref15_Name.calls a0 t146 _ A21.out).mono ?_); rintro e w39 ⟨rfl, hb⟩; refine ⟨_, rfl, ?_⟩; have n0_ := Aside0.mk (Kd.R_below (by (with_reducible repeat (first | apply Kd.R_alloc | apply Kd.R_drewN | apply Kd.R_drew)); exact HO_13.out) hb); have n1_ := Aside0.mk (Kd.R_below (by (with_reducible repeat (first | apply Kd.R_alloc | apply Kd.R_drewN | apply Kd.R_drew)); exact HO_39.out) hb); have n2_ := Aside0.mk (below_step (by repeat (first | (with_reducible first | exact HB.out | apply below_alloc | apply pw_below_drewN | apply below_drew1) | exact HB.out)) hb); clear HO_13; clear HO_39; clear HB; have HO_13 := n0_; have HO_39 := n1_; have HB := n2_; clear n0_ n1_ n2_; (try clear hb); (try clear hb2); (try clear hk); (try clear hi)) | (go_at_call 29; (with_reducible refine (haulierref15_Article.calls a0 t147 _ A23.out).mono ?_); rintro e w40 ⟨rfl, hb⟩; have n0_ := Aside0.mk (Kd.R_below (by (with_reducible repeat (first | apply Kd.R_alloc | apply Kd.R_drewN | apply Kd.R_drew)); exact HO_13.out) hb); have n1_ := Aside0.mk (Kd.R_below (by (with_reducible repeat (first | apply Kd.R_alloc | apply Kd.R_drewN | apply Kd.R_drew)); exact HO_39.out) hb); have n2_ := Aside0.mk (below_step (by repeat (first | (with_reducible first | exact HB.out | apply below_alloc | apply pw_below_drewN | apply below_drew1) | exact HB.out)) hb); clear HO_13; clear HO_39; clear HB; have HO_13 := n0_; have HO_39 := n1_; have HB := n2_; clear n0_ n1_ n2_; (try clear hb); (try clear hb2); (try clear hk); (try clear hi)))
                go_meet
                case rel => exact ⟨_, (true), (by first | rfl | (simp; done) | (simp [*]; done)), H', ⟨by have := HK1.out; first | omega | exact Nat.le_refl _⟩, ⟨by (with_reducible repeat (first | apply Kd.R_alloc | apply Kd.R_drewN | apply Kd.R_drew)); exact HO_13.out⟩, ⟨by repeat (first | (with_reducible first | exact HB.out | apply below_alloc | apply pw_below_drewN | apply below_drew1) | exact HB.out)⟩⟩
            · rw [if_neg c22] at H
              have c22b0 : (t136.toList == t146.toList) = false := beq_eq_false_iff_ne.mpr c22
              have c22b1 : (t136.toList != t146.toList) = true := bne_iff_ne.mpr c22
              (first | rw [c22b0] | (simp only [i64_w, i32_w]; rw [c22b0]) | skip)
              have H' := Aside0.mk H
              clear H
              go_wp2_with (first | ((with_reducible refine gate_callee (f := 28) rfl ?_); refine goesL_ (some 54) rfl rfl Tryd.func28 (by kernel_rfl) rfl #[.int .i64 a0] rfl (by (try simp only [List.map_toArray, List.map_cons, List.map_nil]); first | done | rfl | (simp only [List.length_drop, List.length_take]; rfl)) ?_; (with_reducible refine (haulierref15_Name.calls a0 t146 _ A21.out).mono ?_); rintro e w41 ⟨rfl, hb⟩; refine ⟨_, rfl, ?_⟩; have n0_ := Aside0.mk (Kd.R_below (by (with_reducible repeat (first | apply Kd.R_alloc | apply Kd.R_drewN | apply Kd.R_drew)); exact HO_13.out) hb); have n1_ := Aside0.mk (Kd.R_below (by (with_reducible repeat (first | apply Kd.R_alloc | apply Kd.R_drewN | apply Kd.R_drew)); exact HO_39.out) hb); have n2_ := Aside0.mk (below_step (by repeat (first | (with_reducible first | exact HB.out | apply below_alloc | apply pw_below_drewN | apply below_drew1) | exact HB.out)) hb); clear HO_13; clear HO_39; clear HB; have HO_13 := n0_; have HO_39 := n1_; have HB := n2_; clear n0_ n1_ n2_; (try clear hb); (try clear hb2); (try clear hk); (try clear hi)))
              go_meet
              case rel => exact ⟨_, (true), (by first | rfl | (simp; done) | (simp [*]; done)), H', ⟨by have := HK1.out; first | omega | exact Nat.le_refl _⟩, ⟨by (with_reducible repeat (first | apply Kd.R_alloc | apply Kd.R_drewN | apply Kd.R_drew)); exact HO_13.out⟩, ⟨by repeat (first | (with_reducible first | exact HB.out | apply below_alloc | apply pw_below_drewN | apply below_drew1) | exact HB.out)⟩⟩
          case rest =>
            clear HC20
            try clear c1
            try clear p1
            try clear q1
            try clear hx1
            try clear c2
            try clear p2
            try clear c3
            try clear c4
            try clear c4b0
            try clear c4b1
            try clear c5
            try clear p6
            try clear p14
            try clear q14
            try clear hx14
            try clear c16
            try clear c16b0
            try clear c17
            try clear c17b0
            try clear c18
            try clear c18b0
            try clear c19
            try clear c22
            try clear c22b0
            try clear c22b1
            try clear c23
            try clear c24
            try clear c24b0
            try clear c24b1
            try clear c25
            try clear c25b0
            try clear c25b1
            try clear c25b2
            try clear c26
            try clear c27
            try clear c28
            try clear c28b0
            try clear c28b1
            try clear c28b2
            try clear c31
            try clear c31b0
            try clear c31b1
            try clear c34
            try clear c34b0
            try clear c34b1
            try clear hx145_0
            try clear p145
            try clear p2
            try clear q145
            obtain ⟨kq, x88_19, rfl, HA, HJ19, HO_13, HB⟩ := hcut
            cases kq with
            | zero => exact absurd HA.out (by simp [haulierlaw15_ClauseNames.j1])
            | succ kj19 =>
              have H := HA.out
              clear HA
              simp only [haulierlaw15_ClauseNames.j1] at H
              by_cases c42 : x88_19 = true
              · subst c42
                have H1 : (some false) = some r := by rw [if_pos rfl] at H; exact H
                exact absurd ((Option.some.inj H1).trans HR_.out) (by decide)
              · replace c42 := Bool.eq_false_iff.mpr c42
                subst c42
                have H1 : ((haulierref15_Find.f kj19 a2).bind fun t148 => (if t148 < 0 then (if t140 = 0 then (if t141 = 13 then (if t148 ≥ 0 then (if t140 = t148 then (haulierlaw15_ClauseNames.j2 kj19 a0 a1 t142 x14_1 (t141 != 0)) else (haulierlaw15_ClauseNames.j2 kj19 a0 a1 t142 x14_1 true)) else (haulierlaw15_ClauseNames.j2 kj19 a0 a1 t142 x14_1 false)) else (haulierlaw15_ClauseNames.j2 kj19 a0 a1 t142 x14_1 true)) else (haulierlaw15_ClauseNames.j2 kj19 a0 a1 t142 x14_1 true)) else (if t148 ≥ 0 then (if t140 = t148 then (haulierlaw15_ClauseNames.j2 kj19 a0 a1 t142 x14_1 (t141 != 0)) else (haulierlaw15_ClauseNames.j2 kj19 a0 a1 t142 x14_1 true)) else (haulierlaw15_ClauseNames.j2 kj19 a0 a1 t142 x14_1 false)))) = some r := by rw [if_neg (show ¬ (false = true) by decide)] at H; exact H
                clear H
                have H := H1
                clear H1
                replace H := Option.bind_eq_some_iff.mp H
                obtain ⟨t148, A430, H⟩ := H
                replace H : (if t148 < 0 then (if t140 = 0 then (if t141 = 13 then (if t148 ≥ 0 then (if t140 = t148 then (haulierlaw15_ClauseNames.j2 kj19 a0 a1 t142 x14_1 (t141 != 0)) else (haulierlaw15_ClauseNames.j2 kj19 a0 a1 t142 x14_1 true)) else (haulierlaw15_ClauseNames.j2 kj19 a0 a1 t142 x14_1 false)) else (haulierlaw15_ClauseNames.j2 kj19 a0 a1 t142 x14_1 true)) else (haulierlaw15_ClauseNames.j2 kj19 a0 a1 t142 x14_1 true)) else (if t148 ≥ 0 then (if t140 = t148 then (haulierlaw15_ClauseNames.j2 kj19 a0 a1 t142 x14_1 (t141 != 0)) else (haulierlaw15_ClauseNames.j2 kj19 a0 a1 t142 x14_1 true)) else (haulierlaw15_ClauseNames.j2 kj19 a0 a1 t142 x14_1 false))) = some r := H
                have A43 := Aside0.mk A430
                clear A430
                have HC44 := Aside0.mk H
                clear H
                go_upto_region 16 with (first | ((with_reducible refine gate_callee (f := 30) rfl ?_); refine goesL_ (some 90) rfl rfl Tryd.func30 (by kernel_rfl) rfl #[.string a2] rfl (by (try simp only [List.map_toArray, List.map_cons, List.map_nil]); first | done | rfl | (simp only [List.length_drop, List.length_take]; rfl)) ?_; (with_reducible refine (haulierref15_Find.calls kj19 a2 t148 _ A43.out).mono ?_); rintro e w45 ⟨rfl, hb⟩; refine ⟨_, rfl, ?_⟩; have n0_ := Aside0.mk (Kd.R_below (by (with_reducible repeat (first | apply Kd.R_alloc | apply Kd.R_drewN | apply Kd.R_drew)); exact HO_13.out) hb); have n1_ := Aside0.mk (below_step (by repeat (first | (with_reducible first | exact HB.out | apply below_alloc | apply pw_below_drewN | apply below_drew1) | exact HB.out)) hb); clear HO_13; clear HB; have HO_13 := n0_; have HB := n1_; clear n0_ n1_; (try clear hb); (try clear hb2); (try clear hk); (try clear hi)))
                (try simp only [Act.put, List.setIfInBounds_toArray, List.set_cons_zero, List.set_cons_succ])
                go_cut [113] (fun v113 wc => ∃ (kq : Nat) (x113_43 : Bool), v113 = .bool x113_43 ∧ Aside0 (haulierlaw15_ClauseNames.j2 kq a0 a1 t142 x14_1 x113_43 = some r) ∧ Aside0 (kq ≤ kj19) ∧ Aside0 (Kd.R (Kd.int .i64) 3 wc w.heap.size (fun _ => True) (.slice Ao15 t142.length co15) t142) ∧ Aside0 (Below w.heap.size w wc))
                case first =>
                  have H := HC44.out
                  clear HC44
                  by_cases c46 : t148 < 0
                  · rw [if_pos c46] at H
                    have c46b0 : decide (t148 < 0) = true := decide_eq_true c46
                    clear c46
                    (first | rw [c46b0] | (simp only [i64_w, i32_w]; rw [c46b0]) | skip)
                    by_cases c47 : t140 = 0
                    · rw [if_pos c47] at H
                      have c47b0 : (t140 == 0) = true := beq_iff_eq.mpr c47
                      have c47b1 : (t140 != 0) = false := bne_eq_false_iff_eq.mpr c47
                      clear c47
                      by_cases c48 : t141 = 13
                      · rw [if_pos c48] at H
                        have c48b0 : (t141 == 13) = true := beq_iff_eq.mpr c48
                        have c48b1 : (t141 != 13) = false := bne_eq_false_iff_eq.mpr c48
                        clear c48
                        by_cases c49 : t148 ≥ 0
                        · rw [if_pos c49] at H
                          have c49b0 : decide (0 ≤ t148) = true := decide_eq_true c49
                          clear c49
                          by_cases c50 : t140 = t148
                          · rw [if_pos c50] at H
                            have c50b0 : (t140 == t148) = true := beq_iff_eq.mpr c50
                            have c50b1 : (t140 != t148) = false := bne_eq_false_iff_eq.mpr c50
                            clear c50
                            have H' := Aside0.mk H
                            clear H
                            go_wp2
                            go_meet
                            case rel => exact ⟨_, ((t141 != 0)), (by first | rfl | (simp; done) | (simp [*]; done)), H', ⟨by have := HK1.out; have := HJ19.out; first | omega | exact Nat.le_refl _⟩, ⟨by (with_reducible repeat (first | apply Kd.R_alloc | apply Kd.R_drewN | apply Kd.R_drew)); exact HO_13.out⟩, ⟨by repeat (first | (with_reducible first | exact HB.out | apply below_alloc | apply pw_below_drewN | apply below_drew1) | exact HB.out)⟩⟩
                          · rw [if_neg c50] at H
                            have c50b0 : (t140 == t148) = false := beq_eq_false_iff_ne.mpr c50
                            have c50b1 : (t140 != t148) = true := bne_iff_ne.mpr c50
                            have H' := Aside0.mk H
                            clear H
                            go_wp2
                            go_meet
                            case rel => exact ⟨_, (true), (by first | rfl | (simp; done) | (simp [*]; done)), H', ⟨by have := HK1.out; have := HJ19.out; first | omega | exact Nat.le_refl _⟩, ⟨by (with_reducible repeat (first | apply Kd.R_alloc | apply Kd.R_drewN | apply Kd.R_drew)); exact HO_13.out⟩, ⟨by repeat (first | (with_reducible first | exact HB.out | apply below_alloc | apply pw_below_drewN | apply below_drew1) | exact HB.out)⟩⟩
                        · rw [if_neg c49] at H
                          have c49b0 : decide (0 ≤ t148) = false := decide_eq_false c49
                          clear c49
                          have H' := Aside0.mk H
                          clear H
                          go_wp2
                          go_meet
                          case rel => exact ⟨_, (false), (by first | rfl | (simp; done) | (simp [*]; done)), H', ⟨by have := HK1.out; have := HJ19.out; first | omega | exact Nat.le_refl _⟩, ⟨by (with_reducible repeat (first | apply Kd.R_alloc | apply Kd.R_drewN | apply Kd.R_drew)); exact HO_13.out⟩, ⟨by repeat (first | (with_reducible first | exact HB.out | apply below_alloc | apply pw_below_drewN | apply below_drew1) | exact HB.out)⟩⟩
                      · rw [if_neg c48] at H
                        have c48b0 : (t141 == 13) = false := beq_eq_false_iff_ne.mpr c48
                        have c48b1 : (t141 != 13) = true := bne_iff_ne.mpr c48
                        have H' := Aside0.mk H
                        clear H
                        go_wp2
                        go_meet
                        case rel => exact ⟨_, (true), (by first | rfl | (simp; done) | (simp [*]; done)), H', ⟨by have := HK1.out; have := HJ19.out; first | omega | exact Nat.le_refl _⟩, ⟨by (with_reducible repeat (first | apply Kd.R_alloc | apply Kd.R_drewN | apply Kd.R_drew)); exact HO_13.out⟩, ⟨by repeat (first | (with_reducible first | exact HB.out | apply below_alloc | apply pw_below_drewN | apply below_drew1) | exact HB.out)⟩⟩
                    · rw [if_neg c47] at H
                      have c47b0 : (t140 == 0) = false := beq_eq_false_iff_ne.mpr c47
                      have c47b1 : (t140 != 0) = true := bne_iff_ne.mpr c47
                      have H' := Aside0.mk H
                      clear H
                      go_wp2
                      go_meet
                      case rel => exact ⟨_, (true), (by first | rfl | (simp; done) | (simp [*]; done)), H', ⟨by have := HK1.out; have := HJ19.out; first | omega | exact Nat.le_refl _⟩, ⟨by (with_reducible repeat (first | apply Kd.R_alloc | apply Kd.R_drewN | apply Kd.R_drew)); exact HO_13.out⟩, ⟨by repeat (first | (with_reducible first | exact HB.out | apply below_alloc | apply pw_below_drewN | apply below_drew1) | exact HB.out)⟩⟩
                  · rw [if_neg c46] at H
                    have c46b0 : decide (t148 < 0) = false := decide_eq_false c46
                    clear c46
                    (first | rw [c46b0] | (simp only [i64_w, i32_w]; rw [c46b0]) | skip)
                    by_cases c51 : t148 ≥ 0
                    · rw [if_pos c51] at H
                      have c51b0 : decide (0 ≤ t148) = true := decide_eq_true c51
                      clear c51
                      by_cases c52 : t140 = t148
                      · rw [if_pos c52] at H
                        have c52b0 : (t140 == t148) = true := beq_iff_eq.mpr c52
                        have c52b1 : (t140 != t148) = false := bne_eq_false_iff_eq.mpr c52
                        clear c52
                        have H' := Aside0.mk H
                        clear H
                        go_wp2
                        go_meet
                        case rel => exact ⟨_, ((t141 != 0)), (by first | rfl | (simp; done) | (simp [*]; done)), H', ⟨by have := HK1.out; have := HJ19.out; first | omega | exact Nat.le_refl _⟩, ⟨by (with_reducible repeat (first | apply Kd.R_alloc | apply Kd.R_drewN | apply Kd.R_drew)); exact HO_13.out⟩, ⟨by repeat (first | (with_reducible first | exact HB.out | apply below_alloc | apply pw_below_drewN | apply below_drew1) | exact HB.out)⟩⟩
                      · rw [if_neg c52] at H
                        have c52b0 : (t140 == t148) = false := beq_eq_false_iff_ne.mpr c52
                        have c52b1 : (t140 != t148) = true := bne_iff_ne.mpr c52
                        have H' := Aside0.mk H
                        clear H
                        go_wp2
                        go_meet
                        case rel => exact ⟨_, (true), (by first | rfl | (simp; done) | (simp [*]; done)), H', ⟨by have := HK1.out; have := HJ19.out; first | omega | exact Nat.le_refl _⟩, ⟨by (with_reducible repeat (first | apply Kd.R_alloc | apply Kd.R_drewN | apply Kd.R_drew)); exact HO_13.out⟩, ⟨by repeat (first | (with_reducible first | exact HB.out | apply below_alloc | apply pw_below_drewN | apply below_drew1) | exact HB.out)⟩⟩
                    · rw [if_neg c51] at H
                      have c51b0 : decide (0 ≤ t148) = false := decide_eq_false c51
                      clear c51
                      have H' := Aside0.mk H
                      clear H
                      go_wp2
                      go_meet
                      case rel => exact ⟨_, (false), (by first | rfl | (simp; done) | (simp [*]; done)), H', ⟨by have := HK1.out; have := HJ19.out; first | omega | exact Nat.le_refl _⟩, ⟨by (with_reducible repeat (first | apply Kd.R_alloc | apply Kd.R_drewN | apply Kd.R_drew)); exact HO_13.out⟩, ⟨by repeat (first | (with_reducible first | exact HB.out | apply below_alloc | apply pw_below_drewN | apply below_drew1) | exact HB.out)⟩⟩
                case rest =>
                  clear HC44
                  try clear c1
                  try clear p1
                  try clear q1
                  try clear hx1
                  try clear c2
                  try clear p2
                  try clear c3
                  try clear c4
                  try clear c4b0
                  try clear c4b1
                  try clear c5
                  try clear p6
                  try clear p14
                  try clear q14
                  try clear hx14
                  try clear c16
                  try clear c16b0
                  try clear c17
                  try clear c17b0
                  try clear c18
                  try clear c18b0
                  try clear c19
                  try clear c22
                  try clear c22b0
                  try clear c22b1
                  try clear c23
                  try clear c24
                  try clear c24b0
                  try clear c24b1
                  try clear c25
                  try clear c25b0
                  try clear c25b1
                  try clear c25b2
                  try clear c26
                  try clear c27
                  try clear c28
                  try clear c28b0
                  try clear c28b1
                  try clear c28b2
                  try clear c30
                  try clear c31
                  try clear c31b0
                  try clear c31b1
                  try clear c34
                  try clear c34b0
                  try clear c34b1
                  try clear c42
                  try clear c46
                  try clear c46b0
                  try clear c47
                  try clear c47b0
                  try clear c47b1
                  try clear c48
                  try clear c48b0
                  try clear c48b1
                  try clear c49
                  try clear c49b0
                  try clear c50
                  try clear c50b0
                  try clear c50b1
                  try clear c51
                  try clear c51b0
                  try clear c52
                  try clear c52b0
                  try clear c52b1
                  try clear hx145_0
                  try clear p1
                  try clear p14
                  try clear p145
                  try clear p2
                  try clear p6
                  try clear q1
                  try clear q14
                  try clear q145
                  obtain ⟨kq, x113_43, rfl, HA, HJ43, HO_13, HB⟩ := hcut
                  cases kq with
                  | zero => exact absurd HA.out (by simp [haulierlaw15_ClauseNames.j2])
                  | succ kj43 =>
                    have H := HA.out
                    clear HA
                    simp only [haulierlaw15_ClauseNames.j2] at H
                    by_cases c53 : x113_43 = true
                    · subst c53
                      have H1 : (some false) = some r := by rw [if_pos rfl] at H; exact H
                      exact absurd ((Option.some.inj H1).trans HR_.out) (by decide)
                    · replace c53 := Bool.eq_false_iff.mpr c53
                      subst c53
                      have H1 : ((clause_All.f kj43 a1).bind fun t149 => ((haulierref07_Same.f kj43 t149 t142).bind fun t152 => (if t152 = true then ((clause_In.f a1 a0).bind fun t153 => (if (t153 == x14_1) = true then ((haulierlaw15_alive.f kj43).bind fun t154 => (some t154)) else (some false))) else (some false)))) = some r := by rw [if_neg (show ¬ (false = true) by decide)] at H; exact H
                      clear H
                      have H := H1
                      clear H1
                      replace H := Option.bind_eq_some_iff.mp H
                      obtain ⟨t149, A540, H⟩ := H
                      replace H : ((haulierref07_Same.f kj43 t149 t142).bind fun t152 => (if t152 = true then ((clause_In.f a1 a0).bind fun t153 => (if (t153 == x14_1) = true then ((haulierlaw15_alive.f kj43).bind fun t154 => (some t154)) else (some false))) else (some false))) = some r := H
                      have A54 := Aside0.mk A540
                      clear A540
                      replace H := Option.bind_eq_some_iff.mp H
                      obtain ⟨t152, A550, H⟩ := H
                      replace H : (if t152 = true then ((clause_In.f a1 a0).bind fun t153 => (if (t153 == x14_1) = true then ((haulierlaw15_alive.f kj43).bind fun t154 => (some t154)) else (some false))) else (some false)) = some r := H
                      have A55 := Aside0.mk A550
                      clear A550
                      by_cases c56 : t152 = true
                      · subst c56
                        have H1 : ((clause_In.f a1 a0).bind fun t153 => (if (t153 == x14_1) = true then ((haulierlaw15_alive.f kj43).bind fun t154 => (some t154)) else (some false))) = some r := by rw [if_pos rfl] at H; exact H
                        clear H
                        have H := H1
                        clear H1
                        replace H := Option.bind_eq_some_iff.mp H
                        obtain ⟨t153, A570, H⟩ := H
                        replace H : (if (t153 == x14_1) = true then ((haulierlaw15_alive.f kj43).bind fun t154 => (some t154)) else (some false)) = some r := H
                        have A57 := Aside0.mk A570
                        clear A570
                        by_cases c58 : (t153 == x14_1) = true
                        · rw [if_pos c58] at H
                          have c58b0 : (t153 == x14_1) = true := c58
                          (try (have c58b1 : decide (t153 = x14_1) = true := (show ∀ x_ y_ : Bool, (x_ == y_) = true → decide (x_ = y_) = true by decide) _ _ c58))
                          (try (have c58b2 : (t153 == x14_1) = true := (show ∀ x_ y_ : Bool, (x_ == y_) = true → (x_ == y_) = true by decide) _ _ c58))
                          (try (have c58b3 : (!(t153 == x14_1)) = false := (show ∀ x_ y_ : Bool, (x_ == y_) = true → (!(x_ == y_)) = false by decide) _ _ c58))
                          clear c58
                          replace H := Option.bind_eq_some_iff.mp H
                          obtain ⟨t154, A590, H⟩ := H
                          replace H : (some t154) = some r := H
                          have A59 := Aside0.mk A590
                          clear A590
                          obtain rfl := Option.some.inj H
                          go_wp2_with (first | ((with_reducible refine gate_callee (f := 32) rfl ?_); refine goesL_ (some 115) rfl rfl Tryd.func32 (by kernel_rfl) rfl #[.int .i64 a1] rfl (by (try simp only [List.map_toArray, List.map_cons, List.map_nil]); first | done | rfl | (simp only [List.length_drop, List.length_take]; rfl)) ?_; (with_reducible refine (clause_All.calls kj43 a1 t149 _ A54.out).mono ?_); rintro e w60 ⟨v150, rfl, ho0, hb⟩; refine ⟨_, rfl, ?_⟩; have n0_ := Aside0.mk (Kd.R_elder' (by (with_reducible repeat (first | apply Kd.R_alloc | apply Kd.R_drewN | apply Kd.R_drew)); exact HO_13.out) (Kd.R_base ho0) hb); have n1_ := Aside0.mk (Kd.R_lower (Kd.R_new' ho0 (Kd.R_lt (by (with_reducible repeat (first | apply Kd.R_alloc | apply Kd.R_drewN | apply Kd.R_drew)); exact HO_13.out))) (below_size (by repeat (first | (with_reducible first | exact HB.out | apply below_alloc | apply pw_below_drewN | apply below_drew1) | exact HB.out)))); have n2_ := Aside0.mk (below_step (by repeat (first | (with_reducible first | exact HB.out | apply below_alloc | apply pw_below_drewN | apply below_drew1) | exact HB.out)) hb); clear HO_13; clear HB; have HO_13 := n0_; have HO151 := n1_; have HB := n2_; clear n0_ n1_ n2_; (try clear hb); (try clear hb2); (try clear hk); (try clear hi); (try clear ho0); obtain ⟨Ao61, co61, eo61⟩ := Kd.R_slice HO151.out; subst eo61) | ((with_reducible refine gate_callee (f := 31) rfl ?_); refine goesL_ (some 117) rfl rfl Tryd.func31 (by kernel_rfl) rfl #[.slice Ao61 t149.length co61, .slice Ao15 t142.length co15] rfl (by (try simp only [List.map_toArray, List.map_cons, List.map_nil]); first | done | rfl | (simp only [List.length_drop, List.length_take]; rfl)) ?_; (with_reducible refine (haulierref07_Same.calls kj43 _ _ t149 _ _ t142 true _ ?side1 ?side2 ?side3 ?side4 A55.out).mono ?_); (case side1 => repeat (first | exact (Kd.R_reads' HO151.out).2.2 | (with_reducible refine Kd.C_alloc ?_ _) | (with_reducible refine Kd.C_drewN ?_ _) | (with_reducible refine Kd.C_drew ?_))); (case side2 => exact (Kd.R_reads' HO151.out).2.1); (case side3 => repeat (first | exact (Kd.R_reads' HO_13.out).2.2 | (with_reducible refine Kd.C_alloc ?_ _) | (with_reducible refine Kd.C_drewN ?_ _) | (with_reducible refine Kd.C_drew ?_))); (case side4 => exact (Kd.R_reads' HO_13.out).2.1); rintro e w' ⟨rfl, ⟨nd, rfl⟩⟩; refine ⟨_, rfl, ?_⟩) | (go_at_call 33; (with_reducible refine (clause_In.calls a1 a0 t153 _ A57.out).mono ?_); rintro e w' ⟨rfl, ⟨nd, rfl⟩⟩) | (go_at_call 23; (with_reducible refine (haulierlaw15_alive.calls kj43  t154 _ ?side1 A59.out).mono ?_); (case side1 => exact Laid.below HLd.out (by repeat (first | (with_reducible first | exact HB.out | apply below_alloc | apply pw_below_drewN | apply below_drew1) | exact HB.out))); rintro e w62 ⟨rfl, hb⟩; have n0_ := Aside0.mk (Kd.R_below (by (with_reducible repeat (first | apply Kd.R_alloc | apply Kd.R_drewN | apply Kd.R_drew)); exact HO_13.out) hb); have n1_ := Aside0.mk (Kd.R_below (by (with_reducible repeat (first | apply Kd.R_alloc | apply Kd.R_drewN | apply Kd.R_drew)); exact HO151.out) hb); have n2_ := Aside0.mk (below_step (by repeat (first | (with_reducible first | exact HB.out | apply below_alloc | apply pw_below_drewN | apply below_drew1) | exact HB.out)) hb); clear HO_13; clear HO151; clear HB; have HO_13 := n0_; have HO151 := n1_; have HB := n2_; clear n0_ n1_ n2_; (try clear hb); (try clear hb2); (try clear hk); (try clear hi)))
                          go_ret
                          exact ⟨by first | rfl | (simp [errW_none, errW_some] <;> rfl) | (simp [*, errW_none, errW_some] <;> rfl), by repeat (first | (with_reducible first | exact HB.out | apply below_alloc | apply pw_below_drewN | apply below_drew1) | exact HB.out)⟩
                        · rw [if_neg c58] at H
                          exact absurd ((Option.some.inj H).trans HR_.out) (by decide)
                      · replace c56 := Bool.eq_false_iff.mpr c56
                        subst c56
                        have H1 : (some false) = some r := by rw [if_neg (show ¬ (false = true) by decide)] at H; exact H
                        exact absurd ((Option.some.inj H1).trans HR_.out) (by decide)
end Go.Proofs.YtaaiamfolbcchaaDoor.X2

/- Contracts of the seat's functions: written by xprint.py for this session. -/
import Derived.Test.YtaaiamfolbcchaaDoorX00
import Derived.Test.YtaaiamfolbcchaaDoorX03
import Derived.Test.YtaaiamfolbcchaaDoorX05
import Derived.Test.YtaaiamfolbcchaaDoorX06
namespace Go.Proofs.YtaaiamfolbcchaaDoor.X0
open Go.RowKit Go.Proofs.YtaaiamfolbcchaaDoorW.PrintWords Go.Proofs.YtaaiamfolbcchaaDoorW.PrintLast Go.Proofs.YtaaiamfolbcchaaDoorW.PrintMore Go.Proofs.YtaaiamfolbcchaaDoor.Ext
attribute [local go_sem] max2_int min2_int max_two min_two max_three min_three max_four min_four   -- for this text's walks alone
set_option linter.unusedVariables false
set_option linter.unusedSimpArgs false

/-! ### haulierlaw04_WeekNames: function 6 -/
def haulierlaw04_WeekNames.j0 : Nat → Int → ByteArray → Int → Bool → Option (Bool)
  | 0, _, _, _, _ => none
  | k + 1, x0, x5, x6, x56 => if x56 = true then (some false) else (if x6 = 0 then ((week_Parse.f k x5).bind fun bt201 => (if bt201.1 = x0 then (if bt201.2 = 0 then ((haulierlaw04_alive.f k).bind fun t203 => (some t203)) else (some false)) else (some false))) else ((haulierlaw04_alive.f k).bind fun t204 => (some t204)))
def haulierlaw04_WeekNames.f (k : Nat) (a0 : Int) (a1 : ByteArray) : Option (Bool) := if (a1.size : Int) > 40 then ((haulierlaw04_alive.f k).bind fun t192 => (some t192)) else ((week_Name.f k a0).bind fun bt193 => ((haulierref04_Name.f k a0).bind fun bt195 => ((week_Parse.f k a1).bind fun bt197 => ((haulierref04_Parse.f k a1).bind fun bt199 => (if bt193.1.toList = bt195.1.toList then (if bt193.2 = bt195.2 then (if bt197.1 = bt199.1 then (haulierlaw04_WeekNames.j0 k a0 bt193.1 bt193.2 (bt197.2 != bt199.2)) else (haulierlaw04_WeekNames.j0 k a0 bt193.1 bt193.2 true)) else (haulierlaw04_WeekNames.j0 k a0 bt193.1 bt193.2 true)) else (haulierlaw04_WeekNames.j0 k a0 bt193.1 bt193.2 true))))))
theorem haulierlaw04_WeekNames.mono_l : ∀ k, (∀ y0 y1 y2 y3, LeO (haulierlaw04_WeekNames.j0 k y0 y1 y2 y3) (haulierlaw04_WeekNames.j0 (k + 1) y0 y1 y2 y3))
  | 0 => fun _ _ _ _ r h => by simp [haulierlaw04_WeekNames.j0] at h
  | k + 1 => by
    have ih0 := haulierlaw04_WeekNames.mono_l k
    · intro y0 y1 y2 y3
      unfold haulierlaw04_WeekNames.j0
      repeat' first
      | (with_reducible exact ih0 _ _ _ _)
      | (with_reducible exact haulierlaw04_alive.mono _)
      | (with_reducible exact haulierref04_Name.mono _ _)
      | (with_reducible exact haulierref04_Parse.mono _ _)
      | (with_reducible exact week_Name.mono _ _)
      | (with_reducible exact week_Parse.mono _ _)
      | (with_reducible exact LeO.refl _)
      | (with_reducible exact LeO.none _)
      | (with_reducible refine LeO.ite ?_ ?_)
      | (with_reducible refine LeO.bind ?_ (fun _ => ?_))
      | exact ih0 _ _ _ _
      | exact haulierlaw04_alive.mono _
      | exact haulierref04_Name.mono _ _
      | exact haulierref04_Parse.mono _ _
      | exact week_Name.mono _ _
      | exact week_Parse.mono _ _
      | exact LeO.none _
      | refine LeO.ite ?_ ?_
      | refine LeO.bind ?_ (fun _ => ?_)
theorem haulierlaw04_WeekNames.mono : ∀ a0 a1 k, LeO (haulierlaw04_WeekNames.f k a0 a1) (haulierlaw04_WeekNames.f (k + 1) a0 a1) := by
  intro a0 a1 k
  have ih0 := haulierlaw04_WeekNames.mono_l k
  unfold haulierlaw04_WeekNames.f
  repeat' first
      | (with_reducible exact ih0 _ _ _ _)
      | (with_reducible exact haulierlaw04_alive.mono _)
      | (with_reducible exact haulierref04_Name.mono _ _)
      | (with_reducible exact haulierref04_Parse.mono _ _)
      | (with_reducible exact week_Name.mono _ _)
      | (with_reducible exact week_Parse.mono _ _)
      | (with_reducible exact LeO.refl _)
      | (with_reducible exact LeO.none _)
      | (with_reducible refine LeO.ite ?_ ?_)
      | (with_reducible refine LeO.bind ?_ (fun _ => ?_))
      | exact ih0 _ _ _ _
      | exact haulierlaw04_alive.mono _
      | exact haulierref04_Name.mono _ _
      | exact haulierref04_Parse.mono _ _
      | exact week_Name.mono _ _
      | exact week_Parse.mono _ _
      | exact LeO.none _
      | refine LeO.ite ?_ ?_
      | refine LeO.bind ?_ (fun _ => ?_)
set_option maxHeartbeats 8000000 in
set_option maxRecDepth 100000 in
theorem haulierlaw04_WeekNames.calls (k : Nat) (a0 : Int) (a1 : ByteArray) (r : Bool) (w : World) (hL : Laid [Tb.pow10, Tb.maxLen, Tb.days] w) (h : haulierlaw04_WeekNames.f k a0 a1 = some r) :
    Calls Tryd.prog 6 #[.int .i64 a0, .string a1] w fun e w' => e = .returned (.bool r) ∧ Below w.heap.size w w' := by
  have HB := Aside0.mk (Below.refl w.heap.size w)
  have HLd := Aside0.mk hL
  clear hL
  have H : (if (a1.size : Int) > 40 then ((haulierlaw04_alive.f k).bind fun t192 => (some t192)) else ((week_Name.f k a0).bind fun bt193 => ((haulierref04_Name.f k a0).bind fun bt195 => ((week_Parse.f k a1).bind fun bt197 => ((haulierref04_Parse.f k a1).bind fun bt199 => (if bt193.1.toList = bt195.1.toList then (if bt193.2 = bt195.2 then (if bt197.1 = bt199.1 then (haulierlaw04_WeekNames.j0 k a0 bt193.1 bt193.2 (bt197.2 != bt199.2)) else (haulierlaw04_WeekNames.j0 k a0 bt193.1 bt193.2 true)) else (haulierlaw04_WeekNames.j0 k a0 bt193.1 bt193.2 true)) else (haulierlaw04_WeekNames.j0 k a0 bt193.1 bt193.2 true))))))) = some r := h
  clear h
  by_cases c3 : (a1.size : Int) > 40
  · rw [if_pos c3] at H
    have c3b0 : decide (40 < (a1.size : Int)) = true := decide_eq_true c3
    have c3b1 : decide (40 < a1.size) = true := decide_eq_true (by omega)
    clear c3
    replace H := Option.bind_eq_some_iff.mp H
    obtain ⟨t192, A40, H⟩ := H
    replace H : (some t192) = some r := H
    have A4 := Aside0.mk A40
    clear A40
    obtain rfl := Option.some.inj H
    go_enter Tryd.func6, Tryd.ntmps6
    go_wp2_with (first | ((with_reducible refine gate_callee (f := 19) rfl ?_); refine goesL_ (some 18) rfl rfl Tryd.func19 (by kernel_rfl) rfl #[] rfl (by (try simp only [List.map_toArray, List.map_cons, List.map_nil]); first | done | rfl | (simp only [List.length_drop, List.length_take]; rfl)) ?_; (with_reducible refine (haulierlaw04_alive.calls k  t192 _ ?side1 A4.out).mono ?_); (case side1 => exact Laid.below (Laid.sub (by decide) HLd.out) (by repeat (first | (with_reducible first | exact HB.out | apply below_alloc | apply pw_below_drewN | apply below_drew1) | exact HB.out))); rintro e w5 ⟨rfl, hb⟩; refine ⟨_, rfl, ?_⟩; have n0_ := Aside0.mk (below_step (by repeat (first | (with_reducible first | exact HB.out | apply below_alloc | apply pw_below_drewN | apply below_drew1) | exact HB.out)) hb); clear HB; have HB := n0_; clear n0_; (try clear hb); (try clear hb2); (try clear hk); (try clear hi)))
    go_ret
    exact ⟨by first | rfl | (simp [errW_none, errW_some] <;> rfl) | (simp [*, errW_none, errW_some] <;> rfl), by repeat (first | (with_reducible first | exact HB.out | apply below_alloc | apply pw_below_drewN | apply below_drew1) | exact HB.out)⟩
  · rw [if_neg c3] at H
    have c3b0 : decide (40 < (a1.size : Int)) = false := decide_eq_false c3
    have c3b1 : decide (40 < a1.size) = false := decide_eq_false (by omega)
    clear c3
    replace H := Option.bind_eq_some_iff.mp H
    obtain ⟨⟨t193, t194⟩, A60, H⟩ := H
    replace H : ((haulierref04_Name.f k a0).bind fun bt195 => ((week_Parse.f k a1).bind fun bt197 => ((haulierref04_Parse.f k a1).bind fun bt199 => (if t193.toList = bt195.1.toList then (if t194 = bt195.2 then (if bt197.1 = bt199.1 then (haulierlaw04_WeekNames.j0 k a0 t193 t194 (bt197.2 != bt199.2)) else (haulierlaw04_WeekNames.j0 k a0 t193 t194 true)) else (haulierlaw04_WeekNames.j0 k a0 t193 t194 true)) else (haulierlaw04_WeekNames.j0 k a0 t193 t194 true))))) = some r := H
    have A6 := Aside0.mk A60
    clear A60
    replace H := Option.bind_eq_some_iff.mp H
    obtain ⟨⟨t195, t196⟩, A70, H⟩ := H
    replace H : ((week_Parse.f k a1).bind fun bt197 => ((haulierref04_Parse.f k a1).bind fun bt199 => (if t193.toList = t195.toList then (if t194 = t196 then (if bt197.1 = bt199.1 then (haulierlaw04_WeekNames.j0 k a0 t193 t194 (bt197.2 != bt199.2)) else (haulierlaw04_WeekNames.j0 k a0 t193 t194 true)) else (haulierlaw04_WeekNames.j0 k a0 t193 t194 true)) else (haulierlaw04_WeekNames.j0 k a0 t193 t194 true)))) = some r := H
    have A7 := Aside0.mk A70
    clear A70
    replace H := Option.bind_eq_some_iff.mp H
    obtain ⟨⟨t197, t198⟩, A80, H⟩ := H
    replace H : ((haulierref04_Parse.f k a1).bind fun bt199 => (if t193.toList = t195.toList then (if t194 = t196 then (if t197 = bt199.1 then (haulierlaw04_WeekNames.j0 k a0 t193 t194 (t198 != bt199.2)) else (haulierlaw04_WeekNames.j0 k a0 t193 t194 true)) else (haulierlaw04_WeekNames.j0 k a0 t193 t194 true)) else (haulierlaw04_WeekNames.j0 k a0 t193 t194 true))) = some r := H
    have A8 := Aside0.mk A80
    clear A80
    replace H := Option.bind_eq_some_iff.mp H
    obtain ⟨⟨t199, t200⟩, A90, H⟩ := H
    replace H : (if t193.toList = t195.toList then (if t194 = t196 then (if t197 = t199 then (haulierlaw04_WeekNames.j0 k a0 t193 t194 (t198 != t200)) else (haulierlaw04_WeekNames.j0 k a0 t193 t194 true)) else (haulierlaw04_WeekNames.j0 k a0 t193 t194 true)) else (haulierlaw04_WeekNames.j0 k a0 t193 t194 true)) = some r := H
    have A9 := Aside0.mk A90
    clear A90
    have HC10 := Aside0.mk H
    clear H
    go_enter Tryd.func6, Tryd.ntmps6
    go_upto_region 7 with (first | ((with_reducible refine gate_callee (f := 34) rfl ?_); refine goesL_ (some 21) rfl rfl Tryd.func34 (by kernel_rfl) rfl #[.int .i64 a0] rfl (by (try simp only [List.map_toArray, List.map_cons, List.map_nil]); first | done | rfl | (simp only [List.length_drop, List.length_take]; rfl)) ?_; (with_reducible refine (week_Name.calls k a0 t193 t194 _ ?side1 A6.out).mono ?_); (case side1 => exact Laid.below (Laid.sub (by decide) HLd.out) (by repeat (first | (with_reducible first | exact HB.out | apply below_alloc | apply pw_below_drewN | apply below_drew1) | exact HB.out))); rintro e w11 ⟨rfl, hb⟩; refine ⟨_, rfl, ?_⟩; have n0_ := Aside0.mk (below_step (by repeat (first | (with_reducible first | exact HB.out | apply below_alloc | apply pw_below_drewN | apply below_drew1) | exact HB.out)) hb); clear HB; have HB := n0_; clear n0_; (try clear hb); (try clear hb2); (try clear hk); (try clear hi)) | ((with_reducible refine gate_callee (f := 35) rfl ?_); refine goesL_ (some 26) rfl rfl Tryd.func35 (by kernel_rfl) rfl #[.int .i64 a0] rfl (by (try simp only [List.map_toArray, List.map_cons, List.map_nil]); first | done | rfl | (simp only [List.length_drop, List.length_take]; rfl)) ?_; (with_reducible refine (haulierref04_Name.calls k a0 t195 t196 _ A7.out).mono ?_); rintro e w12 ⟨rfl, hb⟩; refine ⟨_, rfl, ?_⟩; have n0_ := Aside0.mk (below_step (by repeat (first | (with_reducible first | exact HB.out | apply below_alloc | apply pw_below_drewN | apply below_drew1) | exact HB.out)) hb); clear HB; have HB := n0_; clear n0_; (try clear hb); (try clear hb2); (try clear hk); (try clear hi)) | ((with_reducible refine gate_callee (f := 36) rfl ?_); refine goesL_ (some 31) rfl rfl Tryd.func36 (by kernel_rfl) rfl #[.string a1] rfl (by (try simp only [List.map_toArray, List.map_cons, List.map_nil]); first | done | rfl | (simp only [List.length_drop, List.length_take]; rfl)) ?_; (with_reducible refine (week_Parse.calls k a1 t197 t198 _ ?side1 A8.out).mono ?_); (case side1 => exact Laid.below HLd.out (by repeat (first | (with_reducible first | exact HB.out | apply below_alloc | apply pw_below_drewN | apply below_drew1) | exact HB.out))); rintro e w13 ⟨rfl, hb⟩; refine ⟨_, rfl, ?_⟩; have n0_ := Aside0.mk (below_step (by repeat (first | (with_reducible first | exact HB.out | apply below_alloc | apply pw_below_drewN | apply below_drew1) | exact HB.out)) hb); clear HB; have HB := n0_; clear n0_; (try clear hb); (try clear hb2); (try clear hk); (try clear hi)) | ((with_reducible refine gate_callee (f := 37) rfl ?_); refine goesL_ (some 36) rfl rfl Tryd.func37 (by kernel_rfl) rfl #[.string a1] rfl (by (try simp only [List.map_toArray, List.map_cons, List.map_nil]); first | done | rfl | (simp only [List.length_drop, List.length_take]; rfl)) ?_; (with_reducible refine (haulierref04_Parse.calls k a1 t199 t200 _ A9.out).mono ?_); rintro e w14 ⟨rfl, hb⟩; refine ⟨_, rfl, ?_⟩; have n0_ := Aside0.mk (below_step (by repeat (first | (with_reducible first | exact HB.out | apply below_alloc | apply pw_below_drewN | apply below_drew1) | exact HB.out)) hb); clear HB; have HB := n0_; clear n0_; (try clear hb); (try clear hb2); (try clear hk); (try clear hi)))
    (try simp only [Act.put, List.setIfInBounds_toArray, List.set_cons_zero, List.set_cons_succ])
    go_cut [56] (fun v56 wc => ∃ (kq : Nat) (x56_9 : Bool), v56 = .bool x56_9 ∧ Aside0 (haulierlaw04_WeekNames.j0 kq a0 t193 t194 x56_9 = some r) ∧ Aside0 (kq ≤ k) ∧ Aside0 (Below w.heap.size w wc))
    case first =>
      have H := HC10.out
      clear HC10
      by_cases c15 : t193.toList = t195.toList
      · rw [if_pos c15] at H
        have c15b0 : (t193.toList == t195.toList) = true := beq_iff_eq.mpr c15
        have c15b1 : (t193.toList != t195.toList) = false := bne_eq_false_iff_eq.mpr c15
        clear c15
        (first | rw [c15b0] | (simp only [i64_w, i32_w]; rw [c15b0]) | skip)
        by_cases c16 : t194 = t196
        · rw [if_pos c16] at H
          have c16b0 : (t194 == t196) = true := beq_iff_eq.mpr c16
          have c16b1 : (t194 != t196) = false := bne_eq_false_iff_eq.mpr c16
          clear c16
          by_cases c17 : t197 = t199
          · rw [if_pos c17] at H
            have c17b0 : (t197 == t199) = true := beq_iff_eq.mpr c17
            have c17b1 : (t197 != t199) = false := bne_eq_false_iff_eq.mpr c17
            clear c17
            have H' := Aside0.mk H
            clear H
            go_wp2
            go_meet
            case rel => exact ⟨_, ((t198 != t200)), (by first | rfl | (simp; done) | (simp [*]; done)), H', ⟨by first | omega | exact Nat.le_refl _⟩, ⟨by repeat (first | (with_reducible first | exact HB.out | apply below_alloc | apply pw_below_drewN | apply below_drew1) | exact HB.out)⟩⟩
          · rw [if_neg c17] at H
            have c17b0 : (t197 == t199) = false := beq_eq_false_iff_ne.mpr c17
            have c17b1 : (t197 != t199) = true := bne_iff_ne.mpr c17
            have H' := Aside0.mk H
            clear H
            go_wp2
            go_meet
            case rel => exact ⟨_, (true), (by first | rfl | (simp; done) | (simp [*]; done)), H', ⟨by first | omega | exact Nat.le_refl _⟩, ⟨by repeat (first | (with_reducible first | exact HB.out | apply below_alloc | apply pw_below_drewN | apply below_drew1) | exact HB.out)⟩⟩
        · rw [if_neg c16] at H
          have c16b0 : (t194 == t196) = false := beq_eq_false_iff_ne.mpr c16
          have c16b1 : (t194 != t196) = true := bne_iff_ne.mpr c16
          have H' := Aside0.mk H
          clear H
          go_wp2
          go_meet
          case rel => exact ⟨_, (true), (by first | rfl | (simp; done) | (simp [*]; done)), H', ⟨by first | omega | exact Nat.le_refl _⟩, ⟨by repeat (first | (with_reducible first | exact HB.out | apply below_alloc | apply pw_below_drewN | apply below_drew1) | exact HB.out)⟩⟩
      · rw [if_neg c15] at H
        have c15b0 : (t193.toList == t195.toList) = false := beq_eq_false_iff_ne.mpr c15
        have c15b1 : (t193.toList != t195.toList) = true := bne_iff_ne.mpr c15
        (first | rw [c15b0] | (simp only [i64_w, i32_w]; rw [c15b0]) | skip)
        have H' := Aside0.mk H
        clear H
        go_wp2
        go_meet
        case rel => exact ⟨_, (true), (by first | rfl | (simp; done) | (simp [*]; done)), H', ⟨by first | omega | exact Nat.le_refl _⟩, ⟨by repeat (first | (with_reducible first | exact HB.out | apply below_alloc | apply pw_below_drewN | apply below_drew1) | exact HB.out)⟩⟩
    case rest =>
      clear HC10
      try clear c1
      try clear p2
      try clear c3
      try clear c3b0
      try clear c3b1
      try clear c6
      try clear c15
      try clear c15b0
      try clear c15b1
      try clear c16
      try clear c16b0
      try clear c16b1
      try clear c17
      try clear c17b0
      try clear c17b1
      obtain ⟨kq, x56_9, rfl, HA, HJ9, HB⟩ := hcut
      cases kq with
      | zero => exact absurd HA.out (by simp [haulierlaw04_WeekNames.j0])
      | succ kj9 =>
        have H := HA.out
        clear HA
        simp only [haulierlaw04_WeekNames.j0] at H
        by_cases c18 : x56_9 = true
        · subst c18
          have H1 : (some false) = some r := by rw [if_pos rfl] at H; exact H
          clear H
          have H := H1
          clear H1
          obtain rfl := Option.some.inj H
          go_wp2
          go_ret
          exact ⟨by first | rfl | (simp [errW_none, errW_some] <;> rfl) | (simp [*, errW_none, errW_some] <;> rfl), by repeat (first | (with_reducible first | exact HB.out | apply below_alloc | apply pw_below_drewN | apply below_drew1) | exact HB.out)⟩
        · replace c18 := Bool.eq_false_iff.mpr c18
          subst c18
          have H1 : (if t194 = 0 then ((week_Parse.f kj9 t193).bind fun bt201 => (if bt201.1 = a0 then (if bt201.2 = 0 then ((haulierlaw04_alive.f kj9).bind fun t203 => (some t203)) else (some false)) else (some false))) else ((haulierlaw04_alive.f kj9).bind fun t204 => (some t204))) = some r := by rw [if_neg (show ¬ (false = true) by decide)] at H; exact H
          clear H
          have H := H1
          clear H1
          by_cases c19 : t194 = 0
          · rw [if_pos c19] at H
            have c19b0 : (t194 == 0) = true := beq_iff_eq.mpr c19
            have c19b1 : (t194 != 0) = false := bne_eq_false_iff_eq.mpr c19
            clear c19
            replace H := Option.bind_eq_some_iff.mp H
            obtain ⟨⟨t201, t202⟩, A200, H⟩ := H
            replace H : (if t201 = a0 then (if t202 = 0 then ((haulierlaw04_alive.f kj9).bind fun t203 => (some t203)) else (some false)) else (some false)) = some r := H
            have A20 := Aside0.mk A200
            clear A200
            by_cases c21 : t201 = a0
            · rw [if_pos c21] at H
              have c21b0 : (t201 == a0) = true := beq_iff_eq.mpr c21
              have c21b1 : (t201 != a0) = false := bne_eq_false_iff_eq.mpr c21
              clear c21
              by_cases c22 : t202 = 0
              · rw [if_pos c22] at H
                have c22b0 : (t202 == 0) = true := beq_iff_eq.mpr c22
                have c22b1 : (t202 != 0) = false := bne_eq_false_iff_eq.mpr c22
                clear c22
                replace H := Option.bind_eq_some_iff.mp H
                obtain ⟨t203, A230, H⟩ := H
                replace H : (some t203) = some r := H
                have A23 := Aside0.mk A230
                clear A230
                obtain rfl := Option.some.inj H
                go_wp2_with (first | ((with_reducible refine gate_callee (f := 36) rfl ?_); refine goesL_ (some 62) rfl rfl Tryd.func36 (by kernel_rfl) rfl #[.string t193] rfl (by (try simp only [List.map_toArray, List.map_cons, List.map_nil]); first | done | rfl | (simp only [List.length_drop, List.length_take]; rfl)) ?_; (with_reducible refine (week_Parse.calls kj9 t193 t201 t202 _ ?side1 A20.out).mono ?_); (case side1 => exact Laid.below HLd.out (by repeat (first | (with_reducible first | exact HB.out | apply below_alloc | apply pw_below_drewN | apply below_drew1) | exact HB.out))); rintro e w24 ⟨rfl, hb⟩; refine ⟨_, rfl, ?_⟩; have n0_ := Aside0.mk (below_step (by repeat (first | (with_reducible first | exact HB.out | apply below_alloc | apply pw_below_drewN | apply below_drew1) | exact HB.out)) hb); clear HB; have HB := n0_; clear n0_; (try clear hb); (try clear hb2); (try clear hk); (try clear hi)) | (go_at_call 19; (with_reducible refine (haulierlaw04_alive.calls kj9  t203 _ ?side1 A23.out).mono ?_); (case side1 => exact Laid.below (Laid.sub (by decide) HLd.out) (by repeat (first | (with_reducible first | exact HB.out | apply below_alloc | apply pw_below_drewN | apply below_drew1) | exact HB.out))); rintro e w25 ⟨rfl, hb⟩; have n0_ := Aside0.mk (below_step (by repeat (first | (with_reducible first | exact HB.out | apply below_alloc | apply pw_below_drewN | apply below_drew1) | exact HB.out)) hb); clear HB; have HB := n0_; clear n0_; (try clear hb); (try clear hb2); (try clear hk); (try clear hi)))
                go_ret
                exact ⟨by first | rfl | (simp [errW_none, errW_some] <;> rfl) | (simp [*, errW_none, errW_some] <;> rfl), by repeat (first | (with_reducible first | exact HB.out | apply below_alloc | apply pw_below_drewN | apply below_drew1) | exact HB.out)⟩
              · rw [if_neg c22] at H
                have c22b0 : (t202 == 0) = false := beq_eq_false_iff_ne.mpr c22
                have c22b1 : (t202 != 0) = true := bne_iff_ne.mpr c22
                obtain rfl := Option.some.inj H
                go_wp2_with (first | ((with_reducible refine gate_callee (f := 36) rfl ?_); refine goesL_ (some 62) rfl rfl Tryd.func36 (by kernel_rfl) rfl #[.string t193] rfl (by (try simp only [List.map_toArray, List.map_cons, List.map_nil]); first | done | rfl | (simp only [List.length_drop, List.length_take]; rfl)) ?_; (with_reducible refine (week_Parse.calls kj9 t193 t201 t202 _ ?side1 A20.out).mono ?_); (case side1 => exact Laid.below HLd.out (by repeat (first | (with_reducible first | exact HB.out | apply below_alloc | apply pw_below_drewN | apply below_drew1) | exact HB.out))); rintro e w26 ⟨rfl, hb⟩; refine ⟨_, rfl, ?_⟩; have n0_ := Aside0.mk (below_step (by repeat (first | (with_reducible first | exact HB.out | apply below_alloc | apply pw_below_drewN | apply below_drew1) | exact HB.out)) hb); clear HB; have HB := n0_; clear n0_; (try clear hb); (try clear hb2); (try clear hk); (try clear hi)))
                go_ret
                exact ⟨by first | rfl | (simp [errW_none, errW_some] <;> rfl) | (simp [*, errW_none, errW_some] <;> rfl), by repeat (first | (with_reducible first | exact HB.out | apply below_alloc | apply pw_below_drewN | apply below_drew1) | exact HB.out)⟩
            · rw [if_neg c21] at H
              have c21b0 : (t201 == a0) = false := beq_eq_false_iff_ne.mpr c21
              have c21b1 : (t201 != a0) = true := bne_iff_ne.mpr c21
              obtain rfl := Option.some.inj H
              go_wp2_with (first | ((with_reducible refine gate_callee (f := 36) rfl ?_); refine goesL_ (some 62) rfl rfl Tryd.func36 (by kernel_rfl) rfl #[.string t193] rfl (by (try simp only [List.map_toArray, List.map_cons, List.map_nil]); first | done | rfl | (simp only [List.length_drop, List.length_take]; rfl)) ?_; (with_reducible refine (week_Parse.calls kj9 t193 t201 t202 _ ?side1 A20.out).mono ?_); (case side1 => exact Laid.below HLd.out (by repeat (first | (with_reducible first | exact HB.out | apply below_alloc | apply pw_below_drewN | apply below_drew1) | exact HB.out))); rintro e w27 ⟨rfl, hb⟩; refine ⟨_, rfl, ?_⟩; have n0_ := Aside0.mk (below_step (by repeat (first | (with_reducible first | exact HB.out | apply below_alloc | apply pw_below_drewN | apply below_drew1) | exact HB.out)) hb); clear HB; have HB := n0_; clear n0_; (try clear hb); (try clear hb2); (try clear hk); (try clear hi)))
              go_ret
              exact ⟨by first | rfl | (simp [errW_none, errW_some] <;> rfl) | (simp [*, errW_none, errW_some] <;> rfl), by repeat (first | (with_reducible first | exact HB.out | apply below_alloc | apply pw_below_drewN | apply below_drew1) | exact HB.out)⟩
          · rw [if_neg c19] at H
            have c19b0 : (t194 == 0) = false := beq_eq_false_iff_ne.mpr c19
            have c19b1 : (t194 != 0) = true := bne_iff_ne.mpr c19
            replace H := Option.bind_eq_some_iff.mp H
            obtain ⟨t204, A280, H⟩ := H
            replace H : (some t204) = some r := H
            have A28 := Aside0.mk A280
            clear A280
            obtain rfl := Option.some.inj H
            go_wp2_with (first | ((with_reducible refine gate_callee (f := 19) rfl ?_); refine goesL_ (some 59) rfl rfl Tryd.func19 (by kernel_rfl) rfl #[] rfl (by (try simp only [List.map_toArray, List.map_cons, List.map_nil]); first | done | rfl | (simp only [List.length_drop, List.length_take]; rfl)) ?_; (with_reducible refine (haulierlaw04_alive.calls kj9  t204 _ ?side1 A28.out).mono ?_); (case side1 => exact Laid.below (Laid.sub (by decide) HLd.out) (by repeat (first | (with_reducible first | exact HB.out | apply below_alloc | apply pw_below_drewN | apply below_drew1) | exact HB.out))); rintro e w29 ⟨rfl, hb⟩; refine ⟨_, rfl, ?_⟩; have n0_ := Aside0.mk (below_step (by repeat (first | (with_reducible first | exact HB.out | apply below_alloc | apply pw_below_drewN | apply below_drew1) | exact HB.out)) hb); clear HB; have HB := n0_; clear n0_; (try clear hb); (try clear hb2); (try clear hk); (try clear hi)))
            go_ret
            exact ⟨by first | rfl | (simp [errW_none, errW_some] <;> rfl) | (simp [*, errW_none, errW_some] <;> rfl), by repeat (first | (with_reducible first | exact HB.out | apply below_alloc | apply pw_below_drewN | apply below_drew1) | exact HB.out)⟩

end Go.Proofs.YtaaiamfolbcchaaDoor.X0

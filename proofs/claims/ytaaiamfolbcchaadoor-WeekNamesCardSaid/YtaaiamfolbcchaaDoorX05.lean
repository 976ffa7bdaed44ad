/- Contracts of the seat's functions: written by xprint.py for this session. -/
import Derived.Test.YtaaiamfolbcchaaDoorX00
import Derived.Test.YtaaiamfolbcchaaDoorX04
namespace Go.Proofs.YtaaiamfolbcchaaDoor.X0
open Go.RowKit Go.Proofs.YtaaiamfolbcchaaDoorW.PrintWords Go.Proofs.YtaaiamfolbcchaaDoorW.PrintLast Go.Proofs.YtaaiamfolbcchaaDoorW.PrintMore Go.Proofs.YtaaiamfolbcchaaDoor.Ext
attribute [local go_sem] max2_int min2_int max_two min_two max_three min_three max_four min_four   -- for this text's walks alone
set_option linter.unusedVariables false
set_option linter.unusedSimpArgs false

/-! ### haulierref04_Name: function 35 -/
def haulierref04_Name.j0 : Nat → Int → Bool → Option (ByteArray × Int)
  | 0, _, _ => none
  | k + 1, x0, x11 => if x11 = true then (some ((⟨#[]⟩ : ByteArray), 4)) else (if 0 ≤ (wrap64 (3 * (Int.tmod (wrap64 (Int.tdiv x0 1440)) 7))) then (if (wrap64 (3 * (Int.tmod (wrap64 (Int.tdiv x0 1440)) 7))) ≤ (wrap64 ((wrap64 (3 * (Int.tmod (wrap64 (Int.tdiv x0 1440)) 7))) + 3)) then (if (wrap64 ((wrap64 (3 * (Int.tmod (wrap64 (Int.tdiv x0 1440)) 7))) + 3)) ≤ 21 then ((some (([(wrap64 (49 + (wrap64 (Int.tdiv (wrap64 (Int.tdiv x0 1440)) 7)))) % 256] : List Int) : List Int)).bind fun y172 => (if (strOfNums y172).size + 1 ≤ 9223372036854775807 then (if ((strOfNums y172) ++ (⟨#[32]⟩ : ByteArray)).size + ((⟨#[77, 111, 110, 84, 117, 101, 87, 101, 100, 84, 104, 117, 70, 114, 105, 83, 97, 116, 83, 117, 110]⟩ : ByteArray).extract ((wrap64 (3 * (Int.tmod (wrap64 (Int.tdiv x0 1440)) 7))) : Int).toNat ((wrap64 ((wrap64 (3 * (Int.tmod (wrap64 (Int.tdiv x0 1440)) 7))) + 3)) : Int).toNat).size ≤ 9223372036854775807 then (if (((strOfNums y172) ++ (⟨#[32]⟩ : ByteArray)) ++ ((⟨#[77, 111, 110, 84, 117, 101, 87, 101, 100, 84, 104, 117, 70, 114, 105, 83, 97, 116, 83, 117, 110]⟩ : ByteArray).extract ((wrap64 (3 * (Int.tmod (wrap64 (Int.tdiv x0 1440)) 7))) : Int).toNat ((wrap64 ((wrap64 (3 * (Int.tmod (wrap64 (Int.tdiv x0 1440)) 7))) + 3)) : Int).toNat)).size + 1 ≤ 9223372036854775807 then ((haulierref04_two.f (Int.tmod (wrap64 (Int.tdiv x0 60)) 24)).bind fun t175 => (if ((((strOfNums y172) ++ (⟨#[32]⟩ : ByteArray)) ++ ((⟨#[77, 111, 110, 84, 117, 101, 87, 101, 100, 84, 104, 117, 70, 114, 105, 83, 97, 116, 83, 117, 110]⟩ : ByteArray).extract ((wrap64 (3 * (Int.tmod (wrap64 (Int.tdiv x0 1440)) 7))) : Int).toNat ((wrap64 ((wrap64 (3 * (Int.tmod (wrap64 (Int.tdiv x0 1440)) 7))) + 3)) : Int).toNat)) ++ (⟨#[32]⟩ : ByteArray)).size + t175.size ≤ 9223372036854775807 then (if (((((strOfNums y172) ++ (⟨#[32]⟩ : ByteArray)) ++ ((⟨#[77, 111, 110, 84, 117, 101, 87, 101, 100, 84, 104, 117, 70, 114, 105, 83, 97, 116, 83, 117, 110]⟩ : ByteArray).extract ((wrap64 (3 * (Int.tmod (wrap64 (Int.tdiv x0 1440)) 7))) : Int).toNat ((wrap64 ((wrap64 (3 * (Int.tmod (wrap64 (Int.tdiv x0 1440)) 7))) + 3)) : Int).toNat)) ++ (⟨#[32]⟩ : ByteArray)) ++ t175).size + 1 ≤ 9223372036854775807 then ((haulierref04_two.f (Int.tmod x0 60)).bind fun t176 => (if ((((((strOfNums y172) ++ (⟨#[32]⟩ : ByteArray)) ++ ((⟨#[77, 111, 110, 84, 117, 101, 87, 101, 100, 84, 104, 117, 70, 114, 105, 83, 97, 116, 83, 117, 110]⟩ : ByteArray).extract ((wrap64 (3 * (Int.tmod (wrap64 (Int.tdiv x0 1440)) 7))) : Int).toNat ((wrap64 ((wrap64 (3 * (Int.tmod (wrap64 (Int.tdiv x0 1440)) 7))) + 3)) : Int).toNat)) ++ (⟨#[32]⟩ : ByteArray)) ++ t175) ++ (⟨#[58]⟩ : ByteArray)).size + t176.size ≤ 9223372036854775807 then (some (((((((strOfNums y172) ++ (⟨#[32]⟩ : ByteArray)) ++ ((⟨#[77, 111, 110, 84, 117, 101, 87, 101, 100, 84, 104, 117, 70, 114, 105, 83, 97, 116, 83, 117, 110]⟩ : ByteArray).extract ((wrap64 (3 * (Int.tmod (wrap64 (Int.tdiv x0 1440)) 7))) : Int).toNat ((wrap64 ((wrap64 (3 * (Int.tmod (wrap64 (Int.tdiv x0 1440)) 7))) + 3)) : Int).toNat)) ++ (⟨#[32]⟩ : ByteArray)) ++ t175) ++ (⟨#[58]⟩ : ByteArray)) ++ t176, 0)) else (none))) else (none)) else (none))) else (none)) else (none)) else (none))) else (none)) else (none)) else (none))
def haulierref04_Name.f (k : Nat) (a0 : Int) : Option (ByteArray × Int) := if a0 < 0 then (haulierref04_Name.j0 k a0 true) else (haulierref04_Name.j0 k a0 (decide (a0 > 40320)))
theorem haulierref04_Name.mono_l : ∀ k, (∀ y0 y1, LeO (haulierref04_Name.j0 k y0 y1) (haulierref04_Name.j0 (k + 1) y0 y1))
  | 0 => fun _ _ r h => by simp [haulierref04_Name.j0] at h
  | k + 1 => by
    have ih0 := haulierref04_Name.mono_l k
    · intro y0 y1
      unfold haulierref04_Name.j0
      repeat' first
      | (with_reducible exact ih0 _ _)
      | (with_reducible exact LeO.refl _)
      | (with_reducible exact LeO.none _)
      | (with_reducible refine LeO.ite ?_ ?_)
      | (with_reducible refine LeO.bind ?_ (fun _ => ?_))
      | exact ih0 _ _
      | exact LeO.none _
      | refine LeO.ite ?_ ?_
      | refine LeO.bind ?_ (fun _ => ?_)
theorem haulierref04_Name.mono : ∀ a0 k, LeO (haulierref04_Name.f k a0) (haulierref04_Name.f (k + 1) a0) := by
  intro a0 k
  have ih0 := haulierref04_Name.mono_l k
  unfold haulierref04_Name.f
  repeat' first
      | (with_reducible exact ih0 _ _)
      | (with_reducible exact LeO.refl _)
      | (with_reducible exact LeO.none _)
      | (with_reducible refine LeO.ite ?_ ?_)
      | (with_reducible refine LeO.bind ?_ (fun _ => ?_))
      | exact ih0 _ _
      | exact LeO.none _
      | refine LeO.ite ?_ ?_
      | refine LeO.bind ?_ (fun _ => ?_)
def haulierref04_Name.T5 : Bool × List (List Nat × List Nat) := (true, [([], []), ([0], [0]), ([1], [1]), ([2], [2]), ([3], [3]), ([4], [4]), ([5], [5]), ([], []), ([6, 7], [6, 7]), ([8], [8]), ([], []), ([10], [10]), ([11], [11]), ([12], [12]), ([9, 13], [9, 13]), ([14], [14]), ([], []), ([16], [16]), ([17, 13], [17]), ([15, 18], [15, 18]), ([19, 18, 0, 1, 2, 3, 4, 5, 6, 7, 8, 9, 10, 11, 12, 13, 14, 15, 16, 17, 18, 19], [19]), ([20, 0, 1, 2, 3, 4, 5, 6, 7, 8, 9, 10, 11, 12, 13, 14, 15, 16, 17, 18, 19, 20], [])])
def haulierref04_Name.B5 : List Nat := [0, 1, 3, 7, 15, 31, 63, 0, 255, 511, 0, 1024, 3072, 7168, 16383, 32767, 0, 65536, 211968, 524287, 1048575, 2097151]
theorem haulierref04_Name.tab5 : rtab .any (opsOf Tryd.f35 5) = haulierref04_Name.T5 := by kernel_rfl
theorem haulierref04_Name.bits5 : waitsOk haulierref04_Name.T5.2 haulierref04_Name.B5 = true := by kernel_rfl
set_option maxHeartbeats 8000000 in
set_option maxRecDepth 100000 in
theorem haulierref04_Name.calls (k : Nat) (a0 : Int) (r1 : ByteArray) (r2 : Int) (w : World) (h : haulierref04_Name.f k a0 = some (r1, r2)) :
    Calls Tryd.prog 35 #[.int .i64 a0] w fun e w' => e = .returned (.tuple #[.string r1, .int .i64 r2]) ∧ Below w.heap.size w w' := by
  have HB := Aside0.mk (Below.refl w.heap.size w)
  have H : (if a0 < 0 then (haulierref04_Name.j0 k a0 true) else (haulierref04_Name.j0 k a0 (decide (a0 > 40320)))) = some (r1, r2) := h
  clear h
  have HC2 := Aside0.mk H
  clear H
  go_enter Tryd.func35, Tryd.ntmps35
  go_upto_region 1 with (fail)
  go_cut [11] (fun v11 wc => ∃ (kq : Nat) (x11_1 : Bool), v11 = .bool x11_1 ∧ Aside0 (haulierref04_Name.j0 kq a0 x11_1 = some (r1, r2)) ∧ Aside0 (kq ≤ k) ∧ Aside0 (Below w.heap.size w wc))
  case first =>
    have H := HC2.out
    clear HC2
    by_cases c3 : a0 < 0
    · rw [if_pos c3] at H
      have c3b0 : decide (a0 < 0) = true := decide_eq_true c3
      clear c3
      (first | rw [c3b0] | (simp only [i64_w, i32_w]; rw [c3b0]) | skip)
      have H' := Aside0.mk H
      clear H
      go_wp2
      go_meet
      case rel => exact ⟨_, (true), (by first | rfl | (simp; done) | (simp [*]; done)), H', ⟨by first | omega | exact Nat.le_refl _⟩, ⟨by repeat (first | (with_reducible first | exact HB.out | apply below_alloc | apply pw_below_drewN | apply below_drew1) | exact HB.out)⟩⟩
    · rw [if_neg c3] at H
      have c3b0 : decide (a0 < 0) = false := decide_eq_false c3
      clear c3
      (first | rw [c3b0] | (simp only [i64_w, i32_w]; rw [c3b0]) | skip)
      have H' := Aside0.mk H
      clear H
      go_wp2
      go_meet
      case rel => exact ⟨_, (decide (a0 > 40320)), (by first | rfl | (simp; done) | (simp [*]; done)), H', ⟨by first | omega | exact Nat.le_refl _⟩, ⟨by repeat (first | (with_reducible first | exact HB.out | apply below_alloc | apply pw_below_drewN | apply below_drew1) | exact HB.out)⟩⟩
  case rest =>
    clear HC2
    try clear p2
    try clear c3
    try clear c3b0
    obtain ⟨kq, x11_1, rfl, HA, HJ1, HB⟩ := hcut
    cases kq with
    | zero => exact absurd HA.out (by simp [haulierref04_Name.j0])
    | succ kj1 =>
      have H := HA.out
      clear HA
      simp only [haulierref04_Name.j0] at H
      by_cases c4 : x11_1 = true
      · subst c4
        have H1 : (some ((⟨#[]⟩ : ByteArray), 4)) = some (r1, r2) := by rw [if_pos rfl] at H; exact H
        clear H
        have H := H1
        clear H1
        simp only [Option.some.injEq, Prod.mk.injEq] at H
        obtain ⟨rfl, rfl⟩ := H
        go_wp2
        go_ret2
        exact ⟨by first | rfl | (simp [errW_none, errW_some] <;> rfl) | (simp [*, errW_none, errW_some] <;> rfl), by repeat (first | (with_reducible first | exact HB.out | apply below_alloc | apply pw_below_drewN | apply below_drew1) | exact HB.out)⟩
      · replace c4 := Bool.eq_false_iff.mpr c4
        subst c4
        have H1 : (if 0 ≤ (wrap64 (3 * (Int.tmod (wrap64 (Int.tdiv a0 1440)) 7))) then (if (wrap64 (3 * (Int.tmod (wrap64 (Int.tdiv a0 1440)) 7))) ≤ (wrap64 ((wrap64 (3 * (Int.tmod (wrap64 (Int.tdiv a0 1440)) 7))) + 3)) then (if (wrap64 ((wrap64 (3 * (Int.tmod (wrap64 (Int.tdiv a0 1440)) 7))) + 3)) ≤ 21 then ((some (([(wrap64 (49 + (wrap64 (Int.tdiv (wrap64 (Int.tdiv a0 1440)) 7)))) % 256] : List Int) : List Int)).bind fun y172 => (if (strOfNums y172).size + 1 ≤ 9223372036854775807 then (if ((strOfNums y172) ++ (⟨#[32]⟩ : ByteArray)).size + ((⟨#[77, 111, 110, 84, 117, 101, 87, 101, 100, 84, 104, 117, 70, 114, 105, 83, 97, 116, 83, 117, 110]⟩ : ByteArray).extract ((wrap64 (3 * (Int.tmod (wrap64 (Int.tdiv a0 1440)) 7))) : Int).toNat ((wrap64 ((wrap64 (3 * (Int.tmod (wrap64 (Int.tdiv a0 1440)) 7))) + 3)) : Int).toNat).size ≤ 9223372036854775807 then (if (((strOfNums y172) ++ (⟨#[32]⟩ : ByteArray)) ++ ((⟨#[77, 111, 110, 84, 117, 101, 87, 101, 100, 84, 104, 117, 70, 114, 105, 83, 97, 116, 83, 117, 110]⟩ : ByteArray).extract ((wrap64 (3 * (Int.tmod (wrap64 (Int.tdiv a0 1440)) 7))) : Int).toNat ((wrap64 ((wrap64 (3 * (Int.tmod (wrap64 (Int.tdiv a0 1440)) 7))) + 3)) : Int).toNat)).size + 1 ≤ 9223372036854775807 then ((haulierref04_two.f (Int.tmod (wrap64 (Int.tdiv a0 60)) 24)).bind fun t175 => (if ((((strOfNums y172) ++ (⟨#[32]⟩ : ByteArray)) ++ ((⟨#[77, 111, 110, 84, 117, 101, 87, 101, 100, 84, 104, 117, 70, 114, 105, 83, 97, 116, 83, 117, 110]⟩ : ByteArray).extract ((wrap64 (3 * (Int.tmod (wrap64 (Int.tdiv a0 1440)) 7))) : Int).toNat ((wrap64 ((wrap64 (3 * (Int.tmod (wrap64 (Int.tdiv a0 1440)) 7))) + 3)) : Int).toNat)) ++ (⟨#[32]⟩ : ByteArray)).size + t175.size ≤ 9223372036854775807 then (if (((((strOfNums y172) ++ (⟨#[32]⟩ : ByteArray)) ++ ((⟨#[77, 111, 110, 84, 117, 101, 87, 101, 100, 84, 104, 117, 70, 114, 105, 83, 97, 116, 83, 117, 110]⟩ : ByteArray).extract ((wrap64 (3 * (Int.tmod (wrap64 (Int.tdiv a0 1440)) 7))) : Int).toNat ((wrap64 ((wrap64 (3 * (Int.tmod (wrap64 (Int.tdiv a0 1440)) 7))) + 3)) : Int).toNat)) ++ (⟨#[32]⟩ : ByteArray)) ++ t175).size + 1 ≤ 9223372036854775807 then ((haulierref04_two.f (Int.tmod a0 60)).bind fun t176 => (if ((((((strOfNums y172) ++ (⟨#[32]⟩ : ByteArray)) ++ ((⟨#[77, 111, 110, 84, 117, 101, 87, 101, 100, 84, 104, 117, 70, 114, 105, 83, 97, 116, 83, 117, 110]⟩ : ByteArray).extract ((wrap64 (3 * (Int.tmod (wrap64 (Int.tdiv a0 1440)) 7))) : Int).toNat ((wrap64 ((wrap64 (3 * (Int.tmod (wrap64 (Int.tdiv a0 1440)) 7))) + 3)) : Int).toNat)) ++ (⟨#[32]⟩ : ByteArray)) ++ t175) ++ (⟨#[58]⟩ : ByteArray)).size + t176.size ≤ 9223372036854775807 then (some (((((((strOfNums y172) ++ (⟨#[32]⟩ : ByteArray)) ++ ((⟨#[77, 111, 110, 84, 117, 101, 87, 101, 100, 84, 104, 117, 70, 114, 105, 83, 97, 116, 83, 117, 110]⟩ : ByteArray).extract ((wrap64 (3 * (Int.tmod (wrap64 (Int.tdiv a0 1440)) 7))) : Int).toNat ((wrap64 ((wrap64 (3 * (Int.tmod (wrap64 (Int.tdiv a0 1440)) 7))) + 3)) : Int).toNat)) ++ (⟨#[32]⟩ : ByteArray)) ++ t175) ++ (⟨#[58]⟩ : ByteArray)) ++ t176, 0)) else (none))) else (none)) else (none))) else (none)) else (none)) else (none))) else (none)) else (none)) else (none)) = some (r1, r2) := by rw [if_neg (show ¬ (false = true) by decide)] at H; exact H
        clear H
        have H := H1
        clear H1
        obtain ⟨ji5, hji5⟩ : ∃ j_ : Int, (wrap64 (3 * (Int.tmod (wrap64 (Int.tdiv a0 1440)) 7))) = j_ := ⟨_, rfl⟩
        replace H : (if 0 ≤ (ji5) then (if (ji5) ≤ (wrap64 ((ji5) + 3)) then (if (wrap64 ((ji5) + 3)) ≤ 21 then ((some (([(wrap64 (49 + (wrap64 (Int.tdiv (wrap64 (Int.tdiv a0 1440)) 7)))) % 256] : List Int) : List Int)).bind fun y172 => (if (strOfNums y172).size + 1 ≤ 9223372036854775807 then (if ((strOfNums y172) ++ (⟨#[32]⟩ : ByteArray)).size + ((⟨#[77, 111, 110, 84, 117, 101, 87, 101, 100, 84, 104, 117, 70, 114, 105, 83, 97, 116, 83, 117, 110]⟩ : ByteArray).extract ((ji5) : Int).toNat ((wrap64 ((ji5) + 3)) : Int).toNat).size ≤ 9223372036854775807 then (if (((strOfNums y172) ++ (⟨#[32]⟩ : ByteArray)) ++ ((⟨#[77, 111, 110, 84, 117, 101, 87, 101, 100, 84, 104, 117, 70, 114, 105, 83, 97, 116, 83, 117, 110]⟩ : ByteArray).extract ((ji5) : Int).toNat ((wrap64 ((ji5) + 3)) : Int).toNat)).size + 1 ≤ 9223372036854775807 then ((haulierref04_two.f (Int.tmod (wrap64 (Int.tdiv a0 60)) 24)).bind fun t175 => (if ((((strOfNums y172) ++ (⟨#[32]⟩ : ByteArray)) ++ ((⟨#[77, 111, 110, 84, 117, 101, 87, 101, 100, 84, 104, 117, 70, 114, 105, 83, 97, 116, 83, 117, 110]⟩ : ByteArray).extract ((ji5) : Int).toNat ((wrap64 ((ji5) + 3)) : Int).toNat)) ++ (⟨#[32]⟩ : ByteArray)).size + t175.size ≤ 9223372036854775807 then (if (((((strOfNums y172) ++ (⟨#[32]⟩ : ByteArray)) ++ ((⟨#[77, 111, 110, 84, 117, 101, 87, 101, 100, 84, 104, 117, 70, 114, 105, 83, 97, 116, 83, 117, 110]⟩ : ByteArray).extract ((ji5) : Int).toNat ((wrap64 ((ji5) + 3)) : Int).toNat)) ++ (⟨#[32]⟩ : ByteArray)) ++ t175).size + 1 ≤ 9223372036854775807 then ((haulierref04_two.f (Int.tmod a0 60)).bind fun t176 => (if ((((((strOfNums y172) ++ (⟨#[32]⟩ : ByteArray)) ++ ((⟨#[77, 111, 110, 84, 117, 101, 87, 101, 100, 84, 104, 117, 70, 114, 105, 83, 97, 116, 83, 117, 110]⟩ : ByteArray).extract ((ji5) : Int).toNat ((wrap64 ((ji5) + 3)) : Int).toNat)) ++ (⟨#[32]⟩ : ByteArray)) ++ t175) ++ (⟨#[58]⟩ : ByteArray)).size + t176.size ≤ 9223372036854775807 then (some (((((((strOfNums y172) ++ (⟨#[32]⟩ : ByteArray)) ++ ((⟨#[77, 111, 110, 84, 117, 101, 87, 101, 100, 84, 104, 117, 70, 114, 105, 83, 97, 116, 83, 117, 110]⟩ : ByteArray).extract ((ji5) : Int).toNat ((wrap64 ((ji5) + 3)) : Int).toNat)) ++ (⟨#[32]⟩ : ByteArray)) ++ t175) ++ (⟨#[58]⟩ : ByteArray)) ++ t176, 0)) else (none))) else (none)) else (none))) else (none)) else (none)) else (none))) else (none)) else (none)) else (none)) = some (r1, r2) := by first | (rw [hji5] at H; exact H) | (simp only [hji5] at H ⊢; exact H)
        have hji5w : (IntKind.i64.wrap (3 * (Int.tmod (wrap64 (Int.tdiv a0 1440)) 7))) = ji5 := (i64_w _).trans hji5
        by_cases c6 : 0 ≤ (ji5)
        · rw [if_pos c6] at H
          have c6b0 := eq_true c6
          have c6b1 : decide (0 ≤ (ji5)) = true := decide_eq_true c6
          clear c6
          by_cases c7 : (ji5) ≤ (wrap64 ((ji5) + 3))
          · rw [if_pos c7] at H
            have c7b0 := eq_true c7
            have c7b1 : decide ((ji5) ≤ (wrap64 ((ji5) + 3))) = true := decide_eq_true c7
            by_cases c8 : (wrap64 ((ji5) + 3)) ≤ 21
            · rw [if_pos c8] at H
              have c8b0 := eq_true c8
              have c8b1 : decide ((wrap64 ((ji5) + 3)) ≤ 21) = true := decide_eq_true c8
              obtain ⟨y172, hy172⟩ : ∃ y_ : List Int, y_ = (([(wrap64 (49 + (wrap64 (Int.tdiv (wrap64 (Int.tdiv a0 1440)) 7)))) % 256] : List Int)) := ⟨_, rfl⟩
              replace H : (if (strOfNums y172).size + 1 ≤ 9223372036854775807 then (if ((strOfNums y172) ++ (⟨#[32]⟩ : ByteArray)).size + ((⟨#[77, 111, 110, 84, 117, 101, 87, 101, 100, 84, 104, 117, 70, 114, 105, 83, 97, 116, 83, 117, 110]⟩ : ByteArray).extract ((ji5) : Int).toNat ((wrap64 ((ji5) + 3)) : Int).toNat).size ≤ 9223372036854775807 then (if (((strOfNums y172) ++ (⟨#[32]⟩ : ByteArray)) ++ ((⟨#[77, 111, 110, 84, 117, 101, 87, 101, 100, 84, 104, 117, 70, 114, 105, 83, 97, 116, 83, 117, 110]⟩ : ByteArray).extract ((ji5) : Int).toNat ((wrap64 ((ji5) + 3)) : Int).toNat)).size + 1 ≤ 9223372036854775807 then ((haulierref04_two.f (Int.tmod (wrap64 (Int.tdiv a0 60)) 24)).bind fun t175 => (if ((((strOfNums y172) ++ (⟨#[32]⟩ : ByteArray)) ++ ((⟨#[77, 111, 110, 84, 117, 101, 87, 101, 100, 84, 104, 117, 70, 114, 105, 83, 97, 116, 83, 117, 110]⟩ : ByteArray).extract ((ji5) : Int).toNat ((wrap64 ((ji5) + 3)) : Int).toNat)) ++ (⟨#[32]⟩ : ByteArray)).size + t175.size ≤ 9223372036854775807 then (if (((((strOfNums y172) ++ (⟨#[32]⟩ : ByteArray)) ++ ((⟨#[77, 111, 110, 84, 117, 101, 87, 101, 100, 84, 104, 117, 70, 114, 105, 83, 97, 116, 83, 117, 110]⟩ : ByteArray).extract ((ji5) : Int).toNat ((wrap64 ((ji5) + 3)) : Int).toNat)) ++ (⟨#[32]⟩ : ByteArray)) ++ t175).size + 1 ≤ 9223372036854775807 then ((haulierref04_two.f (Int.tmod a0 60)).bind fun t176 => (if ((((((strOfNums y172) ++ (⟨#[32]⟩ : ByteArray)) ++ ((⟨#[77, 111, 110, 84, 117, 101, 87, 101, 100, 84, 104, 117, 70, 114, 105, 83, 97, 116, 83, 117, 110]⟩ : ByteArray).extract ((ji5) : Int).toNat ((wrap64 ((ji5) + 3)) : Int).toNat)) ++ (⟨#[32]⟩ : ByteArray)) ++ t175) ++ (⟨#[58]⟩ : ByteArray)).size + t176.size ≤ 9223372036854775807 then (some (((((((strOfNums y172) ++ (⟨#[32]⟩ : ByteArray)) ++ ((⟨#[77, 111, 110, 84, 117, 101, 87, 101, 100, 84, 104, 117, 70, 114, 105, 83, 97, 116, 83, 117, 110]⟩ : ByteArray).extract ((ji5) : Int).toNat ((wrap64 ((ji5) + 3)) : Int).toNat)) ++ (⟨#[32]⟩ : ByteArray)) ++ t175) ++ (⟨#[58]⟩ : ByteArray)) ++ t176, 0)) else (none))) else (none)) else (none))) else (none)) else (none)) else (none)) = some (r1, r2) := by first | (rw [hy172]; with_reducible exact H) | (have H2_ := (Option.bind_some _ _).symm.trans H; rw [hy172]; with_reducible exact H2_) | (have H2_ := (Option.bind_some _ _).symm.trans H; with_reducible exact H2_) | with_reducible exact H | (rw [hy172]; exact H) | exact H
              have Ny172 := Aside0.mk hy172
              clear hy172
              by_cases c9 : (strOfNums y172).size + 1 ≤ 9223372036854775807
              · rw [if_pos c9] at H
                have c9b0 := eq_true c9
                have c9b1 : decide ((strOfNums y172).size + 1 ≤ 9223372036854775807) = true := decide_eq_true c9
                try have c9b2 : (9223372036854775807 < (strOfNums y172).size + 1) = False := eq_false (Nat.not_lt.2 c9)
                by_cases c10 : ((strOfNums y172) ++ (⟨#[32]⟩ : ByteArray)).size + ((⟨#[77, 111, 110, 84, 117, 101, 87, 101, 100, 84, 104, 117, 70, 114, 105, 83, 97, 116, 83, 117, 110]⟩ : ByteArray).extract ((ji5) : Int).toNat ((wrap64 ((ji5) + 3)) : Int).toNat).size ≤ 9223372036854775807
                · rw [if_pos c10] at H
                  have c10b0 := eq_true c10
                  have c10b1 : decide (((strOfNums y172) ++ (⟨#[32]⟩ : ByteArray)).size + ((⟨#[77, 111, 110, 84, 117, 101, 87, 101, 100, 84, 104, 117, 70, 114, 105, 83, 97, 116, 83, 117, 110]⟩ : ByteArray).extract ((ji5) : Int).toNat ((wrap64 ((ji5) + 3)) : Int).toNat).size ≤ 9223372036854775807) = true := decide_eq_true c10
                  try have c10b2 : (9223372036854775807 < ((strOfNums y172) ++ (⟨#[32]⟩ : ByteArray)).size + ((⟨#[77, 111, 110, 84, 117, 101, 87, 101, 100, 84, 104, 117, 70, 114, 105, 83, 97, 116, 83, 117, 110]⟩ : ByteArray).extract ((ji5) : Int).toNat ((wrap64 ((ji5) + 3)) : Int).toNat).size) = False := eq_false (Nat.not_lt.2 c10)
                  try have c10b4 : (9223372036854775807 < (strOfNums y172).size + 1 + ((((wrap64 ((ji5) + 3)) : Int).toNat - ((ji5) : Int).toNat))) = False := eq_false (by have h_ := c10; simp only [ByteArray.size_append, ByteArray.size_extract, show (⟨#[32]⟩ : ByteArray).size = 1 from rfl, show (⟨#[77, 111, 110, 84, 117, 101, 87, 101, 100, 84, 104, 117, 70, 114, 105, 83, 97, 116, 83, 117, 110]⟩ : ByteArray).size = 21 from rfl] at h_; omega)
                  by_cases c11 : (((strOfNums y172) ++ (⟨#[32]⟩ : ByteArray)) ++ ((⟨#[77, 111, 110, 84, 117, 101, 87, 101, 100, 84, 104, 117, 70, 114, 105, 83, 97, 116, 83, 117, 110]⟩ : ByteArray).extract ((ji5) : Int).toNat ((wrap64 ((ji5) + 3)) : Int).toNat)).size + 1 ≤ 9223372036854775807
                  · rw [if_pos c11] at H
                    have c11b0 := eq_true c11
                    have c11b1 : decide ((((strOfNums y172) ++ (⟨#[32]⟩ : ByteArray)) ++ ((⟨#[77, 111, 110, 84, 117, 101, 87, 101, 100, 84, 104, 117, 70, 114, 105, 83, 97, 116, 83, 117, 110]⟩ : ByteArray).extract ((ji5) : Int).toNat ((wrap64 ((ji5) + 3)) : Int).toNat)).size + 1 ≤ 9223372036854775807) = true := decide_eq_true c11
                    try have c11b2 : (9223372036854775807 < (((strOfNums y172) ++ (⟨#[32]⟩ : ByteArray)) ++ ((⟨#[77, 111, 110, 84, 117, 101, 87, 101, 100, 84, 104, 117, 70, 114, 105, 83, 97, 116, 83, 117, 110]⟩ : ByteArray).extract ((ji5) : Int).toNat ((wrap64 ((ji5) + 3)) : Int).toNat)).size + 1) = False := eq_false (Nat.not_lt.2 c11)
                    try have c11b4 : (9223372036854775807 < (strOfNums y172).size + 1 + ((((wrap64 ((ji5) + 3)) : Int).toNat - ((ji5) : Int).toNat)) + 1) = False := eq_false (by have h_ := c11; simp only [ByteArray.size_append, ByteArray.size_extract, show (⟨#[32]⟩ : ByteArray).size = 1 from rfl, show (⟨#[77, 111, 110, 84, 117, 101, 87, 101, 100, 84, 104, 117, 70, 114, 105, 83, 97, 116, 83, 117, 110]⟩ : ByteArray).size = 21 from rfl] at h_; omega)
                    try have c11b5 : (9223372036854775806 < (strOfNums y172).size + 1 + ((((wrap64 ((ji5) + 3)) : Int).toNat - ((ji5) : Int).toNat))) = False := eq_false (by have h_ := c11; simp only [ByteArray.size_append, ByteArray.size_extract, show (⟨#[32]⟩ : ByteArray).size = 1 from rfl, show (⟨#[77, 111, 110, 84, 117, 101, 87, 101, 100, 84, 104, 117, 70, 114, 105, 83, 97, 116, 83, 117, 110]⟩ : ByteArray).size = 21 from rfl] at h_; omega)
                    replace H := Option.bind_eq_some_iff.mp H
                    obtain ⟨t175, A120, H⟩ := H
                    replace H : (if ((((strOfNums y172) ++ (⟨#[32]⟩ : ByteArray)) ++ ((⟨#[77, 111, 110, 84, 117, 101, 87, 101, 100, 84, 104, 117, 70, 114, 105, 83, 97, 116, 83, 117, 110]⟩ : ByteArray).extract ((ji5) : Int).toNat ((wrap64 ((ji5) + 3)) : Int).toNat)) ++ (⟨#[32]⟩ : ByteArray)).size + t175.size ≤ 9223372036854775807 then (if (((((strOfNums y172) ++ (⟨#[32]⟩ : ByteArray)) ++ ((⟨#[77, 111, 110, 84, 117, 101, 87, 101, 100, 84, 104, 117, 70, 114, 105, 83, 97, 116, 83, 117, 110]⟩ : ByteArray).extract ((ji5) : Int).toNat ((wrap64 ((ji5) + 3)) : Int).toNat)) ++ (⟨#[32]⟩ : ByteArray)) ++ t175).size + 1 ≤ 9223372036854775807 then ((haulierref04_two.f (Int.tmod a0 60)).bind fun t176 => (if ((((((strOfNums y172) ++ (⟨#[32]⟩ : ByteArray)) ++ ((⟨#[77, 111, 110, 84, 117, 101, 87, 101, 100, 84, 104, 117, 70, 114, 105, 83, 97, 116, 83, 117, 110]⟩ : ByteArray).extract ((ji5) : Int).toNat ((wrap64 ((ji5) + 3)) : Int).toNat)) ++ (⟨#[32]⟩ : ByteArray)) ++ t175) ++ (⟨#[58]⟩ : ByteArray)).size + t176.size ≤ 9223372036854775807 then (some (((((((strOfNums y172) ++ (⟨#[32]⟩ : ByteArray)) ++ ((⟨#[77, 111, 110, 84, 117, 101, 87, 101, 100, 84, 104, 117, 70, 114, 105, 83, 97, 116, 83, 117, 110]⟩ : ByteArray).extract ((ji5) : Int).toNat ((wrap64 ((ji5) + 3)) : Int).toNat)) ++ (⟨#[32]⟩ : ByteArray)) ++ t175) ++ (⟨#[58]⟩ : ByteArray)) ++ t176, 0)) else (none))) else (none)) else (none)) = some (r1, r2) := H
                    have A12 := Aside0.mk A120
                    clear A120
                    by_cases c13 : ((((strOfNums y172) ++ (⟨#[32]⟩ : ByteArray)) ++ ((⟨#[77, 111, 110, 84, 117, 101, 87, 101, 100, 84, 104, 117, 70, 114, 105, 83, 97, 116, 83, 117, 110]⟩ : ByteArray).extract ((ji5) : Int).toNat ((wrap64 ((ji5) + 3)) : Int).toNat)) ++ (⟨#[32]⟩ : ByteArray)).size + t175.size ≤ 9223372036854775807
                    · rw [if_pos c13] at H
                      have c13b0 := eq_true c13
                      have c13b1 : decide (((((strOfNums y172) ++ (⟨#[32]⟩ : ByteArray)) ++ ((⟨#[77, 111, 110, 84, 117, 101, 87, 101, 100, 84, 104, 117, 70, 114, 105, 83, 97, 116, 83, 117, 110]⟩ : ByteArray).extract ((ji5) : Int).toNat ((wrap64 ((ji5) + 3)) : Int).toNat)) ++ (⟨#[32]⟩ : ByteArray)).size + t175.size ≤ 9223372036854775807) = true := decide_eq_true c13
                      try have c13b2 : (9223372036854775807 < ((((strOfNums y172) ++ (⟨#[32]⟩ : ByteArray)) ++ ((⟨#[77, 111, 110, 84, 117, 101, 87, 101, 100, 84, 104, 117, 70, 114, 105, 83, 97, 116, 83, 117, 110]⟩ : ByteArray).extract ((ji5) : Int).toNat ((wrap64 ((ji5) + 3)) : Int).toNat)) ++ (⟨#[32]⟩ : ByteArray)).size + t175.size) = False := eq_false (Nat.not_lt.2 c13)
                      try have c13b4 : (9223372036854775807 < (strOfNums y172).size + 1 + ((((wrap64 ((ji5) + 3)) : Int).toNat - ((ji5) : Int).toNat)) + 1 + t175.size) = False := eq_false (by have h_ := c13; simp only [ByteArray.size_append, ByteArray.size_extract, show (⟨#[32]⟩ : ByteArray).size = 1 from rfl, show (⟨#[77, 111, 110, 84, 117, 101, 87, 101, 100, 84, 104, 117, 70, 114, 105, 83, 97, 116, 83, 117, 110]⟩ : ByteArray).size = 21 from rfl] at h_; omega)
                      by_cases c14 : (((((strOfNums y172) ++ (⟨#[32]⟩ : ByteArray)) ++ ((⟨#[77, 111, 110, 84, 117, 101, 87, 101, 100, 84, 104, 117, 70, 114, 105, 83, 97, 116, 83, 117, 110]⟩ : ByteArray).extract ((ji5) : Int).toNat ((wrap64 ((ji5) + 3)) : Int).toNat)) ++ (⟨#[32]⟩ : ByteArray)) ++ t175).size + 1 ≤ 9223372036854775807
                      · rw [if_pos c14] at H
                        have c14b0 := eq_true c14
                        have c14b1 : decide ((((((strOfNums y172) ++ (⟨#[32]⟩ : ByteArray)) ++ ((⟨#[77, 111, 110, 84, 117, 101, 87, 101, 100, 84, 104, 117, 70, 114, 105, 83, 97, 116, 83, 117, 110]⟩ : ByteArray).extract ((ji5) : Int).toNat ((wrap64 ((ji5) + 3)) : Int).toNat)) ++ (⟨#[32]⟩ : ByteArray)) ++ t175).size + 1 ≤ 9223372036854775807) = true := decide_eq_true c14
                        try have c14b2 : (9223372036854775807 < (((((strOfNums y172) ++ (⟨#[32]⟩ : ByteArray)) ++ ((⟨#[77, 111, 110, 84, 117, 101, 87, 101, 100, 84, 104, 117, 70, 114, 105, 83, 97, 116, 83, 117, 110]⟩ : ByteArray).extract ((ji5) : Int).toNat ((wrap64 ((ji5) + 3)) : Int).toNat)) ++ (⟨#[32]⟩ : ByteArray)) ++ t175).size + 1) = False := eq_false (Nat.not_lt.2 c14)
                        try have c14b4 : (9223372036854775807 < (strOfNums y172).size + 1 + ((((wrap64 ((ji5) + 3)) : Int).toNat - ((ji5) : Int).toNat)) + 1 + t175.size + 1) = False := eq_false (by have h_ := c14; simp only [ByteArray.size_append, ByteArray.size_extract, show (⟨#[32]⟩ : ByteArray).size = 1 from rfl, show (⟨#[77, 111, 110, 84, 117, 101, 87, 101, 100, 84, 104, 117, 70, 114, 105, 83, 97, 116, 83, 117, 110]⟩ : ByteArray).size = 21 from rfl] at h_; omega)
                        try have c14b5 : (9223372036854775806 < (strOfNums y172).size + 1 + ((((wrap64 ((ji5) + 3)) : Int).toNat - ((ji5) : Int).toNat)) + 1 + t175.size) = False := eq_false (by have h_ := c14; simp only [ByteArray.size_append, ByteArray.size_extract, show (⟨#[32]⟩ : ByteArray).size = 1 from rfl, show (⟨#[77, 111, 110, 84, 117, 101, 87, 101, 100, 84, 104, 117, 70, 114, 105, 83, 97, 116, 83, 117, 110]⟩ : ByteArray).size = 21 from rfl] at h_; omega)
                        replace H := Option.bind_eq_some_iff.mp H
                        obtain ⟨t176, A150, H⟩ := H
                        replace H : (if ((((((strOfNums y172) ++ (⟨#[32]⟩ : ByteArray)) ++ ((⟨#[77, 111, 110, 84, 117, 101, 87, 101, 100, 84, 104, 117, 70, 114, 105, 83, 97, 116, 83, 117, 110]⟩ : ByteArray).extract ((ji5) : Int).toNat ((wrap64 ((ji5) + 3)) : Int).toNat)) ++ (⟨#[32]⟩ : ByteArray)) ++ t175) ++ (⟨#[58]⟩ : ByteArray)).size + t176.size ≤ 9223372036854775807 then (some (((((((strOfNums y172) ++ (⟨#[32]⟩ : ByteArray)) ++ ((⟨#[77, 111, 110, 84, 117, 101, 87, 101, 100, 84, 104, 117, 70, 114, 105, 83, 97, 116, 83, 117, 110]⟩ : ByteArray).extract ((ji5) : Int).toNat ((wrap64 ((ji5) + 3)) : Int).toNat)) ++ (⟨#[32]⟩ : ByteArray)) ++ t175) ++ (⟨#[58]⟩ : ByteArray)) ++ t176, 0)) else (none)) = some (r1, r2) := H
                        have A15 := Aside0.mk A150
                        clear A150
                        by_cases c16 : ((((((strOfNums y172) ++ (⟨#[32]⟩ : ByteArray)) ++ ((⟨#[77, 111, 110, 84, 117, 101, 87, 101, 100, 84, 104, 117, 70, 114, 105, 83, 97, 116, 83, 117, 110]⟩ : ByteArray).extract ((ji5) : Int).toNat ((wrap64 ((ji5) + 3)) : Int).toNat)) ++ (⟨#[32]⟩ : ByteArray)) ++ t175) ++ (⟨#[58]⟩ : ByteArray)).size + t176.size ≤ 9223372036854775807
                        · rw [if_pos c16] at H
                          have c16b0 := eq_true c16
                          have c16b1 : decide (((((((strOfNums y172) ++ (⟨#[32]⟩ : ByteArray)) ++ ((⟨#[77, 111, 110, 84, 117, 101, 87, 101, 100, 84, 104, 117, 70, 114, 105, 83, 97, 116, 83, 117, 110]⟩ : ByteArray).extract ((ji5) : Int).toNat ((wrap64 ((ji5) + 3)) : Int).toNat)) ++ (⟨#[32]⟩ : ByteArray)) ++ t175) ++ (⟨#[58]⟩ : ByteArray)).size + t176.size ≤ 9223372036854775807) = true := decide_eq_true c16
                          try have c16b2 : (9223372036854775807 < ((((((strOfNums y172) ++ (⟨#[32]⟩ : ByteArray)) ++ ((⟨#[77, 111, 110, 84, 117, 101, 87, 101, 100, 84, 104, 117, 70, 114, 105, 83, 97, 116, 83, 117, 110]⟩ : ByteArray).extract ((ji5) : Int).toNat ((wrap64 ((ji5) + 3)) : Int).toNat)) ++ (⟨#[32]⟩ : ByteArray)) ++ t175) ++ (⟨#[58]⟩ : ByteArray)).size + t176.size) = False := eq_false (Nat.not_lt.2 c16)
                          try have c16b4 : (9223372036854775807 < (strOfNums y172).size + 1 + ((((wrap64 ((ji5) + 3)) : Int).toNat - ((ji5) : Int).toNat)) + 1 + t175.size + 1 + t176.size) = False := eq_false (by have h_ := c16; simp only [ByteArray.size_append, ByteArray.size_extract, show (⟨#[32]⟩ : ByteArray).size = 1 from rfl, show (⟨#[58]⟩ : ByteArray).size = 1 from rfl, show (⟨#[77, 111, 110, 84, 117, 101, 87, 101, 100, 84, 104, 117, 70, 114, 105, 83, 97, 116, 83, 117, 110]⟩ : ByteArray).size = 21 from rfl] at h_; omega)
                          simp only [Option.some.injEq, Prod.mk.injEq] at H
                          obtain ⟨rfl, rfl⟩ := H
                          try go_wp2
                          have n0_ := Aside0.mk (below_drew1 HB.out)
                          clear HB
                          have HB := n0_
                          clear n0_
                          refine start_ (n := 22) (S := fun w' => True) (ds := []) #[false, false, false, false, false, false, false, false, false, false, false, false, false, false, false, false, false, false, false, false, false, false] (by kernel_rfl) rfl rfl trivial (fun hHeld => ?_); refine with_tabW haulierref04_Name.tab5 haulierref04_Name.bits5 (fun HT_ HW_ => ?_)
                          generalize wc.drew = w17 at HB hHeld ⊢
                          refine pure_ (i := 0) (N := some 22) (v := ?_) (a' := ?_) #[true, false, false, false, false, false, false, false, false, false, false, false, false, false, false, false, false, false, false, false, false, false] rfl rfl (any_of HT_.out (by kernel_rfl)) (fun _ _ _ h => h) (Or.inl ⟨by rfl, ?_⟩) ?_ ?_
                          rotate_left
                          · intro w'
                            go_simp
                            with_reducible rfl
                          rotate_left
                          · simp only [Act.put, List.setIfInBounds_toArray, List.set_cons_zero, List.set_cons_succ, i64_w, i32_w]
                            rfl
                          refine pure_ (i := 1) (N := some 23) (v := ?_) (a' := ?_) #[true, true, false, false, false, false, false, false, false, false, false, false, false, false, false, false, false, false, false, false, false, false] rfl rfl (any_of HT_.out (by kernel_rfl)) (fun _ _ _ h => h) (Or.inl ⟨by rfl, ?_⟩) ?_ ?_
                          rotate_left
                          · intro w'
                            go_simp
                            with_reducible rfl
                          rotate_left
                          · simp only [Act.put, List.setIfInBounds_toArray, List.set_cons_zero, List.set_cons_succ, i64_w, i32_w]
                            rfl
                          refine pure_ (i := 2) (N := some 24) (v := ?_) (a' := ?_) #[true, true, true, false, false, false, false, false, false, false, false, false, false, false, false, false, false, false, false, false, false, false] rfl rfl (any_of HT_.out (by kernel_rfl)) (fun _ _ _ h => h) (Or.inl ⟨by rfl, ?_⟩) ?_ ?_
                          rotate_left
                          · intro w'
                            go_simp
                            with_reducible rfl
                          rotate_left
                          · simp only [Act.put, List.setIfInBounds_toArray, List.set_cons_zero, List.set_cons_succ, i64_w, i32_w]
                            rfl
                          refine pure_ (i := 3) (N := some 25) (v := ?_) (a' := ?_) #[true, true, true, true, false, false, false, false, false, false, false, false, false, false, false, false, false, false, false, false, false, false] rfl rfl (any_of HT_.out (by kernel_rfl)) (fun _ _ _ h => h) (Or.inl ⟨by rfl, ?_⟩) ?_ ?_
                          rotate_left
                          · intro w'
                            go_simp
                            with_reducible rfl
                          rotate_left
                          · simp only [Act.put, List.setIfInBounds_toArray, List.set_cons_zero, List.set_cons_succ, i64_w, i32_w]
                            rfl
                          refine pure_ (i := 7) (N := some 29) (v := ?_) (a' := ?_) #[true, true, true, true, false, false, false, true, false, false, false, false, false, false, false, false, false, false, false, false, false, false] rfl rfl (any_of HT_.out (by kernel_rfl)) (fun _ _ _ h => h) (Or.inl ⟨by rfl, ?_⟩) ?_ ?_
                          rotate_left
                          · intro w'
                            go_simp
                            with_reducible rfl
                          rotate_left
                          · simp only [Act.put, List.setIfInBounds_toArray, List.set_cons_zero, List.set_cons_succ, i64_w, i32_w]
                            rfl
                          refine pure_ (i := 10) (N := some 32) (v := ?_) (a' := ?_) #[true, true, true, true, false, false, false, true, false, false, true, false, false, false, false, false, false, false, false, false, false, false] rfl rfl (any_of HT_.out (by kernel_rfl)) (fun _ _ _ h => h) (Or.inl ⟨by rfl, ?_⟩) ?_ ?_
                          rotate_left
                          · intro w'
                            go_simp
                            with_reducible rfl
                          rotate_left
                          · simp only [Act.put, List.setIfInBounds_toArray, List.set_cons_zero, List.set_cons_succ, i64_w, i32_w]
                            rfl
                          refine pure_ (i := 11) (N := some 33) (v := ?_) (a' := ?_) #[true, true, true, true, false, false, false, true, false, false, true, true, false, false, false, false, false, false, false, false, false, false] rfl rfl (any_of HT_.out (by kernel_rfl)) (fun _ _ _ h => h) (Or.inl ⟨by rfl, ?_⟩) ?_ ?_
                          rotate_left
                          · intro w'
                            go_simp
                            with_reducible rfl
                          rotate_left
                          · simp only [Act.put, List.setIfInBounds_toArray, List.set_cons_zero, List.set_cons_succ, i64_w, i32_w]
                            rfl
                          refine pure_ (i := 12) (N := some 34) (v := ?_) (a' := ?_) #[true, true, true, true, false, false, false, true, false, false, true, true, true, false, false, false, false, false, false, false, false, false] rfl rfl (any_of HT_.out (by kernel_rfl)) (fun _ _ _ h => h) (Or.inl ⟨by rfl, ?_⟩) ?_ ?_
                          rotate_left
                          · intro w'
                            go_simp
                            with_reducible rfl
                          rotate_left
                          · simp only [Act.put, List.setIfInBounds_toArray, List.set_cons_zero, List.set_cons_succ, i64_w, i32_w]
                            rfl
                          refine pure_ (i := 16) (N := some 38) (v := ?_) (a' := ?_) #[true, true, true, true, false, false, false, true, false, false, true, true, true, false, false, false, true, false, false, false, false, false] rfl rfl (any_of HT_.out (by kernel_rfl)) (fun _ _ _ h => h) (Or.inl ⟨by rfl, ?_⟩) ?_ ?_
                          rotate_left
                          · intro w'
                            go_simp
                            with_reducible rfl
                          rotate_left
                          · simp only [Act.put, List.setIfInBounds_toArray, List.set_cons_zero, List.set_cons_succ, i64_w, i32_w]
                            rfl
                          refine pure_ (i := 17) (N := some 39) (v := ?_) (a' := ?_) #[true, true, true, true, false, false, false, true, false, false, true, true, true, false, false, false, true, true, false, false, false, false] rfl rfl (any_of HT_.out (by kernel_rfl)) (fun _ _ _ h => h) (Or.inl ⟨by rfl, ?_⟩) ?_ ?_
                          rotate_left
                          · intro w'
                            go_simp
                            with_reducible rfl
                          rotate_left
                          · simp only [Act.put, List.setIfInBounds_toArray, List.set_cons_zero, List.set_cons_succ, i64_w, i32_w]
                            rfl
                          refine join_ (σ := Value) 3 #[true, true, true, true, true, true, true, true, true, true, true, true, true, true, true, true, true, true, true, false, false, false] (fun s_ => [(26, s_), (27, .string (strOfNums y172)), (35, .string t175), (40, .string t176), (28, .string ((strOfNums y172) ++ (⟨#[32]⟩ : ByteArray))), (30, .string (((strOfNums y172) ++ (⟨#[32]⟩ : ByteArray)) ++ ((⟨#[77, 111, 110, 84, 117, 101, 87, 101, 100, 84, 104, 117, 70, 114, 105, 83, 97, 116, 83, 117, 110]⟩ : ByteArray).extract ((ji5) : Int).toNat ((wrap64 ((ji5) + 3)) : Int).toNat))), (31, .string ((((strOfNums y172) ++ (⟨#[32]⟩ : ByteArray)) ++ ((⟨#[77, 111, 110, 84, 117, 101, 87, 101, 100, 84, 104, 117, 70, 114, 105, 83, 97, 116, 83, 117, 110]⟩ : ByteArray).extract ((ji5) : Int).toNat ((wrap64 ((ji5) + 3)) : Int).toNat)) ++ (⟨#[32]⟩ : ByteArray))), (36, .string (((((strOfNums y172) ++ (⟨#[32]⟩ : ByteArray)) ++ ((⟨#[77, 111, 110, 84, 117, 101, 87, 101, 100, 84, 104, 117, 70, 114, 105, 83, 97, 116, 83, 117, 110]⟩ : ByteArray).extract ((ji5) : Int).toNat ((wrap64 ((ji5) + 3)) : Int).toNat)) ++ (⟨#[32]⟩ : ByteArray)) ++ t175)), (37, .string ((((((strOfNums y172) ++ (⟨#[32]⟩ : ByteArray)) ++ ((⟨#[77, 111, 110, 84, 117, 101, 87, 101, 100, 84, 104, 117, 70, 114, 105, 83, 97, 116, 83, 117, 110]⟩ : ByteArray).extract ((ji5) : Int).toNat ((wrap64 ((ji5) + 3)) : Int).toNat)) ++ (⟨#[32]⟩ : ByteArray)) ++ t175) ++ (⟨#[58]⟩ : ByteArray)))]) (fun s_ w' => (Kd.R (Kd.int .u8) 5 w' w.heap.size (fun _ => True) s_ y172) ∧ (Below w.heap.size w w')) ?_ ?_
                          rotate_left
                          · intro hJ4_5_13_18
                            refine join_ (σ := Value) 4 #[true, true, true, true, true, true, true, true, true, true, true, true, true, true, true, true, true, true, false, false, false, false] (fun s_ => [(26, s_), (27, .string (strOfNums y172)), (35, .string t175), (28, .string ((strOfNums y172) ++ (⟨#[32]⟩ : ByteArray))), (30, .string (((strOfNums y172) ++ (⟨#[32]⟩ : ByteArray)) ++ ((⟨#[77, 111, 110, 84, 117, 101, 87, 101, 100, 84, 104, 117, 70, 114, 105, 83, 97, 116, 83, 117, 110]⟩ : ByteArray).extract ((ji5) : Int).toNat ((wrap64 ((ji5) + 3)) : Int).toNat))), (31, .string ((((strOfNums y172) ++ (⟨#[32]⟩ : ByteArray)) ++ ((⟨#[77, 111, 110, 84, 117, 101, 87, 101, 100, 84, 104, 117, 70, 114, 105, 83, 97, 116, 83, 117, 110]⟩ : ByteArray).extract ((ji5) : Int).toNat ((wrap64 ((ji5) + 3)) : Int).toNat)) ++ (⟨#[32]⟩ : ByteArray))), (36, .string (((((strOfNums y172) ++ (⟨#[32]⟩ : ByteArray)) ++ ((⟨#[77, 111, 110, 84, 117, 101, 87, 101, 100, 84, 104, 117, 70, 114, 105, 83, 97, 116, 83, 117, 110]⟩ : ByteArray).extract ((ji5) : Int).toNat ((wrap64 ((ji5) + 3)) : Int).toNat)) ++ (⟨#[32]⟩ : ByteArray)) ++ t175)), (37, .string ((((((strOfNums y172) ++ (⟨#[32]⟩ : ByteArray)) ++ ((⟨#[77, 111, 110, 84, 117, 101, 87, 101, 100, 84, 104, 117, 70, 114, 105, 83, 97, 116, 83, 117, 110]⟩ : ByteArray).extract ((ji5) : Int).toNat ((wrap64 ((ji5) + 3)) : Int).toNat)) ++ (⟨#[32]⟩ : ByteArray)) ++ t175) ++ (⟨#[58]⟩ : ByteArray)))]) (fun s_ w' => (Kd.R (Kd.int .u8) 5 w' w.heap.size (fun _ => True) s_ y172) ∧ (Below w.heap.size w w')) ?_ ?_
                            rotate_left
                            · intro hJ4_5_13
                              refine join_ (σ := Value) 9 #[true, true, true, true, true, false, false, true, false, false, true, true, true, true, false, false, true, true, true, false, false, false] (fun s_ => [(26, s_), (35, .string t175), (40, .string t176)]) (fun s_ w' => (Kd.R (Kd.int .u8) 5 w' w.heap.size (fun _ => True) s_ y172) ∧ (Below w.heap.size w w')) ?_ ?_
                              rotate_left
                              · intro hJ4_13_18
                                refine join_ (σ := Value) 7 #[true, true, true, true, true, true, true, true, true, true, true, true, true, false, false, false, true, true, false, false, false, false] (fun s_ => [(26, s_), (27, .string (strOfNums y172)), (28, .string ((strOfNums y172) ++ (⟨#[32]⟩ : ByteArray))), (30, .string (((strOfNums y172) ++ (⟨#[32]⟩ : ByteArray)) ++ ((⟨#[77, 111, 110, 84, 117, 101, 87, 101, 100, 84, 104, 117, 70, 114, 105, 83, 97, 116, 83, 117, 110]⟩ : ByteArray).extract ((ji5) : Int).toNat ((wrap64 ((ji5) + 3)) : Int).toNat))), (31, .string ((((strOfNums y172) ++ (⟨#[32]⟩ : ByteArray)) ++ ((⟨#[77, 111, 110, 84, 117, 101, 87, 101, 100, 84, 104, 117, 70, 114, 105, 83, 97, 116, 83, 117, 110]⟩ : ByteArray).extract ((ji5) : Int).toNat ((wrap64 ((ji5) + 3)) : Int).toNat)) ++ (⟨#[32]⟩ : ByteArray)))]) (fun s_ w' => (Kd.R (Kd.int .u8) 5 w' w.heap.size (fun _ => True) s_ y172) ∧ (Below w.heap.size w w')) ?_ ?_
                                rotate_left
                                · intro hJ4_5
                                  refine join_ (σ := Value) 10 #[true, true, true, true, true, false, false, true, false, false, true, true, true, true, false, false, true, true, false, false, false, false] (fun s_ => [(26, s_), (35, .string t175)]) (fun s_ w' => (Kd.R (Kd.int .u8) 5 w' w.heap.size (fun _ => True) s_ y172) ∧ (Below w.heap.size w w')) ?_ ?_
                                  rotate_left
                                  · intro hJ4_13
                                    refine join_ (σ := Unit) 10 #[true, true, true, true, false, false, false, true, false, false, true, true, true, true, false, false, true, true, true, false, false, false] (fun s_ => [(35, .string t175), (40, .string t176)]) (fun s_ w' => (Below w.heap.size w w')) ?_ ?_
                                    rotate_left
                                    · intro hJ13_18
                                      refine join_ (σ := Value) 11 #[true, true, true, true, true, false, false, true, false, false, true, true, true, false, false, false, true, true, false, false, false, false] (fun s_ => [(26, s_)]) (fun s_ w' => (Kd.R (Kd.int .u8) 5 w' w.heap.size (fun _ => True) s_ y172) ∧ (Below w.heap.size w w')) ?_ ?_
                                      rotate_left
                                      · intro hJ4
                                        refine join_ (σ := Unit) 11 #[true, true, true, true, false, false, false, true, false, false, true, true, true, true, false, false, true, true, false, false, false, false] (fun s_ => [(35, .string t175)]) (fun s_ w' => (Below w.heap.size w w')) ?_ ?_
                                        rotate_left
                                        · intro hJ13
                                          refine two_ (i := 4) (j := 13) (Ni := some 26) (Nj := some 35) #[true, true, true, true, true, false, false, true, false, false, true, true, true, false, false, false, true, true, false, false, false, false] #[true, true, true, true, false, false, false, true, false, false, true, true, true, true, false, false, true, true, false, false, false, false] rfl rfl rfl rfl (two_of HT_.out (by kernel_rfl)) (by decide) (by decide) (fun K hK => ?_) (fun K hK => ?_)
                                          · skip
                                            refine Kd.R_lit_step (Kd.int .u8) _ 5 ?hg (N := 26) ?hd (xs := ([(wrap64 (49 + (wrap64 (Int.tdiv (wrap64 (Int.tdiv a0 1440)) 7)))) % 256] : List Int)) (inner := [.int .u8 ((wrap64 (49 + (wrap64 (Int.tdiv (wrap64 (Int.tdiv a0 1440)) 7)))) % 256)]) (ok := fun _ => True) (okp := fun _ => True) ?hr ?hp (fun _ hk => hk) trivial (Below.refl _ _) (Nat.le_refl _) (by simp) ?_; (case hd => rfl); (case hg => rfl); (case hr => first | (go_simp; done) | (go_simp; rfl)); (case hp => exact (Reps.one (show Kd.M (Kd.int .u8) _ _ _ ((wrap64 (49 + (wrap64 (Int.tdiv (wrap64 (Int.tdiv a0 1440)) 7)))) % 256) [.int .u8 ((wrap64 (49 + (wrap64 (Int.tdiv (wrap64 (Int.tdiv a0 1440)) 7)))) % 256)] from rfl) (Reps.none _ _)))
                                            intro v173 w18 ho19 hb hg_ hnew_
                                            clear hg_ hnew_
                                            (first | rw [← Ny172.out] at ho19 | (simp only [Int.reduceToNat] at ho19; rw [← Ny172.out] at ho19))
                                            have n0_ := Aside0.mk (Kd.R_lower ho19 (below_size (by repeat (first | (with_reducible first | exact HB.out | apply below_alloc | apply pw_below_drewN | apply below_drew1) | exact HB.out))))
                                            have n1_ := Aside0.mk (below_step (by repeat (first | (with_reducible first | exact HB.out | apply below_alloc | apply pw_below_drewN | apply below_drew1) | exact HB.out)) hb)
                                            clear HB
                                            have HO174 := n0_
                                            have HB := n1_
                                            clear n0_ n1_
                                            clear hb ho19
                                            refine hK.out _ _ trivial (fun hHeld => ?_)
                                            clear hK K
                                            refine norm_ (a' := ?_) ?_ ?_
                                            rotate_left
                                            · show Act.put _ (some 26) _ = _
                                              simp only [Act.put, List.setIfInBounds_toArray, List.set_cons_zero, List.set_cons_succ, i64_w, i32_w]
                                              rfl
                                            exact norm_ (by first | (simp only [putAll, Act.put, List.setIfInBounds_toArray, List.set_cons_zero, List.set_cons_succ]; done) | (simp only [putAll, Act.put, List.setIfInBounds_toArray, List.set_cons_zero, List.set_cons_succ]; rfl)) (hJ4 (v173) _ ⟨(by (with_reducible repeat (first | apply Kd.R_alloc | apply Kd.R_drewN | apply Kd.R_drew)); exact HO174.out), (by repeat (first | (with_reducible first | exact HB.out | apply below_alloc | apply pw_below_drewN | apply below_drew1) | exact HB.out))⟩)
                                          · skip
                                            refine goes_ Tryd.func78 (by kernel_rfl) rfl #[.int .i64 (Int.tmod (wrap64 (Int.tdiv a0 60)) 24)] (by rfl) rfl rfl (by (try simp only [List.map_toArray, List.map_cons, List.map_nil]); first | done | rfl | (simp only [List.length_drop, List.length_take]; rfl)) ?_
                                            with_reducible refine (haulierref04_two.calls (Int.tmod (wrap64 (Int.tdiv a0 60)) 24) t175 _ A12.out).mono ?_
                                            rintro e w18 ⟨rfl, hb⟩
                                            refine ⟨_, rfl, ?_⟩
                                            have n0_ := Aside0.mk (below_step (by repeat (first | (with_reducible first | exact HB.out | apply below_alloc | apply pw_below_drewN | apply below_drew1) | exact HB.out)) hb)
                                            clear HB
                                            have HB := n0_
                                            clear n0_
                                            (try clear hb)
                                            (try clear hb2)
                                            (try clear hk)
                                            (try clear hi)
                                            refine hK.out _ _ trivial (fun hHeld => ?_)
                                            clear hK K
                                            refine norm_ (a' := ?_) ?_ ?_
                                            rotate_left
                                            · show Act.put _ (some 35) _ = _
                                              simp only [Act.put, List.setIfInBounds_toArray, List.set_cons_zero, List.set_cons_succ, i64_w, i32_w]
                                              rfl
                                            exact norm_ (by first | (simp only [putAll, Act.put, List.setIfInBounds_toArray, List.set_cons_zero, List.set_cons_succ]; done) | (simp only [putAll, Act.put, List.setIfInBounds_toArray, List.set_cons_zero, List.set_cons_succ]; rfl)) (hJ13 () _ (by repeat (first | (with_reducible first | exact HB.out | apply below_alloc | apply pw_below_drewN | apply below_drew1) | exact HB.out)))
                                        · skip
                                          rintro _ w19 h0_
                                          have n0_ : Aside0 (Below w.heap.size w w19) := ⟨h0_⟩
                                          clear HB
                                          clear h0_
                                          have HB := n0_
                                          clear n0_
                                          have hHeld := trivial
                                          refine norm_ (a' := ?_) ?_ ?_
                                          rotate_left
                                          · simp only [putAll, Act.put, List.setIfInBounds_toArray, List.set_cons_zero, List.set_cons_succ]
                                            rfl
                                          refine two_ (i := 4) (j := 18) (Ni := some 26) (Nj := some 40) #[true, true, true, true, true, false, false, true, false, false, true, true, true, true, false, false, true, true, false, false, false, false] #[true, true, true, true, false, false, false, true, false, false, true, true, true, true, false, false, true, true, true, false, false, false] rfl rfl rfl rfl (two_of HT_.out (by kernel_rfl)) (by decide) (by decide) (fun K hK => ?_) (fun K hK => ?_)
                                          · skip
                                            refine Kd.R_lit_step (Kd.int .u8) _ 5 ?hg (N := 26) ?hd (xs := ([(wrap64 (49 + (wrap64 (Int.tdiv (wrap64 (Int.tdiv a0 1440)) 7)))) % 256] : List Int)) (inner := [.int .u8 ((wrap64 (49 + (wrap64 (Int.tdiv (wrap64 (Int.tdiv a0 1440)) 7)))) % 256)]) (ok := fun _ => True) (okp := fun _ => True) ?hr ?hp (fun _ hk => hk) trivial (Below.refl _ _) (Nat.le_refl _) (by simp) ?_; (case hd => rfl); (case hg => rfl); (case hr => first | (go_simp; done) | (go_simp; rfl)); (case hp => exact (Reps.one (show Kd.M (Kd.int .u8) _ _ _ ((wrap64 (49 + (wrap64 (Int.tdiv (wrap64 (Int.tdiv a0 1440)) 7)))) % 256) [.int .u8 ((wrap64 (49 + (wrap64 (Int.tdiv (wrap64 (Int.tdiv a0 1440)) 7)))) % 256)] from rfl) (Reps.none _ _)))
                                            intro v173 w20 ho21 hb hg_ hnew_
                                            clear hg_ hnew_
                                            (first | rw [← Ny172.out] at ho21 | (simp only [Int.reduceToNat] at ho21; rw [← Ny172.out] at ho21))
                                            have n0_ := Aside0.mk (Kd.R_lower ho21 (below_size (by repeat (first | (with_reducible first | exact HB.out | apply below_alloc | apply pw_below_drewN | apply below_drew1) | exact HB.out))))
                                            have n1_ := Aside0.mk (below_step (by repeat (first | (with_reducible first | exact HB.out | apply below_alloc | apply pw_below_drewN | apply below_drew1) | exact HB.out)) hb)
                                            clear HB
                                            have HO174 := n0_
                                            have HB := n1_
                                            clear n0_ n1_
                                            clear hb ho21
                                            refine hK.out _ _ trivial (fun hHeld => ?_)
                                            clear hK K
                                            refine norm_ (a' := ?_) ?_ ?_
                                            rotate_left
                                            · show Act.put _ (some 26) _ = _
                                              simp only [Act.put, List.setIfInBounds_toArray, List.set_cons_zero, List.set_cons_succ, i64_w, i32_w]
                                              rfl
                                            exact norm_ (by first | (simp only [putAll, Act.put, List.setIfInBounds_toArray, List.set_cons_zero, List.set_cons_succ]; done) | (simp only [putAll, Act.put, List.setIfInBounds_toArray, List.set_cons_zero, List.set_cons_succ]; rfl)) (hJ4_13 (v173) _ ⟨(by (with_reducible repeat (first | apply Kd.R_alloc | apply Kd.R_drewN | apply Kd.R_drew)); exact HO174.out), (by repeat (first | (with_reducible first | exact HB.out | apply below_alloc | apply pw_below_drewN | apply below_drew1) | exact HB.out))⟩)
                                          · skip
                                            refine goes_ Tryd.func78 (by kernel_rfl) rfl #[.int .i64 (Int.tmod a0 60)] (by rfl) rfl rfl (by (try simp only [List.map_toArray, List.map_cons, List.map_nil]); first | done | rfl | (simp only [List.length_drop, List.length_take]; rfl)) ?_
                                            with_reducible refine (haulierref04_two.calls (Int.tmod a0 60) t176 _ A15.out).mono ?_
                                            rintro e w20 ⟨rfl, hb⟩
                                            refine ⟨_, rfl, ?_⟩
                                            have n0_ := Aside0.mk (below_step (by repeat (first | (with_reducible first | exact HB.out | apply below_alloc | apply pw_below_drewN | apply below_drew1) | exact HB.out)) hb)
                                            clear HB
                                            have HB := n0_
                                            clear n0_
                                            (try clear hb)
                                            (try clear hb2)
                                            (try clear hk)
                                            (try clear hi)
                                            refine hK.out _ _ trivial (fun hHeld => ?_)
                                            clear hK K
                                            refine norm_ (a' := ?_) ?_ ?_
                                            rotate_left
                                            · show Act.put _ (some 40) _ = _
                                              simp only [Act.put, List.setIfInBounds_toArray, List.set_cons_zero, List.set_cons_succ, i64_w, i32_w]
                                              rfl
                                            exact norm_ (by first | (simp only [putAll, Act.put, List.setIfInBounds_toArray, List.set_cons_zero, List.set_cons_succ]; done) | (simp only [putAll, Act.put, List.setIfInBounds_toArray, List.set_cons_zero, List.set_cons_succ]; rfl)) (hJ13_18 () _ (by repeat (first | (with_reducible first | exact HB.out | apply below_alloc | apply pw_below_drewN | apply below_drew1) | exact HB.out)))
                                      · skip
                                        rintro v173 w20 ⟨h0_, h1_⟩
                                        have n0_ : Aside0 (Kd.R (Kd.int .u8) 5 w20 w.heap.size (fun _ => True) v173 y172) := ⟨h0_⟩
                                        have n1_ : Aside0 (Below w.heap.size w w20) := ⟨h1_⟩
                                        clear HB
                                        clear h0_ h1_
                                        have HO174 := n0_
                                        have HB := n1_
                                        clear n0_ n1_
                                        have hHeld := trivial
                                        refine norm_ (a' := ?_) ?_ ?_
                                        rotate_left
                                        · simp only [putAll, Act.put, List.setIfInBounds_toArray, List.set_cons_zero, List.set_cons_succ]
                                          rfl
                                        refine two_ (i := 5) (j := 13) (Ni := some 27) (Nj := some 35) #[true, true, true, true, true, true, false, true, false, false, true, true, true, false, false, false, true, true, false, false, false, false] #[true, true, true, true, true, false, false, true, false, false, true, true, true, true, false, false, true, true, false, false, false, false] rfl rfl rfl rfl (two_of HT_.out (by kernel_rfl)) (by decide) (by decide) (fun K hK => ?_) (fun K hK => ?_)
                                        · skip
                                          have hcv21 := own_string (P := Tryd.prog) Tryd.underlying92 Tryd.underlying5 Tryd.underlying9 (Kd.own_of_R HO174.out)
                                          refine value_ (w1 := ?_) (v := ?_) (by rfl) rfl ?_ ?_
                                          rotate_left 2
                                          · go_simp
                                            constructor
                                            · rfl
                                            · rfl
                                          clear hcv21
                                          refine hK.out _ _ trivial (fun hHeld => ?_)
                                          clear hK K
                                          refine norm_ (a' := ?_) ?_ ?_
                                          rotate_left
                                          · show Act.put _ (some 27) _ = _
                                            simp only [Act.put, List.setIfInBounds_toArray, List.set_cons_zero, List.set_cons_succ, i64_w, i32_w]
                                            rfl
                                          refine pure_ (i := 6) (N := some 28) (v := ?_) (a' := ?_) #[true, true, true, true, true, true, true, true, false, false, true, true, true, false, false, false, true, true, false, false, false, false] rfl rfl (any_of HT_.out (by kernel_rfl)) (fun _ _ _ h => h) (Or.inl ⟨by rfl, ?_⟩) ?_ ?_
                                          rotate_left
                                          · intro w'
                                            go_simp
                                            with_reducible rfl
                                          rotate_left
                                          · simp only [Act.put, List.setIfInBounds_toArray, List.set_cons_zero, List.set_cons_succ, i64_w, i32_w]
                                            rfl
                                          refine pure_ (i := 8) (N := some 30) (v := ?_) (a' := ?_) #[true, true, true, true, true, true, true, true, true, false, true, true, true, false, false, false, true, true, false, false, false, false] rfl rfl (any_of HT_.out (by kernel_rfl)) (fun _ _ _ h => h) (Or.inl ⟨by rfl, ?_⟩) ?_ ?_
                                          rotate_left
                                          · intro w'
                                            go_simp
                                            with_reducible rfl
                                          rotate_left
                                          · simp only [Act.put, List.setIfInBounds_toArray, List.set_cons_zero, List.set_cons_succ, i64_w, i32_w]
                                            rfl
                                          refine pure_ (i := 9) (N := some 31) (v := ?_) (a' := ?_) #[true, true, true, true, true, true, true, true, true, true, true, true, true, false, false, false, true, true, false, false, false, false] rfl rfl (any_of HT_.out (by kernel_rfl)) (fun _ _ _ h => h) (Or.inl ⟨by rfl, ?_⟩) ?_ ?_
                                          rotate_left
                                          · intro w'
                                            go_simp
                                            with_reducible rfl
                                          rotate_left
                                          · simp only [Act.put, List.setIfInBounds_toArray, List.set_cons_zero, List.set_cons_succ, i64_w, i32_w]
                                            rfl
                                          exact norm_ (by first | (simp only [putAll, Act.put, List.setIfInBounds_toArray, List.set_cons_zero, List.set_cons_succ]; done) | (simp only [putAll, Act.put, List.setIfInBounds_toArray, List.set_cons_zero, List.set_cons_succ]; rfl)) (hJ4_5 (v173) _ ⟨(by (with_reducible repeat (first | apply Kd.R_alloc | apply Kd.R_drewN | apply Kd.R_drew)); exact HO174.out), (by repeat (first | (with_reducible first | exact HB.out | apply below_alloc | apply pw_below_drewN | apply below_drew1) | exact HB.out))⟩)
                                        · skip
                                          refine goes_ Tryd.func78 (by kernel_rfl) rfl #[.int .i64 (Int.tmod (wrap64 (Int.tdiv a0 60)) 24)] (by rfl) rfl rfl (by (try simp only [List.map_toArray, List.map_cons, List.map_nil]); first | done | rfl | (simp only [List.length_drop, List.length_take]; rfl)) ?_
                                          with_reducible refine (haulierref04_two.calls (Int.tmod (wrap64 (Int.tdiv a0 60)) 24) t175 _ A12.out).mono ?_
                                          rintro e w21 ⟨rfl, hb⟩
                                          refine ⟨_, rfl, ?_⟩
                                          have n0_ := Aside0.mk (Kd.R_below (by (with_reducible repeat (first | apply Kd.R_alloc | apply Kd.R_drewN | apply Kd.R_drew)); exact HO174.out) hb)
                                          have n1_ := Aside0.mk (below_step (by repeat (first | (with_reducible first | exact HB.out | apply below_alloc | apply pw_below_drewN | apply below_drew1) | exact HB.out)) hb)
                                          clear HO174
                                          clear HB
                                          have HO174 := n0_
                                          have HB := n1_
                                          clear n0_ n1_
                                          (try clear hb)
                                          (try clear hb2)
                                          (try clear hk)
                                          (try clear hi)
                                          refine hK.out _ _ trivial (fun hHeld => ?_)
                                          clear hK K
                                          refine norm_ (a' := ?_) ?_ ?_
                                          rotate_left
                                          · show Act.put _ (some 35) _ = _
                                            simp only [Act.put, List.setIfInBounds_toArray, List.set_cons_zero, List.set_cons_succ, i64_w, i32_w]
                                            rfl
                                          exact norm_ (by first | (simp only [putAll, Act.put, List.setIfInBounds_toArray, List.set_cons_zero, List.set_cons_succ]; done) | (simp only [putAll, Act.put, List.setIfInBounds_toArray, List.set_cons_zero, List.set_cons_succ]; rfl)) (hJ4_13 (v173) _ ⟨(by (with_reducible repeat (first | apply Kd.R_alloc | apply Kd.R_drewN | apply Kd.R_drew)); exact HO174.out), (by repeat (first | (with_reducible first | exact HB.out | apply below_alloc | apply pw_below_drewN | apply below_drew1) | exact HB.out))⟩)
                                    · skip
                                      rintro _ w20 h0_
                                      have n0_ : Aside0 (Below w.heap.size w w20) := ⟨h0_⟩
                                      clear HB
                                      clear h0_
                                      have HB := n0_
                                      clear n0_
                                      have hHeld := trivial
                                      refine norm_ (a' := ?_) ?_ ?_
                                      rotate_left
                                      · simp only [putAll, Act.put, List.setIfInBounds_toArray, List.set_cons_zero, List.set_cons_succ]
                                        rfl
                                      refine one_ (i := 4) (N := some 26) #[true, true, true, true, true, false, false, true, false, false, true, true, true, true, false, false, true, true, true, false, false, false] rfl rfl (one_of HT_.out (by kernel_rfl)) (by decide) (fun K hK => ?_)
                                      refine Kd.R_lit_step (Kd.int .u8) _ 5 ?hg (N := 26) ?hd (xs := ([(wrap64 (49 + (wrap64 (Int.tdiv (wrap64 (Int.tdiv a0 1440)) 7)))) % 256] : List Int)) (inner := [.int .u8 ((wrap64 (49 + (wrap64 (Int.tdiv (wrap64 (Int.tdiv a0 1440)) 7)))) % 256)]) (ok := fun _ => True) (okp := fun _ => True) ?hr ?hp (fun _ hk => hk) trivial (Below.refl _ _) (Nat.le_refl _) (by simp) ?_; (case hd => rfl); (case hg => rfl); (case hr => first | (go_simp; done) | (go_simp; rfl)); (case hp => exact (Reps.one (show Kd.M (Kd.int .u8) _ _ _ ((wrap64 (49 + (wrap64 (Int.tdiv (wrap64 (Int.tdiv a0 1440)) 7)))) % 256) [.int .u8 ((wrap64 (49 + (wrap64 (Int.tdiv (wrap64 (Int.tdiv a0 1440)) 7)))) % 256)] from rfl) (Reps.none _ _)))
                                      intro v173 w21 ho22 hb hg_ hnew_
                                      clear hg_ hnew_
                                      (first | rw [← Ny172.out] at ho22 | (simp only [Int.reduceToNat] at ho22; rw [← Ny172.out] at ho22))
                                      have n0_ := Aside0.mk (Kd.R_lower ho22 (below_size (by repeat (first | (with_reducible first | exact HB.out | apply below_alloc | apply pw_below_drewN | apply below_drew1) | exact HB.out))))
                                      have n1_ := Aside0.mk (below_step (by repeat (first | (with_reducible first | exact HB.out | apply below_alloc | apply pw_below_drewN | apply below_drew1) | exact HB.out)) hb)
                                      clear HB
                                      have HO174 := n0_
                                      have HB := n1_
                                      clear n0_ n1_
                                      clear hb ho22
                                      refine hK.out _ _ trivial (fun hHeld => ?_)
                                      clear hK K
                                      refine norm_ (a' := ?_) ?_ ?_
                                      rotate_left
                                      · show Act.put _ (some 26) _ = _
                                        simp only [Act.put, List.setIfInBounds_toArray, List.set_cons_zero, List.set_cons_succ, i64_w, i32_w]
                                        rfl
                                      exact norm_ (by first | (simp only [putAll, Act.put, List.setIfInBounds_toArray, List.set_cons_zero, List.set_cons_succ]; done) | (simp only [putAll, Act.put, List.setIfInBounds_toArray, List.set_cons_zero, List.set_cons_succ]; rfl)) (hJ4_13_18 (v173) _ ⟨(by (with_reducible repeat (first | apply Kd.R_alloc | apply Kd.R_drewN | apply Kd.R_drew)); exact HO174.out), (by repeat (first | (with_reducible first | exact HB.out | apply below_alloc | apply pw_below_drewN | apply below_drew1) | exact HB.out))⟩)
                                  · skip
                                    rintro v173 w21 ⟨h0_, h1_⟩
                                    have n0_ : Aside0 (Kd.R (Kd.int .u8) 5 w21 w.heap.size (fun _ => True) v173 y172) := ⟨h0_⟩
                                    have n1_ : Aside0 (Below w.heap.size w w21) := ⟨h1_⟩
                                    clear HB
                                    clear h0_ h1_
                                    have HO174 := n0_
                                    have HB := n1_
                                    clear n0_ n1_
                                    have hHeld := trivial
                                    refine norm_ (a' := ?_) ?_ ?_
                                    rotate_left
                                    · simp only [putAll, Act.put, List.setIfInBounds_toArray, List.set_cons_zero, List.set_cons_succ]
                                      rfl
                                    refine two_ (i := 5) (j := 18) (Ni := some 27) (Nj := some 40) #[true, true, true, true, true, true, false, true, false, false, true, true, true, true, false, false, true, true, false, false, false, false] #[true, true, true, true, true, false, false, true, false, false, true, true, true, true, false, false, true, true, true, false, false, false] rfl rfl rfl rfl (two_of HT_.out (by kernel_rfl)) (by decide) (by decide) (fun K hK => ?_) (fun K hK => ?_)
                                    · skip
                                      have hcv22 := own_string (P := Tryd.prog) Tryd.underlying92 Tryd.underlying5 Tryd.underlying9 (Kd.own_of_R HO174.out)
                                      refine value_ (w1 := ?_) (v := ?_) (by rfl) rfl ?_ ?_
                                      rotate_left 2
                                      · go_simp
                                        constructor
                                        · rfl
                                        · rfl
                                      clear hcv22
                                      refine hK.out _ _ trivial (fun hHeld => ?_)
                                      clear hK K
                                      refine norm_ (a' := ?_) ?_ ?_
                                      rotate_left
                                      · show Act.put _ (some 27) _ = _
                                        simp only [Act.put, List.setIfInBounds_toArray, List.set_cons_zero, List.set_cons_succ, i64_w, i32_w]
                                        rfl
                                      refine pure_ (i := 6) (N := some 28) (v := ?_) (a' := ?_) #[true, true, true, true, true, true, true, true, false, false, true, true, true, true, false, false, true, true, false, false, false, false] rfl rfl (any_of HT_.out (by kernel_rfl)) (fun _ _ _ h => h) (Or.inl ⟨by rfl, ?_⟩) ?_ ?_
                                      rotate_left
                                      · intro w'
                                        go_simp
                                        with_reducible rfl
                                      rotate_left
                                      · simp only [Act.put, List.setIfInBounds_toArray, List.set_cons_zero, List.set_cons_succ, i64_w, i32_w]
                                        rfl
                                      refine pure_ (i := 8) (N := some 30) (v := ?_) (a' := ?_) #[true, true, true, true, true, true, true, true, true, false, true, true, true, true, false, false, true, true, false, false, false, false] rfl rfl (any_of HT_.out (by kernel_rfl)) (fun _ _ _ h => h) (Or.inl ⟨by rfl, ?_⟩) ?_ ?_
                                      rotate_left
                                      · intro w'
                                        go_simp
                                        with_reducible rfl
                                      rotate_left
                                      · simp only [Act.put, List.setIfInBounds_toArray, List.set_cons_zero, List.set_cons_succ, i64_w, i32_w]
                                        rfl
                                      refine pure_ (i := 9) (N := some 31) (v := ?_) (a' := ?_) #[true, true, true, true, true, true, true, true, true, true, true, true, true, true, false, false, true, true, false, false, false, false] rfl rfl (any_of HT_.out (by kernel_rfl)) (fun _ _ _ h => h) (Or.inl ⟨by rfl, ?_⟩) ?_ ?_
                                      rotate_left
                                      · intro w'
                                        go_simp
                                        with_reducible rfl
                                      rotate_left
                                      · simp only [Act.put, List.setIfInBounds_toArray, List.set_cons_zero, List.set_cons_succ, i64_w, i32_w]
                                        rfl
                                      refine pure_ (i := 14) (N := some 36) (v := ?_) (a' := ?_) #[true, true, true, true, true, true, true, true, true, true, true, true, true, true, true, false, true, true, false, false, false, false] rfl rfl (any_of HT_.out (by kernel_rfl)) (fun _ _ _ h => h) (Or.inl ⟨by rfl, ?_⟩) ?_ ?_
                                      rotate_left
                                      · intro w'
                                        go_simp
                                        with_reducible rfl
                                      rotate_left
                                      · simp only [Act.put, List.setIfInBounds_toArray, List.set_cons_zero, List.set_cons_succ, i64_w, i32_w]
                                        rfl
                                      refine pure_ (i := 15) (N := some 37) (v := ?_) (a' := ?_) #[true, true, true, true, true, true, true, true, true, true, true, true, true, true, true, true, true, true, false, false, false, false] rfl rfl (any_of HT_.out (by kernel_rfl)) (fun _ _ _ h => h) (Or.inl ⟨by rfl, ?_⟩) ?_ ?_
                                      rotate_left
                                      · intro w'
                                        go_simp
                                        with_reducible rfl
                                      rotate_left
                                      · simp only [Act.put, List.setIfInBounds_toArray, List.set_cons_zero, List.set_cons_succ, i64_w, i32_w]
                                        rfl
                                      exact norm_ (by first | (simp only [putAll, Act.put, List.setIfInBounds_toArray, List.set_cons_zero, List.set_cons_succ]; done) | (simp only [putAll, Act.put, List.setIfInBounds_toArray, List.set_cons_zero, List.set_cons_succ]; rfl)) (hJ4_5_13 (v173) _ ⟨(by (with_reducible repeat (first | apply Kd.R_alloc | apply Kd.R_drewN | apply Kd.R_drew)); exact HO174.out), (by repeat (first | (with_reducible first | exact HB.out | apply below_alloc | apply pw_below_drewN | apply below_drew1) | exact HB.out))⟩)
                                    · skip
                                      refine goes_ Tryd.func78 (by kernel_rfl) rfl #[.int .i64 (Int.tmod a0 60)] (by rfl) rfl rfl (by (try simp only [List.map_toArray, List.map_cons, List.map_nil]); first | done | rfl | (simp only [List.length_drop, List.length_take]; rfl)) ?_
                                      with_reducible refine (haulierref04_two.calls (Int.tmod a0 60) t176 _ A15.out).mono ?_
                                      rintro e w22 ⟨rfl, hb⟩
                                      refine ⟨_, rfl, ?_⟩
                                      have n0_ := Aside0.mk (Kd.R_below (by (with_reducible repeat (first | apply Kd.R_alloc | apply Kd.R_drewN | apply Kd.R_drew)); exact HO174.out) hb)
                                      have n1_ := Aside0.mk (below_step (by repeat (first | (with_reducible first | exact HB.out | apply below_alloc | apply pw_below_drewN | apply below_drew1) | exact HB.out)) hb)
                                      clear HO174
                                      clear HB
                                      have HO174 := n0_
                                      have HB := n1_
                                      clear n0_ n1_
                                      (try clear hb)
                                      (try clear hb2)
                                      (try clear hk)
                                      (try clear hi)
                                      refine hK.out _ _ trivial (fun hHeld => ?_)
                                      clear hK K
                                      refine norm_ (a' := ?_) ?_ ?_
                                      rotate_left
                                      · show Act.put _ (some 40) _ = _
                                        simp only [Act.put, List.setIfInBounds_toArray, List.set_cons_zero, List.set_cons_succ, i64_w, i32_w]
                                        rfl
                                      exact norm_ (by first | (simp only [putAll, Act.put, List.setIfInBounds_toArray, List.set_cons_zero, List.set_cons_succ]; done) | (simp only [putAll, Act.put, List.setIfInBounds_toArray, List.set_cons_zero, List.set_cons_succ]; rfl)) (hJ4_13_18 (v173) _ ⟨(by (with_reducible repeat (first | apply Kd.R_alloc | apply Kd.R_drewN | apply Kd.R_drew)); exact HO174.out), (by repeat (first | (with_reducible first | exact HB.out | apply below_alloc | apply pw_below_drewN | apply below_drew1) | exact HB.out))⟩)
                                · skip
                                  rintro v173 w21 ⟨h0_, h1_⟩
                                  have n0_ : Aside0 (Kd.R (Kd.int .u8) 5 w21 w.heap.size (fun _ => True) v173 y172) := ⟨h0_⟩
                                  have n1_ : Aside0 (Below w.heap.size w w21) := ⟨h1_⟩
                                  clear HB
                                  clear h0_ h1_
                                  have HO174 := n0_
                                  have HB := n1_
                                  clear n0_ n1_
                                  have hHeld := trivial
                                  refine norm_ (a' := ?_) ?_ ?_
                                  rotate_left
                                  · simp only [putAll, Act.put, List.setIfInBounds_toArray, List.set_cons_zero, List.set_cons_succ]
                                    rfl
                                  refine one_ (i := 13) (N := some 35) #[true, true, true, true, true, true, true, true, true, true, true, true, true, true, false, false, true, true, false, false, false, false] rfl rfl (one_of HT_.out (by kernel_rfl)) (by decide) (fun K hK => ?_)
                                  refine goes_ Tryd.func78 (by kernel_rfl) rfl #[.int .i64 (Int.tmod (wrap64 (Int.tdiv a0 60)) 24)] (by rfl) rfl rfl (by (try simp only [List.map_toArray, List.map_cons, List.map_nil]); first | done | rfl | (simp only [List.length_drop, List.length_take]; rfl)) ?_
                                  with_reducible refine (haulierref04_two.calls (Int.tmod (wrap64 (Int.tdiv a0 60)) 24) t175 _ A12.out).mono ?_
                                  rintro e w22 ⟨rfl, hb⟩
                                  refine ⟨_, rfl, ?_⟩
                                  have n0_ := Aside0.mk (Kd.R_below (by (with_reducible repeat (first | apply Kd.R_alloc | apply Kd.R_drewN | apply Kd.R_drew)); exact HO174.out) hb)
                                  have n1_ := Aside0.mk (below_step (by repeat (first | (with_reducible first | exact HB.out | apply below_alloc | apply pw_below_drewN | apply below_drew1) | exact HB.out)) hb)
                                  clear HO174
                                  clear HB
                                  have HO174 := n0_
                                  have HB := n1_
                                  clear n0_ n1_
                                  (try clear hb)
                                  (try clear hb2)
                                  (try clear hk)
                                  (try clear hi)
                                  refine hK.out _ _ trivial (fun hHeld => ?_)
                                  clear hK K
                                  refine norm_ (a' := ?_) ?_ ?_
                                  rotate_left
                                  · show Act.put _ (some 35) _ = _
                                    simp only [Act.put, List.setIfInBounds_toArray, List.set_cons_zero, List.set_cons_succ, i64_w, i32_w]
                                    rfl
                                  refine pure_ (i := 14) (N := some 36) (v := ?_) (a' := ?_) #[true, true, true, true, true, true, true, true, true, true, true, true, true, true, true, false, true, true, false, false, false, false] rfl rfl (any_of HT_.out (by kernel_rfl)) (fun _ _ _ h => h) (Or.inl ⟨by rfl, ?_⟩) ?_ ?_
                                  rotate_left
                                  · intro w'
                                    go_simp
                                    with_reducible rfl
                                  rotate_left
                                  · simp only [Act.put, List.setIfInBounds_toArray, List.set_cons_zero, List.set_cons_succ, i64_w, i32_w]
                                    rfl
                                  refine pure_ (i := 15) (N := some 37) (v := ?_) (a' := ?_) #[true, true, true, true, true, true, true, true, true, true, true, true, true, true, true, true, true, true, false, false, false, false] rfl rfl (any_of HT_.out (by kernel_rfl)) (fun _ _ _ h => h) (Or.inl ⟨by rfl, ?_⟩) ?_ ?_
                                  rotate_left
                                  · intro w'
                                    go_simp
                                    with_reducible rfl
                                  rotate_left
                                  · simp only [Act.put, List.setIfInBounds_toArray, List.set_cons_zero, List.set_cons_succ, i64_w, i32_w]
                                    rfl
                                  exact norm_ (by first | (simp only [putAll, Act.put, List.setIfInBounds_toArray, List.set_cons_zero, List.set_cons_succ]; done) | (simp only [putAll, Act.put, List.setIfInBounds_toArray, List.set_cons_zero, List.set_cons_succ]; rfl)) (hJ4_5_13 (v173) _ ⟨(by (with_reducible repeat (first | apply Kd.R_alloc | apply Kd.R_drewN | apply Kd.R_drew)); exact HO174.out), (by repeat (first | (with_reducible first | exact HB.out | apply below_alloc | apply pw_below_drewN | apply below_drew1) | exact HB.out))⟩)
                              · skip
                                rintro v173 w22 ⟨h0_, h1_⟩
                                have n0_ : Aside0 (Kd.R (Kd.int .u8) 5 w22 w.heap.size (fun _ => True) v173 y172) := ⟨h0_⟩
                                have n1_ : Aside0 (Below w.heap.size w w22) := ⟨h1_⟩
                                clear HB
                                clear h0_ h1_
                                have HO174 := n0_
                                have HB := n1_
                                clear n0_ n1_
                                have hHeld := trivial
                                refine norm_ (a' := ?_) ?_ ?_
                                rotate_left
                                · simp only [putAll, Act.put, List.setIfInBounds_toArray, List.set_cons_zero, List.set_cons_succ]
                                  rfl
                                refine one_ (i := 5) (N := some 27) #[true, true, true, true, true, true, false, true, false, false, true, true, true, true, false, false, true, true, true, false, false, false] rfl rfl (one_of HT_.out (by kernel_rfl)) (by decide) (fun K hK => ?_)
                                have hcv23 := own_string (P := Tryd.prog) Tryd.underlying92 Tryd.underlying5 Tryd.underlying9 (Kd.own_of_R HO174.out)
                                refine value_ (w1 := ?_) (v := ?_) (by rfl) rfl ?_ ?_
                                rotate_left 2
                                · go_simp
                                  constructor
                                  · rfl
                                  · rfl
                                clear hcv23
                                refine hK.out _ _ trivial (fun hHeld => ?_)
                                clear hK K
                                refine norm_ (a' := ?_) ?_ ?_
                                rotate_left
                                · show Act.put _ (some 27) _ = _
                                  simp only [Act.put, List.setIfInBounds_toArray, List.set_cons_zero, List.set_cons_succ, i64_w, i32_w]
                                  rfl
                                refine pure_ (i := 6) (N := some 28) (v := ?_) (a' := ?_) #[true, true, true, true, true, true, true, true, false, false, true, true, true, true, false, false, true, true, true, false, false, false] rfl rfl (any_of HT_.out (by kernel_rfl)) (fun _ _ _ h => h) (Or.inl ⟨by rfl, ?_⟩) ?_ ?_
                                rotate_left
                                · intro w'
                                  go_simp
                                  with_reducible rfl
                                rotate_left
                                · simp only [Act.put, List.setIfInBounds_toArray, List.set_cons_zero, List.set_cons_succ, i64_w, i32_w]
                                  rfl
                                refine pure_ (i := 8) (N := some 30) (v := ?_) (a' := ?_) #[true, true, true, true, true, true, true, true, true, false, true, true, true, true, false, false, true, true, true, false, false, false] rfl rfl (any_of HT_.out (by kernel_rfl)) (fun _ _ _ h => h) (Or.inl ⟨by rfl, ?_⟩) ?_ ?_
                                rotate_left
                                · intro w'
                                  go_simp
                                  with_reducible rfl
                                rotate_left
                                · simp only [Act.put, List.setIfInBounds_toArray, List.set_cons_zero, List.set_cons_succ, i64_w, i32_w]
                                  rfl
                                refine pure_ (i := 9) (N := some 31) (v := ?_) (a' := ?_) #[true, true, true, true, true, true, true, true, true, true, true, true, true, true, false, false, true, true, true, false, false, false] rfl rfl (any_of HT_.out (by kernel_rfl)) (fun _ _ _ h => h) (Or.inl ⟨by rfl, ?_⟩) ?_ ?_
                                rotate_left
                                · intro w'
                                  go_simp
                                  with_reducible rfl
                                rotate_left
                                · simp only [Act.put, List.setIfInBounds_toArray, List.set_cons_zero, List.set_cons_succ, i64_w, i32_w]
                                  rfl
                                refine pure_ (i := 14) (N := some 36) (v := ?_) (a' := ?_) #[true, true, true, true, true, true, true, true, true, true, true, true, true, true, true, false, true, true, true, false, false, false] rfl rfl (any_of HT_.out (by kernel_rfl)) (fun _ _ _ h => h) (Or.inl ⟨by rfl, ?_⟩) ?_ ?_
                                rotate_left
                                · intro w'
                                  go_simp
                                  with_reducible rfl
                                rotate_left
                                · simp only [Act.put, List.setIfInBounds_toArray, List.set_cons_zero, List.set_cons_succ, i64_w, i32_w]
                                  rfl
                                refine pure_ (i := 15) (N := some 37) (v := ?_) (a' := ?_) #[true, true, true, true, true, true, true, true, true, true, true, true, true, true, true, true, true, true, true, false, false, false] rfl rfl (any_of HT_.out (by kernel_rfl)) (fun _ _ _ h => h) (Or.inl ⟨by rfl, ?_⟩) ?_ ?_
                                rotate_left
                                · intro w'
                                  go_simp
                                  with_reducible rfl
                                rotate_left
                                · simp only [Act.put, List.setIfInBounds_toArray, List.set_cons_zero, List.set_cons_succ, i64_w, i32_w]
                                  rfl
                                exact norm_ (by first | (simp only [putAll, Act.put, List.setIfInBounds_toArray, List.set_cons_zero, List.set_cons_succ]; done) | (simp only [putAll, Act.put, List.setIfInBounds_toArray, List.set_cons_zero, List.set_cons_succ]; rfl)) (hJ4_5_13_18 (v173) _ ⟨(by (with_reducible repeat (first | apply Kd.R_alloc | apply Kd.R_drewN | apply Kd.R_drew)); exact HO174.out), (by repeat (first | (with_reducible first | exact HB.out | apply below_alloc | apply pw_below_drewN | apply below_drew1) | exact HB.out))⟩)
                            · skip
                              rintro v173 w22 ⟨h0_, h1_⟩
                              have n0_ : Aside0 (Kd.R (Kd.int .u8) 5 w22 w.heap.size (fun _ => True) v173 y172) := ⟨h0_⟩
                              have n1_ : Aside0 (Below w.heap.size w w22) := ⟨h1_⟩
                              clear HB
                              clear h0_ h1_
                              have HO174 := n0_
                              have HB := n1_
                              clear n0_ n1_
                              have hHeld := trivial
                              refine norm_ (a' := ?_) ?_ ?_
                              rotate_left
                              · simp only [putAll, Act.put, List.setIfInBounds_toArray, List.set_cons_zero, List.set_cons_succ]
                                rfl
                              refine one_ (i := 18) (N := some 40) #[true, true, true, true, true, true, true, true, true, true, true, true, true, true, true, true, true, true, true, false, false, false] rfl rfl (one_of HT_.out (by kernel_rfl)) (by decide) (fun K hK => ?_)
                              refine goes_ Tryd.func78 (by kernel_rfl) rfl #[.int .i64 (Int.tmod a0 60)] (by rfl) rfl rfl (by (try simp only [List.map_toArray, List.map_cons, List.map_nil]); first | done | rfl | (simp only [List.length_drop, List.length_take]; rfl)) ?_
                              with_reducible refine (haulierref04_two.calls (Int.tmod a0 60) t176 _ A15.out).mono ?_
                              rintro e w23 ⟨rfl, hb⟩
                              refine ⟨_, rfl, ?_⟩
                              have n0_ := Aside0.mk (Kd.R_below (by (with_reducible repeat (first | apply Kd.R_alloc | apply Kd.R_drewN | apply Kd.R_drew)); exact HO174.out) hb)
                              have n1_ := Aside0.mk (below_step (by repeat (first | (with_reducible first | exact HB.out | apply below_alloc | apply pw_below_drewN | apply below_drew1) | exact HB.out)) hb)
                              clear HO174
                              clear HB
                              have HO174 := n0_
                              have HB := n1_
                              clear n0_ n1_
                              (try clear hb)
                              (try clear hb2)
                              (try clear hk)
                              (try clear hi)
                              refine hK.out _ _ trivial (fun hHeld => ?_)
                              clear hK K
                              refine norm_ (a' := ?_) ?_ ?_
                              rotate_left
                              · show Act.put _ (some 40) _ = _
                                simp only [Act.put, List.setIfInBounds_toArray, List.set_cons_zero, List.set_cons_succ, i64_w, i32_w]
                                rfl
                              exact norm_ (by first | (simp only [putAll, Act.put, List.setIfInBounds_toArray, List.set_cons_zero, List.set_cons_succ]; done) | (simp only [putAll, Act.put, List.setIfInBounds_toArray, List.set_cons_zero, List.set_cons_succ]; rfl)) (hJ4_5_13_18 (v173) _ ⟨(by (with_reducible repeat (first | apply Kd.R_alloc | apply Kd.R_drewN | apply Kd.R_drew)); exact HO174.out), (by repeat (first | (with_reducible first | exact HB.out | apply below_alloc | apply pw_below_drewN | apply below_drew1) | exact HB.out))⟩)
                          rintro v173 w23 ⟨h0_, h1_⟩
                          have n0_ : Aside0 (Kd.R (Kd.int .u8) 5 w23 w.heap.size (fun _ => True) v173 y172) := ⟨h0_⟩
                          have n1_ : Aside0 (Below w.heap.size w w23) := ⟨h1_⟩
                          clear HB
                          clear h0_ h1_
                          have HO174 := n0_
                          have HB := n1_
                          clear n0_ n1_
                          have hHeld := trivial
                          refine norm_ (a' := ?_) ?_ ?_
                          rotate_left
                          · simp only [putAll, Act.put, List.setIfInBounds_toArray, List.set_cons_zero, List.set_cons_succ]
                            rfl
                          refine pure_ (i := 19) (N := some 41) (v := ?_) (a' := ?_) #[true, true, true, true, true, true, true, true, true, true, true, true, true, true, true, true, true, true, true, true, false, false] rfl rfl (any_of HT_.out (by kernel_rfl)) (fun _ _ _ h => h) (Or.inl ⟨by rfl, ?_⟩) ?_ ?_
                          rotate_left
                          · intro w'
                            go_simp
                            with_reducible rfl
                          rotate_left
                          · simp only [Act.put, List.setIfInBounds_toArray, List.set_cons_zero, List.set_cons_succ, i64_w, i32_w]
                            rfl
                          refine pure_ (i := 20) (N := some 2) (v := ?_) (a' := ?_) #[true, true, true, true, true, true, true, true, true, true, true, true, true, true, true, true, true, true, true, true, true, false] rfl rfl (any_of HT_.out (by kernel_rfl)) (fun _ _ _ h => h) (Or.inl ⟨by rfl, ?_⟩) ?_ ?_
                          rotate_left
                          · intro w'
                            go_simp
                            with_reducible rfl
                          rotate_left
                          · simp only [Act.put, List.setIfInBounds_toArray, List.set_cons_zero, List.set_cons_succ, i64_w, i32_w]
                            rfl
                          refine pure_ (i := 21) (N := some 3) (v := ?_) (a' := ?_) #[true, true, true, true, true, true, true, true, true, true, true, true, true, true, true, true, true, true, true, true, true, true] rfl rfl (any_of HT_.out (by kernel_rfl)) (fun _ _ _ h => h) (Or.inl ⟨by rfl, ?_⟩) ?_ ?_
                          rotate_left
                          · intro w'
                            go_simp
                            with_reducible rfl
                          rotate_left
                          · simp only [Act.put, List.setIfInBounds_toArray, List.set_cons_zero, List.set_cons_succ, i64_w, i32_w]
                            rfl
                          refine done_ (done_of HT_.out (by kernel_rfl)) ?_
                          try go_wp2
                          go_ret2
                          exact ⟨by first | rfl | (simp [errW_none, errW_some] <;> rfl) | (simp only [← hji5]; first | rfl | (simp [errW_none, errW_some] <;> rfl)) | (simp [*, errW_none, errW_some] <;> rfl), by repeat (first | (with_reducible first | exact HB.out | apply below_alloc | apply pw_below_drewN | apply below_drew1) | exact HB.out)⟩
                        · rw [if_neg c16] at H
                          exact absurd H (by simp)
                      · rw [if_neg c14] at H
                        exact absurd H (by simp)
                    · rw [if_neg c13] at H
                      exact absurd H (by simp)
                  · rw [if_neg c11] at H
                    exact absurd H (by simp)
                · rw [if_neg c10] at H
                  exact absurd H (by simp)
              · rw [if_neg c9] at H
                exact absurd H (by simp)
            · rw [if_neg c8] at H
              exact absurd H (by simp)
          · rw [if_neg c7] at H
            exact absurd H (by simp)
        · rw [if_neg c6] at H
          exact absurd H (by simp)

end Go.Proofs.YtaaiamfolbcchaaDoor.X0

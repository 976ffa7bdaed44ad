/- The contract of clause.Find: the clause of a name, out of a table that is read as a whole. -/
import Derived.Test.YtaaiamfolbcchaaDoorExtA
import Derived.Test.YtaaiamfolbcchaaDoorY00
import Derived.ChangeKeysEq
namespace Go.Proofs.YtaaiamfolbcchaaDoor.Ext
set_option linter.unusedVariables false
set_option linter.unusedSimpArgs false
open Go.RowKit Go.Proofs.YtaaiamfolbcchaaDoorW.PrintWords Go.Proofs.YtaaiamfolbcchaaDoorW.PrintLast

theorem run_index_cells {P : Program} {w : World} (t e : TypeId) (n : Nat) (cs : Array Value) (k : IntKind) (i : Int) (v : Value) (ty : TypeInfo) (h : P.underlying t = some (.array n e)) (hi : P.info? e = some ty) (hc : P.cellsOf e = 1) (he : P.plainKey e = true)
    (h0 : 0 ≤ i) (h1 : i < (n : Int)) (hv : cs[i.toNat]? = some v) : (Instr.index t (.agg cs) (.int k i)).run P w = .ok v w := by
  have hp := run_part_plain (P := P) (w := w) he hv
  have hs : ∀ w1 : World, (sizeOf e).run P w1 = .ok (P.cellsOf e) w1 := fun w1 => run_sizeOf w1 hi
  unfold Instr.index
  simp only [asIntOf, Sem.run_bind, Sem.run_pure, Result.andThen_ok, run_underlying h, if_pos (And.intro h0 h1), hs, hc, Nat.mul_one, hp]
def clause_Find.l0 : Nat → ByteArray → Int → Option (Int × Int)
  | 0, _, _ => none
  | k + 1, a0, x7 => if x7 < 16 then (if 0 ≤ x7 then (if (rdOf ByteArray.empty namesB x7).toList = a0.toList then some (x7, 0) else clause_Find.l0 k a0 (wrap64 (x7 + 1))) else none) else some (0, 13)
def clause_Find.f (k : Nat) (a0 : ByteArray) : Option (Int × Int) := clause_Find.l0 k a0 0
theorem clause_Find.mono_l : ∀ k a0 x, LeO (clause_Find.l0 k a0 x) (clause_Find.l0 (k + 1) a0 x)
  | 0, a0, x => LeO.none _
  | k + 1, a0, x => by
    rw [clause_Find.l0, clause_Find.l0]
    exact LeO.ite (LeO.ite (LeO.ite (LeO.refl _) (clause_Find.mono_l k a0 _)) (LeO.refl _)) (LeO.refl _)
theorem clause_Find.mono : ∀ a0 k, LeO (clause_Find.f k a0) (clause_Find.f (k + 1) a0) := fun a0 k => clause_Find.mono_l k a0 0
theorem names_at (i : Int) (h0 : 0 ≤ i) (h1 : i < 16) (cs : Array Value) (hc : cs.toList = strVals clauseNames) : cs[i.toNat]? = some (.string (rdOf ByteArray.empty namesB i)) := by
  rw [← Array.getElem?_toList, hc]
  obtain ⟨n, rfl⟩ := Int.eq_ofNat_of_zero_le h0
  have hn : n < 16 := by omega
  rw [Int.toNat_natCast]
  have : ∀ m, m < 16 → (strVals clauseNames)[m]? = some (.string (rdOf ByteArray.empty namesB (m : Int))) := by
    intro m hm
    have : m = 0 ∨ m = 1 ∨ m = 2 ∨ m = 3 ∨ m = 4 ∨ m = 5 ∨ m = 6 ∨ m = 7 ∨ m = 8 ∨ m = 9 ∨ m = 10 ∨ m = 11 ∨ m = 12 ∨ m = 13 ∨ m = 14 ∨ m = 15 := by omega
    rcases this with rfl | rfl | rfl | rfl | rfl | rfl | rfl | rfl | rfl | rfl | rfl | rfl | rfl | rfl | rfl | rfl <;> rfl
  exact this n hn
/-- The table as a value. -/
def namesV : Value := .agg (strVals clauseNames).toArray
theorem wpList_load_names {ops : Array Oper} {rest : List Oper} {o : Oper} {a : Act} {w : World} {Q : Exit → Act → World → Prop} (hgd : o.guard = none) (ho : o.op = .load 89 (.global 0)) (hx : a.eval (.global 0) = .pointer (some ⟨0, 0, none⟩)) (hL : LaidOne .names w)
    (h : wpList Tryd.prog ops Q rest (a.put o.dst namesV) w) : wpList Tryd.prog ops Q (o :: rest) a w := by
  obtain ⟨cs, ty, fr, hcell, hfit⟩ := hL
  have hcs : cs = (strVals clauseNames).toArray := by rw [← show cs.toList = strVals clauseNames from hfit]
  refine wpList_load_row hgd 89 (.global 0) ho 0 hx ty cs fr _ hcell Tryd.underlying89 rfl (by rw [hcs]; kernel_rfl) ?_
  rw [hcs]
  exact h
theorem index_names {w : World} {i : Int} (h0 : (0 ≤ i) = True) (h1 : (i < 16) = True) : (Instr.index 89 namesV (.int .i64 i)).run Tryd.prog w = .ok (.string (rdOf ByteArray.empty namesB i)) w := by
  obtain ⟨ty, hty⟩ := Option.isSome_iff_exists.1 (show (Tryd.prog.info? 9).isSome = true by kernel_rfl)
  exact run_index_cells 89 9 16 _ .i64 i _ ty Tryd.underlying89 hty (by kernel_rfl) (by kernel_rfl) (of_eq_true h0) (of_eq_true h1) (names_at i (of_eq_true h0) (of_eq_true h1) _ rfl)
attribute [local go_sem high] index_names
set_option maxHeartbeats 4000000 in
set_option maxRecDepth 100000 in
theorem clause_Find.calls (k : Nat) (a0 : ByteArray) (r1 r2 : Int) (w : World) (hL : Laid [Tb.names] w) (h : clause_Find.f k a0 = some (r1, r2)) :
    Calls Tryd.prog 26 #[.string a0] w fun e w' => e = .returned (.tuple #[.int .i64 r1, .int .i64 r2]) ∧ Below w.heap.size w w' := by
  have hLN : LaidOne .names w := hL .names (by simp)
  have H : clause_Find.l0 k a0 0 = some (r1, r2) := h
  clear h
  have H' := Aside0.mk H
  clear H
  go_enter Tryd.func26, Tryd.ntmps26
  go_wp2_with (refine wpList_load_names rfl rfl rfl hLN ?_)
  clear hLN
  go_loopg [7] k (fun kq v7 w' => ∃ (x7_1 : Int), v7 = .int .i64 x7_1 ∧ Aside0 (clause_Find.l0 kq a0 x7_1 = some (r1, r2)) ∧ Aside0 (kq ≤ k) ∧ Drawn0 w w')
  case atStart => exact ⟨(0), rfl, H', ⟨Nat.le_refl _⟩, by repeat (first | exact Drawn0.refl _ | apply Drawn0.step)⟩
  case round =>
    clear H'
    obtain ⟨x7_1, rfl, HA, HK1, ⟨m1, rfl⟩⟩ := hrel
    cases gk with
    | zero => exact absurd HA.out (by simp [clause_Find.l0])
    | succ k1 =>
      have H := HA.out
      clear HA
      simp only [clause_Find.l0] at H
      by_cases c2 : x7_1 < 16
      · rw [if_pos c2] at H
        have c2b0 : decide (x7_1 < 16) = true := decide_eq_true c2
        have c2b1 := eq_true c2
        clear c2
        by_cases c3 : 0 ≤ x7_1
        · rw [if_pos c3] at H
          have c3b1 := eq_true c3
          clear c3
          by_cases c4 : (rdOf ByteArray.empty namesB x7_1).toList = a0.toList
          · rw [if_pos c4] at H
            have c4b0 : ((rdOf ByteArray.empty namesB x7_1).toList == a0.toList) = true := beq_iff_eq.mpr c4
            clear c4
            simp only [Option.some.injEq, Prod.mk.injEq] at H
            obtain ⟨rfl, rfl⟩ := H
            go_wp2
            go_ret2
            exact ⟨rfl, pw_below_drewN (Below.refl _ _) _⟩
          · rw [if_neg c4] at H
            have c4b0 : ((rdOf ByteArray.empty namesB x7_1).toList == a0.toList) = false := beq_eq_false_iff_ne.mpr c4
            clear c4
            have H' := Aside0.mk H
            clear H
            go_wp2
            go_roundg k1
            case measure => have := HK1.out; omega
            case rel => exact ⟨(wrap64 (x7_1 + 1)), rfl, H', ⟨by have := HK1.out; omega⟩, by repeat (first | exact Drawn0.refl _ | apply Drawn0.step)⟩
        · rw [if_neg c3] at H
          exact absurd H (by simp)
      · rw [if_neg c2] at H
        have c2b0 : decide (x7_1 < 16) = false := decide_eq_false c2
        clear c2
        simp only [Option.some.injEq, Prod.mk.injEq] at H
        obtain ⟨rfl, rfl⟩ := H
        go_wp2
        go_ret2
        exact ⟨rfl, pw_below_drewN (Below.refl _ _) _⟩
end Go.Proofs.YtaaiamfolbcchaaDoor.Ext

/- clause.Sort, and its law, at no finding at all. -/
import Derived.Test.YtaaiamfolbcchaaDoorExtP
import Derived.Test.YtaaiamfolbcchaaDoorX71
import Derived.Shelf.SlSortCmp.NoneTotal
namespace Go.Proofs.YtaaiamfolbcchaaDoor.Ext
set_option linter.unusedVariables false
set_option linter.unusedSimpArgs false
open Go.RowKit Go.Proofs.YtaaiamfolbcchaaDoorW.PrintWords Go.Proofs.YtaaiamfolbcchaaDoorW.PrintLast Go.Proofs.YtaaiamfolbcchaaDoor.X5 Go.Proofs.YtaaiamfolbcchaaDoor.X2 Go.Proofs.YtaaiamfolbcchaaDoor.X7

set_option maxHeartbeats 4000000 in
set_option maxRecDepth 100000 in
theorem clone_none (A : Option Addr) (c : Nat) (w : World) : Calls Tryd.prog 86 #[.slice A 0 c] w fun e w' => ∃ A' c', e = .returned (.slice A' 0 c') ∧ Below w.heap.size w w' := by
  cases A with
  | none =>
    refine (AnyE.slices_Clone_nil Tryd.layClone 0 c w).mono ?_
    rintro e w' ⟨rfl, rfl⟩
    exact ⟨_, _, rfl, Below.refl _ _⟩
  | some a =>
    have q22 : ∀ (w : World) (a : Option Addr) (n c n' c' : Nat), (binOp .eql 56 (.slice a n c) (.slice none n' c')).run Tryd.prog w = .ok (.bool a.isNone) w := fun w a n c n' c' => Lib.run_eql_slice_nil w _ _ a n c n' c' Tryd.underlying56
    go_enter Tryd.func86, Tryd.ntmps86
    go_wp2
    go_ret
    exact ⟨_, _, rfl, by repeat (first | exact Below.refl _ _ | apply below_alloc | apply pw_below_drewN | apply below_drew1)⟩
set_option maxHeartbeats 4000000 in
set_option maxRecDepth 100000 in
theorem compact_none (A : Option Addr) (c : Nat) (w : World) : Calls Tryd.prog 89 #[.slice A 0 c] w fun e w' => e = .returned (.slice A 0 c) ∧ Below w.heap.size w w' := by
  go_enter Tryd.func89, Tryd.ntmps89
  go_wp2
  go_ret
  exact ⟨rfl, by repeat (first | exact Below.refl _ _ | apply below_alloc | apply pw_below_drewN | apply below_drew1)⟩
set_option maxHeartbeats 4000000 in
set_option maxRecDepth 100000 in
theorem sort_none (A : Option Addr) (c : Nat) (w : World) : Calls Tryd.prog 49 #[.slice A 0 c] w fun e w' => ∃ A' c', e = .returned (.slice A' 0 c') ∧ Below w.heap.size w w' := by
  go_enter Tryd.func49, Tryd.ntmps49
  go_wp2_with (first
    | ((with_reducible refine gate_callee (f := 86) rfl ?_); go_loud (refine goesL_ _ rfl rfl Tryd.func86 (by kernel_rfl) rfl #[.slice A 0 c] rfl (by (try simp only [List.map_toArray, List.map_cons, List.map_nil]); first | done | rfl) ?_; refine (clone_none A c _).mono ?_; rintro e w1 ⟨A1, c1, rfl, hb⟩; refine ⟨_, rfl, ?_⟩; have HB := Aside0.mk hb; clear hb))
    | ((with_reducible refine gate_callee (f := 87) rfl ?_); go_loud (refine goesL_ _ rfl rfl Tryd.func87 (by kernel_rfl) rfl #[.slice A1 0 c1, .func (.func 88) #[] #[]] rfl (by (try simp only [List.map_toArray, List.map_cons, List.map_nil]); first | done | rfl) ?_; refine (AnyF.slices_SortFunc_none Tryd.laySort A1 c1 _ _).mono ?_; rintro e w2 ⟨rfl, rfl⟩; refine ⟨_, rfl, ?_⟩))
    | ((with_reducible refine gate_callee (f := 89) rfl ?_); go_loud (refine goesL_ _ rfl rfl Tryd.func89 (by kernel_rfl) rfl #[.slice A1 0 c1] rfl (by (try simp only [List.map_toArray, List.map_cons, List.map_nil]); first | done | rfl) ?_; refine (compact_none A1 c1 _).mono ?_; rintro e w3 ⟨rfl, hb⟩; refine ⟨_, rfl, ?_⟩; have n0_ := Aside0.mk (below_step HB.out hb); clear HB; have HB := n0_; clear n0_ hb)))
  go_ret
  exact ⟨A1, c1, rfl, HB.out⟩
theorem c_none {w : World} (A : Option Addr) : Kd.C k62 w A 0 ([] : List SF) := ⟨rfl, by simp, fun h => absurd h (Nat.lt_irrefl 0)⟩
set_option maxHeartbeats 4000000 in
set_option maxRecDepth 100000 in
theorem sorts_none (k : Nat) (A : Option Addr) (c : Nat) (w : World) (hL : Laid [Tb.pow10, Tb.names, Tb.articles] w) (h1 : haulierref15_Sort.f k [] = some []) (h2 : haulierref15_Same.f k [] [] = some true) (h3 : haulierlaw15_alive.f k = some true) :
    Calls Tryd.prog 9 #[.slice A 0 c] w fun e w' => e = .returned (.bool true) ∧ Below w.heap.size w w' := by
  have HLd := Aside0.mk hL
  have A1 := Aside0.mk h1
  have A2 := Aside0.mk h2
  have A3 := Aside0.mk h3
  have HB := Aside0.mk (Below.refl w.heap.size w)
  clear hL h1 h2 h3
  go_enter Tryd.func9, Tryd.ntmps9
  go_wp2_with (first
    | ((with_reducible refine gate_callee (f := 49) rfl ?_); (first | (refine goesL_ _ rfl rfl Tryd.func49 (by kernel_rfl) rfl #[.slice A 0 c] rfl (by (try simp only [List.map_toArray, List.map_cons, List.map_nil]); first | done | rfl) ?_; refine (sort_none A c _).mono ?_; rintro e w1 ⟨B1, d1, rfl, hb⟩) | (refine goesL_ _ rfl rfl Tryd.func49 (by kernel_rfl) rfl #[.slice B1 0 d1] rfl (by (try simp only [List.map_toArray, List.map_cons, List.map_nil]); first | done | rfl) ?_; refine (sort_none B1 d1 _).mono ?_; rintro e w1 ⟨B2, d2, rfl, hb⟩)); refine ⟨_, rfl, ?_⟩; have n0_ := Aside0.mk (below_step (by repeat (first | (with_reducible first | exact HB.out | apply below_alloc | apply pw_below_drewN | apply below_drew1) | exact HB.out)) hb); clear HB; have HB := n0_; clear n0_ hb)
    | ((with_reducible refine gate_callee (f := 51) rfl ?_); go_loud (refine goesL_ _ rfl rfl Tryd.func51 (by kernel_rfl) rfl #[.slice A 0 c] rfl (by (try simp only [List.map_toArray, List.map_cons, List.map_nil]); first | done | rfl) ?_; refine (haulierref15_Sort.calls k A c [] [] _ (c_none A) (Nat.zero_le _) A1.out).mono ?_; rintro e w1 ⟨v3, rfl, hr, hb⟩; obtain ⟨B3, d3, rfl⟩ := Kd.R_slice hr; refine ⟨_, rfl, ?_⟩; have n0_ := Aside0.mk (below_step (by repeat (first | (with_reducible first | exact HB.out | apply below_alloc | apply pw_below_drewN | apply below_drew1) | exact HB.out)) hb); clear HB; have HB := n0_; clear n0_ hb hr))
    | ((with_reducible refine gate_callee (f := 50) rfl ?_); (first | (refine goesL_ _ rfl rfl Tryd.func50 (by kernel_rfl) rfl #[.slice B1 0 d1, .slice B3 0 d3] rfl (by (try simp only [List.map_toArray, List.map_cons, List.map_nil]); first | done | rfl) ?_; refine (haulierref15_Same.calls k B1 d1 [] B3 d3 [] true _ (c_none B1) (Nat.zero_le _) (c_none B3) (Nat.zero_le _) A2.out).mono ?_) | (refine goesL_ _ rfl rfl Tryd.func50 (by kernel_rfl) rfl #[.slice B2 0 d2, .slice B1 0 d1] rfl (by (try simp only [List.map_toArray, List.map_cons, List.map_nil]); first | done | rfl) ?_; refine (haulierref15_Same.calls k B2 d2 [] B1 d1 [] true _ (c_none B2) (Nat.zero_le _) (c_none B1) (Nat.zero_le _) A2.out).mono ?_)); rintro e w1 ⟨rfl, hd⟩; refine ⟨_, rfl, ?_⟩; have n0_ := Aside0.mk (below_step (by repeat (first | (with_reducible first | exact HB.out | apply below_alloc | apply pw_below_drewN | apply below_drew1) | exact HB.out)) hd.below); clear HB; have HB := n0_; clear n0_ hd)
    | ((with_reducible refine gate_callee (f := 23) rfl ?_); go_loud (refine goesL_ _ rfl rfl Tryd.func23 (by kernel_rfl) rfl #[] rfl (by (try simp only [List.map_toArray, List.map_cons, List.map_nil]); first | done | rfl) ?_; refine (haulierlaw15_alive.calls k true _ (Laid.sub (by decide) (Laid.below HLd.out (by repeat (first | (with_reducible first | exact HB.out | apply below_alloc | apply pw_below_drewN | apply below_drew1) | exact HB.out)))) A3.out).mono ?_; rintro e w1 ⟨rfl, hb⟩; refine ⟨_, rfl, ?_⟩; have n0_ := Aside0.mk (below_step (by repeat (first | (with_reducible first | exact HB.out | apply below_alloc | apply pw_below_drewN | apply below_drew1) | exact HB.out)) hb); clear HB; have HB := n0_; clear n0_ hb))
    | (go_at_call 49; refine (sort_none B1 d1 _).mono ?_; rintro e w1 ⟨B2, d2, rfl, hb⟩; have n0_ := Aside0.mk (below_step (by repeat (first | (with_reducible first | exact HB.out | apply below_alloc | apply pw_below_drewN | apply below_drew1) | exact HB.out)) hb); clear HB; have HB := n0_; clear n0_ hb)
    | (go_at_call 50; refine (haulierref15_Same.calls k B2 d2 [] B1 d1 [] true _ (c_none B2) (Nat.zero_le _) (c_none B1) (Nat.zero_le _) A2.out).mono ?_; rintro e w1 ⟨rfl, hd⟩; have n0_ := Aside0.mk (below_step (by repeat (first | (with_reducible first | exact HB.out | apply below_alloc | apply pw_below_drewN | apply below_drew1) | exact HB.out)) hd.below); clear HB; have HB := n0_; clear n0_ hd)
    | (go_at_call 23; refine (haulierlaw15_alive.calls k true _ (Laid.sub (by decide) (Laid.below HLd.out (by repeat (first | (with_reducible first | exact HB.out | apply below_alloc | apply pw_below_drewN | apply below_drew1) | exact HB.out)))) A3.out).mono ?_; rintro e w1 ⟨rfl, hb⟩; have n0_ := Aside0.mk (below_step (by repeat (first | (with_reducible first | exact HB.out | apply below_alloc | apply pw_below_drewN | apply below_drew1) | exact HB.out)) hb); clear HB; have HB := n0_; clear n0_ hb))
  go_ret
  exact ⟨rfl, by repeat (first | (with_reducible first | exact HB.out | apply below_alloc | apply pw_below_drewN | apply below_drew1) | exact HB.out)⟩
end Go.Proofs.YtaaiamfolbcchaaDoor.Ext

/- The contracts of tape.gather and tape.Parse: a text's timeline, its lines handed to a function that appends to a variable that it has captured. -/
import Derived.Test.YtaaiamfolbcchaaDoorX35
import Derived.Test.YtaaiamfolbcchaaDoorX32
import Derived.Test.YtaaiamfolbcchaaDoorX18
import Derived.Test.YtaaiamfolbcchaaDoorExtF
import Derived.Test.YtaaiamfolbcchaaDoorV2
namespace Go.Proofs.YtaaiamfolbcchaaDoor.Ext
set_option linter.unusedVariables false
set_option linter.unusedSimpArgs false
open Go.RowKit Go.Proofs.YtaaiamfolbcchaaDoorW.PrintWords Go.Proofs.YtaaiamfolbcchaaDoorW.PrintLast Go.Proofs.YtaaiamfolbcchaaDoorW.PrintMore Go.Proofs.YtaaiamfolbcchaaDoor.Y0 Go.Proofs.YtaaiamfolbcchaaDoor.X1 Go.Proofs.YtaaiamfolbcchaaDoor.X2 Go.Proofs.YtaaiamfolbcchaaDoor.X3

section
variable {P : Program} {ops : Array Oper} {Q : Exit → Act → World → Prop}
theorem goesV_ {rest : List Oper} {oi : Oper} {a : Act} {w : World} (N : Option Tmp) (hd : oi.dst = N) (hg : oi.guard = none) {f : FuncId} {fn : Func} {t : Operand} {xs : Array Operand} {ts : Array TypeId} (hf : P.funcs[f]? = some fn) (hname : (fn.name == "runtime.NumGoroutine") = false) (hb : fn.body.isSome = true) (lb args : Array Value)
    (hop : oi.op = .call { callee := .value t, args := xs, argTypes := ts }) (hv : a.eval t = .func (.func f) #[] lb) (hargs : xs.map a.eval ++ lb = args)
    (h : Calls P f args w fun e w' => ∃ v, e = .returned v ∧ wpList P ops Q rest (a.put N v) w') : wpList P ops Q (oi :: rest) a w := by
  refine wpList_plain hg fun K hK => ?_
  have he := enters_ hf hname hb args w
  have hrun : (execOp a.eval oi).run P w = .ok (.enter f args) w := by
    unfold execOp
    simp [hop, resolve, Deferred.ofValue, invoke, hv, hargs, he]
  unfold Oper.wp
  rw [hrun, Oper.upon_enter]
  refine h.mono fun e w'' hh => ?_
  obtain ⟨v, rfl, hk⟩ := hh
  subst hd
  exact hK _ _ hk
end
/-- What the closure of Parse does to the records that it has gathered. -/
def tape_take.f (k : Nat) (line : ByteArray) (out : List S75) : Option (List S75 × Int) :=
  (tape_Read.f k line).bind fun t => if t.2.2.2 = 0 then (if out.length < 1000000 then
    (record_Check.f k ((out ++ [(⟨t.1, t.2.1, t.2.2.1⟩ : S75)]).drop (out.length - 1))).bind fun c => some (out ++ [(⟨t.1, t.2.1, t.2.2.1⟩ : S75)], c.2) else none) else some (out, t.2.2.2)
theorem tape_take.mono (line : ByteArray) (out : List S75) (k : Nat) : LeO (tape_take.f k line out) (tape_take.f (k + 1) line out) :=
  LeO.bind (tape_Read.mono line k) (fun _ => LeO.ite (LeO.ite (LeO.bind (record_Check.mono _ k) (fun _ => LeO.refl _)) (LeO.refl _)) (LeO.refl _))
theorem take_cut {w : World} {Ao : Option Addr} {co : Nat} (out : List S75) (x : S75) (hC : Kd.C k75 w Ao (out ++ [x]).length (out ++ [x])) (hlc : (out ++ [x]).length ≤ co) (hn : out.length < 1000000) :
    ∃ A' c', (∀ W : World, (Instr.slice 80 (.slice Ao (out.length + 1) co) (some (.int .i64 (max 0 (wrap64 ((out.length : Int) + 1 - 2))))) none none).run Tryd.prog W = .ok (.slice A' ((out ++ [x]).drop (out.length - 1)).length c') W) ∧
      Kd.C k75 w A' ((out ++ [x]).drop (out.length - 1)).length ((out ++ [x]).drop (out.length - 1)) ∧ ((out ++ [x]).drop (out.length - 1)).length ≤ c' := by
  have hlo : max 0 (wrap64 ((out.length : Int) + 1 - 2)) = ((out.length - 1 : Nat) : Int) := by unfold wrap64; omega
  have hl : (out ++ [x]).length = out.length + 1 := by simp
  obtain ⟨i0, hi0, _, hsz, _⟩ := info_parts info75
  refine ⟨_, co - (out.length - 1), fun W => ?_, Kd.C_drop hC (m := out.length - 1) (by omega) hlc, by rw [List.length_drop]; omega⟩
  rw [hlo]
  have := cut_from (P := Tryd.prog) 80 75 .i64 Tryd.underlying80 hi0 3 hsz Ao (out.length + 1) co ((out.length - 1 : Nat) : Int) (by omega) (by omega) W
  rw [this, List.length_drop, hl, Int.toNat_natCast]
  rfl
theorem take_check (k : Nat) (A' : Option Addr) (c' n : Nat) (l : List S75) (r1 r2 : Int) (W : World) (hn : l.length = n) (hr0 : Kd.C k75 W A' l.length l) (hc0 : l.length ≤ c') (h : record_Check.f k l = some (r1, r2)) :
    Calls Tryd.prog 93 #[.slice A' n c'] W fun e w' => e = .returned (.tuple #[.int .i64 r1, .int .i64 r2]) ∧ Below W.heap.size W w' := by
  subst hn
  exact record_Check.calls k A' c' l r1 r2 W hr0 hc0 h
set_option maxHeartbeats 4000000 in
set_option maxRecDepth 100000 in
theorem tape_take.calls (k : Nat) (w : World) (gb : Nat) (line : ByteArray) (v : Value) (out out' : List S75) (r : Int) (W : World) (hL : Laid [Tb.maxLen, Tb.errS, Tb.errR] w) (hb : Below w.heap.size w W) (hg : w.heap.size ≤ gb)
    (hbox : W.heap[gb]? = some (.cells #[v] 80 (0, 0))) (HO : Kd.R k75 75 W w.heap.size (fun k_ => k_ ≠ gb) v out) (h : tape_take.f k line out = some (out', r)) :
    Calls Tryd.prog 101 #[.string line, .pointer (some ⟨gb, 0, none⟩)] W fun e w' => e = .returned (.int .i64 r) ∧ ∃ v', w'.heap[gb]? = some (.cells #[v'] 80 (0, 0)) ∧ Kd.R k75 75 w' w.heap.size (fun k_ => k_ ≠ gb) v' out' ∧ Below w.heap.size w w' := by
  have huR := Tryd.underlying75
  have HLd := Aside0.mk hL
  have HB := Aside0.mk hb
  have GE := Aside0.mk hg
  have BK := Aside0.mk hbox
  have HO := Aside0.mk HO
  clear hL hb hg hbox
  unfold tape_take.f at h
  obtain ⟨⟨t1, t2, t3, t4⟩, A1, H⟩ := Option.bind_eq_some_iff.mp h
  clear h
  have A1 := Aside0.mk A1
  simp only at H
  by_cases c1 : t4 = 0
  · subst c1
    rw [if_pos rfl] at H
    by_cases c2 : out.length < 1000000
    · rw [if_pos c2] at H
      obtain ⟨⟨t5, t6⟩, A2, H⟩ := Option.bind_eq_some_iff.mp H
      have A2 := Aside0.mk A2
      simp only [Option.some.injEq, Prod.mk.injEq] at H
      obtain ⟨rfl, rfl⟩ := H
      have C2 := Aside0.mk c2
      clear c2
      have hcb : W.cell? ⟨gb, 0, none⟩ = some v := (blk_cell BK.out 0).trans rfl
      go_enter Tryd.func101, Tryd.ntmps101
      go_wp2_with (first
        | ((with_reducible refine gate_callee (f := 63) rfl ?_); go_loud (refine goesL_ _ rfl rfl Tryd.func63 (by kernel_rfl) rfl #[.string line] rfl (by (try simp only [List.map_toArray, List.map_cons, List.map_nil]); first | done | rfl) ?_; refine (tape_Read.calls k line t1 t2 t3 0 _ (Laid.below HLd.out HB.out) A1.out).mono ?_; rintro e w1 ⟨rfl, hb⟩; refine ⟨_, rfl, ?_⟩; have n0_ := Aside0.mk (below_step HB.out hb); have n1_ := Aside0.mk (blk_below BK.out hb); have n2_ := Aside0.mk (Kd.R_below HO.out hb); clear HB BK HO; have HB := n0_; have BK := n1_; have HO := n2_; clear n0_ n1_ n2_ hb))
        | ((with_reducible refine gate_dst (N := 4) rfl ?_); go_loud (refine box_event ?hg (N := 4) ?hd (cs := #[.int .i64 0, .int .i64 0, .int .i64 0]) (t := 75) ?hr ?_; (case hd => rfl); (case hg => rfl); (case hr => first | (go_simp; done) | (go_simp; rfl)); intro gr hg w8 hbox hb; have GR := Aside0.mk ((by rw [hg]; exact (below_size (by repeat (first | (with_reducible first | exact HB.out | apply below_alloc | apply pw_below_drewN | apply below_drew1) | exact HB.out)))) : w.heap.size ≤ gr); have GN := Aside0.mk (show gr ≠ gb by have h0 := blk_lt BK.out; rw [hg]; exact (Nat.ne_of_lt h0).symm); have n0_ := Aside0.mk (below_step (by repeat (first | (with_reducible first | exact HB.out | apply below_alloc | apply pw_below_drewN | apply below_drew1) | exact HB.out)) hb); have n1_ := Aside0.mk (blk_below BK.out hb); have n2_ := Aside0.mk (Kd.R_below (Kd.R_elderB HO.out gr (Nat.le_of_eq hg.symm)) hb); clear HB BK HO; have HB := n0_; have BK := n1_; have HO := n2_; clear n0_ n1_ n2_ hb hg; have BR := Aside0.mk hbox; have hcz0 : w8.cell? ⟨gr, 0, none⟩ = some (.int .i64 0) := (blk_cell BR.out 0).trans rfl; have hcz1 : w8.cell? ⟨gr, 1, none⟩ = some (.int .i64 0) := (blk_cell BR.out 1).trans rfl; have hcz2 : w8.cell? ⟨gr, 2, none⟩ = some (.int .i64 0) := (blk_cell BR.out 2).trans rfl; have hfz0 := blk_frozen BR.out 0; have hfz1 := blk_frozen BR.out 1; have hfz2 := blk_frozen BR.out 2; have hcb : w8.cell? ⟨gb, 0, none⟩ = some v := (blk_cell BK.out 0).trans rfl; have hfb := blk_frozen BK.out 0; have hcb1 : (w8.setCell ⟨gr, 0, none⟩ (.int .i64 t1)).cell? ⟨gb, 0, none⟩ = some v := (cell_far (fun e => GN.out e.symm) _).trans hcb; clear hbox))
        | ((with_reducible refine gate_builtin (b := .append) (xs := #[.tmp 14, .tmp 16]) rfl ?_); at_builtin; go_loud (refine Kd.R_append k75 (w0 := w) w.heap.size rfl (.tmp 14) (.tmp 16) 80 75 (.agg #[(.int .i64 0), (.int .i64 0), (.int .i64 0)]) 24 rfl Tryd.underlying80 info75 rfl (by decide) (by omega) v out (⟨t1, t2, t3⟩ : S75) [.int .i64 t1, .int .i64 t2, .int .i64 t3] (fun k_ => k_ ≠ gb ∧ k_ ≠ gr) (fun _ => False) rfl (by first | (go_simp; done) | (go_simp; rfl)) ?aP (fun _ hk => hk.elim) ?aF ?aO ?aB ?aS ?aL ?_; (case aP => exact k75_mkM _ _ _ (⟨t1, t2, t3⟩ : S75)); (case aB => exact (by repeat (first | (with_reducible first | exact HB.out | apply below_alloc | apply pw_below_drewN | apply below_drew1 | refine below_set ?_ GR.out) | exact HB.out))); (case aF => exact fun k_ hk => by have h1 := blk_lt BK.out; have h2 := blk_lt BR.out; simp only [World.size_setCell] at hk; exact ⟨by omega, by omega⟩); (case aO => exact Kd.R_far (Kd.R_far (Kd.R_far HO.out (fun _ hk => hk.2) _) (fun _ hk => hk.2) _) (fun _ hk => hk.2) _); (case aS => exact below_size (by repeat (first | (with_reducible first | exact HB.out | apply below_alloc | apply pw_below_drewN | apply below_drew1 | refine below_set ?_ GR.out) | exact HB.out))); (case aL => have := C2.out; omega); intro v1 w9 HO9 hb9 hg9 hat9; have n1_ := Aside0.mk (blk_grown (w := ((w8.setCell ⟨gr, 0, none⟩ (.int .i64 t1)).setCell ⟨gr, 1, none⟩ (.int .i64 t2)).setCell ⟨gr, 2, none⟩ (.int .i64 t3)) (g := gb) (o := .cells #[v] 80 (0, 0)) (by rw [Below.heap_setCell _ _ _ _ (fun e => GN.out e.symm), Below.heap_setCell _ _ _ _ (fun e => GN.out e.symm), Below.heap_setCell _ _ _ _ (fun e => GN.out e.symm)]; exact BK.out) hg9 (fun e => (HO.out.1 gb e.symm).1 rfl)); clear HB BK HO hg9 hat9 hcb hcb1 hfb hcz0 hcz1 hcz2 hfz0 hfz1 hfz2; have HB := Aside0.mk hb9; have BK := n1_; clear n1_ hb9; obtain ⟨Ao, co, ev, hlc, _⟩ := Kd.R_reads HO9; subst ev; have hl_ : (out ++ [(⟨t1, t2, t3⟩ : S75)]).length = out.length + 1 := (by simp); rw [hl_] at HO9; have HOs := Kd.R_far (p := ⟨gb, 0, none⟩) (Kd.R_mono HO9 (fun _ hk => hk.1)) (fun _ hk => hk) (.slice Ao (out.length + 1) co); obtain ⟨A', c', hcut, hC', hlc'⟩ := take_cut out (⟨t1, t2, t3⟩ : S75) (Kd.R_reads' HOs).2.2 hlc C2.out; have HO := Aside0.mk HOs; have HC := Aside0.mk hC'; have HLC' := Aside0.mk hlc'; clear HO9 hlc hC' hlc' HOs hl_; have hcb9 : w9.cell? ⟨gb, 0, none⟩ = some v := (blk_cell BK.out 0).trans rfl; have hfb9 := blk_frozen BK.out 0))
        | ((with_reducible refine gate_callee (f := 93) rfl ?_); go_loud (refine goesL_ _ rfl rfl Tryd.func93 (by kernel_rfl) rfl #[.slice A' (out.length + 1 - (out.length - 1)) c'] rfl (by (try simp only [List.map_toArray, List.map_cons, List.map_nil]); first | done | rfl) ?_; refine (take_check k A' c' _ _ t5 t6 _ (by simp) HC.out HLC'.out A2.out).mono ?_; rintro e w10 ⟨rfl, hb⟩; refine ⟨_, rfl, ?_⟩; have n0_ := Aside0.mk (below_step (by repeat (first | (with_reducible first | exact HB.out | apply below_alloc | apply pw_below_drewN | apply below_drew1 | refine below_set ?_ GE.out) | exact HB.out)) hb); have n1_ := Aside0.mk (blk_below (blk_put BK.out 0 _ rfl) hb); have n2_ := Aside0.mk (Kd.R_below HO.out hb); clear HB BK HO; have HB := n0_; have BK := n1_; have HO := n2_; clear n0_ n1_ n2_ hb)))

      go_ret
      exact ⟨rfl, _, BK.out, HO.out, HB.out⟩
    · rw [if_neg c2] at H
      exact absurd H (by simp)
  · rw [if_neg c1] at H
    simp only [Option.some.injEq, Prod.mk.injEq] at H
    obtain ⟨rfl, rfl⟩ := H
    have c1b0 : (t4 == 0) = false := beq_eq_false_iff_ne.mpr c1
    have c1b1 : (t4 != 0) = true := bne_iff_ne.mpr c1
    go_enter Tryd.func101, Tryd.ntmps101
    go_wp2_with (first
        | ((with_reducible refine gate_callee (f := 63) rfl ?_); go_loud (refine goesL_ _ rfl rfl Tryd.func63 (by kernel_rfl) rfl #[.string line] rfl (by (try simp only [List.map_toArray, List.map_cons, List.map_nil]); first | done | rfl) ?_; refine (tape_Read.calls k line t1 t2 t3 t4 _ (Laid.below HLd.out HB.out) A1.out).mono ?_; rintro e w1 ⟨rfl, hb⟩; refine ⟨_, rfl, ?_⟩; have n0_ := Aside0.mk (below_step HB.out hb); have n1_ := Aside0.mk (blk_below BK.out hb); have n2_ := Aside0.mk (Kd.R_below HO.out hb); clear HB BK HO; have HB := n0_; have BK := n1_; have HO := n2_; clear n0_ n1_ n2_ hb))
        | ((with_reducible refine gate_dst (N := 4) rfl ?_); go_loud (refine box_event ?hg (N := 4) ?hd (cs := #[.int .i64 0, .int .i64 0, .int .i64 0]) (t := 75) ?hr ?_; (case hd => rfl); (case hg => rfl); (case hr => first | (go_simp; done) | (go_simp; rfl)); intro gr hg w8 hbox hb; have GR := Aside0.mk ((by rw [hg]; exact (below_size (by repeat (first | (with_reducible first | exact HB.out | apply below_alloc | apply pw_below_drewN | apply below_drew1) | exact HB.out)))) : w.heap.size ≤ gr); have GN := Aside0.mk (show gr ≠ gb by have h0 := blk_lt BK.out; rw [hg]; exact (Nat.ne_of_lt h0).symm); have n0_ := Aside0.mk (below_step (by repeat (first | (with_reducible first | exact HB.out | apply below_alloc | apply pw_below_drewN | apply below_drew1) | exact HB.out)) hb); have n1_ := Aside0.mk (blk_below BK.out hb); have n2_ := Aside0.mk (Kd.R_below (Kd.R_elderB HO.out gr (Nat.le_of_eq hg.symm)) hb); clear HB BK HO; have HB := n0_; have BK := n1_; have HO := n2_; clear n0_ n1_ n2_ hb hg; have BR := Aside0.mk hbox; have hcz0 : w8.cell? ⟨gr, 0, none⟩ = some (.int .i64 0) := (blk_cell BR.out 0).trans rfl; have hcz1 : w8.cell? ⟨gr, 1, none⟩ = some (.int .i64 0) := (blk_cell BR.out 1).trans rfl; have hcz2 : w8.cell? ⟨gr, 2, none⟩ = some (.int .i64 0) := (blk_cell BR.out 2).trans rfl; have hfz0 := blk_frozen BR.out 0; have hfz1 := blk_frozen BR.out 1; have hfz2 := blk_frozen BR.out 2; have hcb : w8.cell? ⟨gb, 0, none⟩ = some v := (blk_cell BK.out 0).trans rfl; have hfb := blk_frozen BK.out 0; have hcb1 : (w8.setCell ⟨gr, 0, none⟩ (.int .i64 t1)).cell? ⟨gb, 0, none⟩ = some v := (cell_far (fun e => GN.out e.symm) _).trans hcb; clear hbox)))
    go_ret
    exact ⟨rfl, v, by rw [Below.heap_setCell _ _ _ _ (fun e => GN.out e.symm), Below.heap_setCell _ _ _ _ (fun e => GN.out e.symm), Below.heap_setCell _ _ _ _ (fun e => GN.out e.symm)]; exact BK.out, Kd.R_mono (Kd.R_far (Kd.R_far (Kd.R_far HO.out (fun _ hk => hk.2) _) (fun _ hk => hk.2) _) (fun _ hk => hk.2) _) (fun _ hk => hk.1), (by repeat (first | (with_reducible first | exact HB.out | apply below_alloc | apply pw_below_drewN | apply below_drew1 | refine below_set ?_ GR.out) | exact HB.out))⟩
def tape_gather.l0 : Nat → List ByteArray → Int → Int → List S75 → Option (Int × Int × List S75)
  | 0, _, _, _, _ => none
  | k + 1, l, i, n, out => if i < (l.length : Int) then (if 0 ≤ i then ((tape_take.f k (rdOf ByteArray.empty l i) out).bind fun t =>
      if t.2 = 0 then tape_gather.l0 k l (wrap64 (i + 1)) (wrap64 (n + wrap64 (((rdOf ByteArray.empty l i).size : Int) + 1))) t.1 else some (n, t.2, t.1)) else none) else some (0, 0, out)
theorem tape_gather.mono_l : ∀ k l x y z, LeO (tape_gather.l0 k l x y z) (tape_gather.l0 (k + 1) l x y z)
  | 0, _, _, _, _ => LeO.none _
  | k + 1, l, x, y, z => by
    rw [tape_gather.l0, tape_gather.l0]
    exact LeO.ite (LeO.ite (LeO.bind (tape_take.mono _ _ k) (fun _ => LeO.ite (tape_gather.mono_l k l _ _ _) (LeO.refl _))) (LeO.refl _)) (LeO.refl _)
set_option maxHeartbeats 4000000 in
set_option maxRecDepth 100000 in
theorem tape_gather.calls (k : Nat) (w : World) (gb : Nat) (A : Option Addr) (c : Nat) (l : List ByteArray) (v : Value) (out out' : List S75) (r1 r2 : Int) (W : World) (hL : Laid [Tb.maxLen, Tb.errS, Tb.errR] w) (hb : Below w.heap.size w W) (hg : w.heap.size ≤ gb)
    (hr : Kd.C Kd.string w A l.length l) (hbox : W.heap[gb]? = some (.cells #[v] 80 (0, 0))) (HO : Kd.R k75 75 W w.heap.size (fun k_ => k_ ≠ gb) v out) (h : tape_gather.l0 k l 0 0 out = some (r1, r2, out')) :
    Calls Tryd.prog 100 #[.slice A l.length c, .func (.func 101) #[] #[.pointer (some ⟨gb, 0, none⟩)]] W fun e w' => e = .returned (.tuple #[.int .i64 r1, .int .i64 r2]) ∧ ∃ v', w'.heap[gb]? = some (.cells #[v'] 80 (0, 0)) ∧ Kd.R k75 75 w' w.heap.size (fun k_ => k_ ≠ gb) v' out' ∧ Below w.heap.size w w' := by
  have HLd := Aside0.mk hL
  have HB := Aside0.mk hb
  have GE := Aside0.mk hg
  have BK := Aside0.mk hbox
  have HO := Aside0.mk HO
  have HR := Aside0.mk hr
  have H' := Aside0.mk h
  clear hL hb hg hbox h hr
  go_enter Tryd.func100, Tryd.ntmps100
  go_wp2
  go_loopg [6, 12] k (fun kq v6 v12 w' => ∃ (n i : Int) (os : List S75) (vo : Value), v6 = .int .i64 n ∧ v12 = .int .i64 i ∧ Aside0 (tape_gather.l0 kq l i n os = some (r1, r2, out')) ∧ Aside0 (kq ≤ k) ∧ Aside0 (w'.heap[gb]? = some (.cells #[vo] 80 (0, 0))) ∧ Aside0 (Kd.R k75 75 w' w.heap.size (fun k_ => k_ ≠ gb) vo os) ∧ Aside0 (Below w.heap.size w w'))
  case atStart => exact ⟨0, 0, out, v, rfl, rfl, H', ⟨Nat.le_refl _⟩, BK, HO, HB⟩
  case round =>
    clear H' BK HO HB
    obtain ⟨n, i, os, vo, rfl, rfl, HA, HK1, BK, HO, HB⟩ := hrel
    cases gk with
    | zero => exact absurd HA.out (by simp [tape_gather.l0])
    | succ k1 =>
      have H := HA.out
      clear HA
      simp only [tape_gather.l0] at H
      by_cases c2 : i < (l.length : Int)
      · rw [if_pos c2] at H
        have c2b0 : decide (i < (l.length : Int)) = true := decide_eq_true c2
        by_cases c3 : 0 ≤ i
        · rw [if_pos c3] at H
          have c3b0 : decide (0 ≤ i) = true := decide_eq_true c3
          obtain ⟨⟨o1, e1⟩, A1, H⟩ := Option.bind_eq_some_iff.mp H
          have A1 := Aside0.mk A1
          obtain ⟨ad, ea, hx0⟩ := Kd.at_string HR.out i c3 c2
          cases ea
          replace hx0 := (HB.out.cell (World.block_lt_of_cell? w _ hx0)).trans hx0
          replace c2 := eq_true c2
          replace c3 := eq_true c3
          simp only at H
          by_cases c4 : e1 = 0
          · subst c4
            rw [if_pos rfl] at H
            have H' := Aside0.mk H
            clear H
            go_wp2_with (first
              | (refine goesV_ _ rfl rfl Tryd.func101 (by kernel_rfl) rfl #[.pointer (some ⟨gb, 0, none⟩)] #[.string (rdOf ByteArray.empty l i), .pointer (some ⟨gb, 0, none⟩)] rfl (by first | rfl | (go_simp; done)) (by (try simp only [List.map_toArray, List.map_cons, List.map_nil]); first | done | rfl) ?_; go_loud (refine (tape_take.calls k1 w gb (rdOf ByteArray.empty l i) vo os o1 0 _ HLd.out (by repeat (first | (with_reducible first | exact HB.out | apply below_alloc | apply pw_below_drewN | apply below_drew1) | exact HB.out)) GE.out BK.out HO.out A1.out).mono ?_; rintro e w1 ⟨rfl, vo1, hbk, ho, hb⟩; refine ⟨_, rfl, ?_⟩; have n0_ := Aside0.mk hb; have n1_ := Aside0.mk hbk; have n2_ := Aside0.mk ho; clear HB BK HO; have HB := n0_; have BK := n1_; have HO := n2_; clear n0_ n1_ n2_ hb hbk ho)))
            go_roundg k1
            case measure => have := HK1.out; omega
            case rel => exact ⟨_, wrap64 (i + 1), _, _, rfl, rfl, H', ⟨by have := HK1.out; omega⟩, BK, HO, ⟨(by repeat (first | (with_reducible first | exact HB.out | apply below_alloc | apply pw_below_drewN | apply below_drew1) | exact HB.out))⟩⟩
          · rw [if_neg c4] at H
            simp only [Option.some.injEq, Prod.mk.injEq] at H
            obtain ⟨rfl, rfl, rfl⟩ := H
            have c4b0 : (e1 == 0) = false := beq_eq_false_iff_ne.mpr c4
            have c4b1 : (e1 != 0) = true := bne_iff_ne.mpr c4
            go_wp2_with (first
              | (refine goesV_ _ rfl rfl Tryd.func101 (by kernel_rfl) rfl #[.pointer (some ⟨gb, 0, none⟩)] #[.string (rdOf ByteArray.empty l i), .pointer (some ⟨gb, 0, none⟩)] rfl (by first | rfl | (go_simp; done)) (by (try simp only [List.map_toArray, List.map_cons, List.map_nil]); first | done | rfl) ?_; go_loud (refine (tape_take.calls k1 w gb (rdOf ByteArray.empty l i) vo os o1 e1 _ HLd.out (by repeat (first | (with_reducible first | exact HB.out | apply below_alloc | apply pw_below_drewN | apply below_drew1) | exact HB.out)) GE.out BK.out HO.out A1.out).mono ?_; rintro e w1 ⟨rfl, vo1, hbk, ho, hb⟩; refine ⟨_, rfl, ?_⟩; have n0_ := Aside0.mk hb; have n1_ := Aside0.mk hbk; have n2_ := Aside0.mk ho; clear HB BK HO; have HB := n0_; have BK := n1_; have HO := n2_; clear n0_ n1_ n2_ hb hbk ho)))
            go_ret2
            exact ⟨rfl, _, BK.out, HO.out, (by repeat (first | (with_reducible first | exact HB.out | apply below_alloc | apply pw_below_drewN | apply below_drew1) | exact HB.out))⟩
        · rw [if_neg c3] at H
          exact absurd H (by simp)
      · rw [if_neg c2] at H
        have c2b0 : decide (i < (l.length : Int)) = false := decide_eq_false c2
        simp only [Option.some.injEq, Prod.mk.injEq] at H
        obtain ⟨rfl, rfl, rfl⟩ := H
        go_wp2
        go_ret2
        exact ⟨rfl, _, BK.out, HO.out, (by repeat (first | (with_reducible first | exact HB.out | apply below_alloc | apply pw_below_drewN | apply below_drew1) | exact HB.out))⟩
theorem parse_start {w1 W w2 : World} {Al : Option Addr} {n cl base : Nat} {ok : Nat → Prop} {l : List ByteArray} (hb : Below W.heap.size W w2) (hl : Kd.R Kd.string 9 w1 base ok (.slice Al n cl) l) (h1 : Below w1.heap.size w1 W) : Aside0 (Kd.C Kd.string W Al l.length l) := ⟨(Kd.R_reads' (Kd.R_below hl h1)).2.2⟩
theorem parse_keep {w W w2 : World} (hb : Below W.heap.size W w2) (h : Below w.heap.size w W) : Aside0 (Below w.heap.size w W) := ⟨h⟩
theorem parse_ge {W w2 : World} {g : Nat} (hb : Below W.heap.size W w2) (h : g = W.heap.size) : Aside0 (W.heap.size ≤ g) := ⟨Nat.le_of_eq h.symm⟩
def tape_Parse.f (k : Nat) (a0 : ByteArray) : Option (List S75 × Int × Int) :=
  (word_Lines.f a0).bind fun t => if t.2.2 = 0 then ((tape_gather.l0 k t.1 0 0 []).bind fun g => if g.2.1 = 0 then some (g.2.2, 0, 0) else some ([], g.1, g.2.1)) else some ([], t.2.1, t.2.2)
theorem tape_Parse.mono : ∀ a0 k, LeO (tape_Parse.f k a0) (tape_Parse.f (k + 1) a0) := fun a0 k =>
  LeO.bind (LeO.refl _) (fun _ => LeO.ite (LeO.bind (tape_gather.mono_l k _ _ _ _) (fun _ => LeO.refl _)) (LeO.refl _))
set_option maxHeartbeats 4000000 in
set_option maxRecDepth 100000 in
theorem tape_Parse.calls (k : Nat) (a0 : ByteArray) (r1 : List S75) (r2 r3 : Int) (w : World) (hL : Laid [Tb.maxLen, Tb.errS, Tb.errR] w) (h : tape_Parse.f k a0 = some (r1, r2, r3)) :
    Calls Tryd.prog 67 #[.string a0] w fun e w' => ∃ v0_ : Value, e = .returned (.tuple #[v0_, .int .i64 r2, .int .i64 r3]) ∧ Kd.R k75 75 w' w.heap.size (fun _ => True) v0_ r1 ∧ Below w.heap.size w w' := by
  have HLd := Aside0.mk hL
  have HB := Aside0.mk (Below.refl w.heap.size w)
  unfold tape_Parse.f at h
  obtain ⟨⟨t1, t2, t3⟩, A1, H⟩ := Option.bind_eq_some_iff.mp h
  have A1 := Aside0.mk A1
  clear h hL
  simp only at H
  by_cases c1 : t3 = 0
  · subst c1
    rw [if_pos rfl] at H
    obtain ⟨⟨g1, g2, g3⟩, A2, H⟩ := Option.bind_eq_some_iff.mp H
    have A2 := Aside0.mk A2
    simp only at H
    by_cases c2 : g2 = 0
    · subst c2
      rw [if_pos rfl] at H
      simp only [Option.some.injEq, Prod.mk.injEq] at H
      obtain ⟨rfl, rfl, rfl⟩ := H
      go_enter Tryd.func67, Tryd.ntmps67
      go_wp2_with (first
        | ((with_reducible refine gate_callee (f := 56) rfl ?_); go_loud (refine goesL_ _ rfl rfl Tryd.func56 (by kernel_rfl) rfl #[.string a0] rfl (by (try simp only [List.map_toArray, List.map_cons, List.map_nil]); first | done | rfl) ?_; refine (word_Lines.calls a0 t1 t2 0 _ (Laid.sub (by decide) (Laid.below HLd.out HB.out)) A1.out).mono ?_; rintro e w1 ⟨vl, rfl, hl, hb⟩; obtain ⟨Al, cl, rfl⟩ := Kd.R_slice hl; refine ⟨_, rfl, ?_⟩; have HLi := Aside0.mk hl; have n0_ := Aside0.mk (below_step HB.out hb); clear HB; have HB := n0_; clear n0_ hb hl))
        | ((with_reducible refine gate_dst (N := 8) rfl ?_); go_loud (refine box_event ?hg (N := 8) ?hd (cs := #[.slice none 0 0]) (t := 80) ?hr ?_; (case hd => rfl); (case hg => rfl); (case hr => first | (go_simp; done) | (go_simp; rfl)); intro gb hg w2 hbox hb; have HC := parse_start hb HLi.out (by repeat (first | exact Below.refl _ _ | apply below_alloc | apply pw_below_drewN | apply below_drew1)); have HBW := parse_keep hb (by repeat (first | (with_reducible first | exact HB.out | apply below_alloc | apply pw_below_drewN | apply below_drew1) | exact HB.out)); have GEB := parse_ge hb hg; have HWB := Aside0.mk hb; have BK := Aside0.mk hbox; clear hbox hb hg HB))
        | ((with_reducible refine gate_callee (f := 100) rfl ?_); go_loud (refine goesL_ _ rfl rfl Tryd.func100 (by kernel_rfl) rfl #[.slice Al t1.length cl, .func (.func 101) #[] #[.pointer (some ⟨gb, 0, none⟩)]] rfl (by (try simp only [List.map_toArray, List.map_cons, List.map_nil]); first | done | rfl) ?_; refine (tape_gather.calls k _ gb Al cl t1 (.slice none 0 0) [] g3 g1 0 _ (Laid.below HLd.out HBW.out) (by repeat (first | exact HWB.out | apply below_alloc | apply pw_below_drewN | apply below_drew1)) GEB.out HC.out BK.out (Kd.R_nil _ _ _ _ _) A2.out).mono ?_; rintro e w3 ⟨rfl, vo, hbk, ho, hb⟩; refine ⟨_, rfl, ?_⟩; have HB := Aside0.mk (below_step HBW.out hb); have HO := Aside0.mk ho; have hcb : w3.cell? ⟨gb, 0, none⟩ = some vo := (blk_cell hbk 0).trans rfl; have hfb := blk_frozen hbk 0; clear hbk ho hb BK)))
      go_ret3
      exact ⟨_, rfl, Kd.R_mono (Kd.R_lower HO.out (below_size HBW.out)) (fun _ _ => trivial), (by repeat (first | (with_reducible first | exact HB.out | apply below_alloc | apply pw_below_drewN | apply below_drew1) | exact HB.out))⟩
    · rw [if_neg c2] at H
      simp only [Option.some.injEq, Prod.mk.injEq] at H
      obtain ⟨rfl, rfl, rfl⟩ := H
      have c2b0 : (g2 == 0) = false := beq_eq_false_iff_ne.mpr c2
      have c2b1 : (g2 != 0) = true := bne_iff_ne.mpr c2
      go_enter Tryd.func67, Tryd.ntmps67
      go_wp2_with (first
        | ((with_reducible refine gate_callee (f := 56) rfl ?_); go_loud (refine goesL_ _ rfl rfl Tryd.func56 (by kernel_rfl) rfl #[.string a0] rfl (by (try simp only [List.map_toArray, List.map_cons, List.map_nil]); first | done | rfl) ?_; refine (word_Lines.calls a0 t1 t2 0 _ (Laid.sub (by decide) (Laid.below HLd.out HB.out)) A1.out).mono ?_; rintro e w1 ⟨vl, rfl, hl, hb⟩; obtain ⟨Al, cl, rfl⟩ := Kd.R_slice hl; refine ⟨_, rfl, ?_⟩; have HLi := Aside0.mk hl; have n0_ := Aside0.mk (below_step HB.out hb); clear HB; have HB := n0_; clear n0_ hb hl))
        | ((with_reducible refine gate_dst (N := 8) rfl ?_); go_loud (refine box_event ?hg (N := 8) ?hd (cs := #[.slice none 0 0]) (t := 80) ?hr ?_; (case hd => rfl); (case hg => rfl); (case hr => first | (go_simp; done) | (go_simp; rfl)); intro gb hg w2 hbox hb; have HC := parse_start hb HLi.out (by repeat (first | exact Below.refl _ _ | apply below_alloc | apply pw_below_drewN | apply below_drew1)); have HBW := parse_keep hb (by repeat (first | (with_reducible first | exact HB.out | apply below_alloc | apply pw_below_drewN | apply below_drew1) | exact HB.out)); have GEB := parse_ge hb hg; have HWB := Aside0.mk hb; have BK := Aside0.mk hbox; clear hbox hb hg HB))
        | ((with_reducible refine gate_callee (f := 100) rfl ?_); go_loud (refine goesL_ _ rfl rfl Tryd.func100 (by kernel_rfl) rfl #[.slice Al t1.length cl, .func (.func 101) #[] #[.pointer (some ⟨gb, 0, none⟩)]] rfl (by (try simp only [List.map_toArray, List.map_cons, List.map_nil]); first | done | rfl) ?_; refine (tape_gather.calls k _ gb Al cl t1 (.slice none 0 0) [] g3 g1 g2 _ (Laid.below HLd.out HBW.out) (by repeat (first | exact HWB.out | apply below_alloc | apply pw_below_drewN | apply below_drew1)) GEB.out HC.out BK.out (Kd.R_nil _ _ _ _ _) A2.out).mono ?_; rintro e w3 ⟨rfl, vo, hbk, ho, hb⟩; refine ⟨_, rfl, ?_⟩; have HB := Aside0.mk (below_step HBW.out hb); have HO := Aside0.mk ho; have hcb : w3.cell? ⟨gb, 0, none⟩ = some vo := (blk_cell hbk 0).trans rfl; have hfb := blk_frozen hbk 0; clear hbk ho hb BK)))
      go_ret3
      exact ⟨_, rfl, Kd.R_nil _ _ _ _ _, (by repeat (first | (with_reducible first | exact HB.out | apply below_alloc | apply pw_below_drewN | apply below_drew1) | exact HB.out))⟩
  · rw [if_neg c1] at H
    simp only [Option.some.injEq, Prod.mk.injEq] at H
    obtain ⟨rfl, rfl, rfl⟩ := H
    have c1b0 : (t3 == 0) = false := beq_eq_false_iff_ne.mpr c1
    have c1b1 : (t3 != 0) = true := bne_iff_ne.mpr c1
    go_enter Tryd.func67, Tryd.ntmps67
    go_wp2_with (first
      | ((with_reducible refine gate_callee (f := 56) rfl ?_); go_loud (refine goesL_ _ rfl rfl Tryd.func56 (by kernel_rfl) rfl #[.string a0] rfl (by (try simp only [List.map_toArray, List.map_cons, List.map_nil]); first | done | rfl) ?_; refine (word_Lines.calls a0 t1 t2 t3 _ (Laid.sub (by decide) (Laid.below HLd.out HB.out)) A1.out).mono ?_; rintro e w1 ⟨vl, rfl, hl, hb⟩; obtain ⟨Al, cl, rfl⟩ := Kd.R_slice hl; refine ⟨_, rfl, ?_⟩; have HLi := Aside0.mk hl; have n0_ := Aside0.mk (below_step HB.out hb); clear HB; have HB := n0_; clear n0_ hb hl)))
    go_ret3
    exact ⟨_, rfl, Kd.R_nil _ _ _ _ _, (by repeat (first | (with_reducible first | exact HB.out | apply below_alloc | apply pw_below_drewN | apply below_drew1) | exact HB.out))⟩
end Go.Proofs.YtaaiamfolbcchaaDoor.Ext

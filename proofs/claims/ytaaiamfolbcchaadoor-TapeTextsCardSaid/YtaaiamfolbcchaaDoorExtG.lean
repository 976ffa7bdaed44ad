/- The contract of tape.Print: a timeline's text, made by a strings.Builder. -/
import Derived.Test.YtaaiamfolbcchaaDoorX32
import Derived.Test.YtaaiamfolbcchaaDoorX33
import Derived.Test.YtaaiamfolbcchaaDoorExtF
namespace Go.Proofs.YtaaiamfolbcchaaDoor.Ext
set_option linter.unusedVariables false
set_option linter.unusedSimpArgs false
open Go.RowKit Go.Proofs.YtaaiamfolbcchaaDoorW.PrintWords Go.Proofs.YtaaiamfolbcchaaDoorW.PrintLast Go.Proofs.YtaaiamfolbcchaaDoor.Y0 Go.Proofs.YtaaiamfolbcchaaDoor.X1 Go.Proofs.YtaaiamfolbcchaaDoor.X2 Go.Proofs.YtaaiamfolbcchaaDoor.X3

theorem isb_below {T e : TypeId} {B b : Nat} {bs : List Value} {w w' : World} (h : Lib.IsBuilderF T e B b bs w) (hb : Below w.heap.size w w') : Lib.IsBuilderF T e B b bs w' := by
  have one : ∀ p, Lib.BuilderAtF T e B b p bs w → Lib.BuilderAtF T e B b p bs w' := by
    rintro p ⟨h1, v, h2, h3, h4⟩
    refine ⟨h1, v, blk_below h2 hb, ⟨h3.1, ?_⟩, h4⟩
    rcases h3.2 with hn | ⟨g, cap, cur, fz, hv, hg, hh, rest⟩
    · exact .inl hn
    · exact .inr ⟨g, cap, cur, fz, hv, hg, blk_below hh hb, rest⟩
  exact h.elim (fun x => .inl (one _ x)) (fun x => .inr (one _ x))
theorem isb_new {T e : TypeId} {B b : Nat} {w : World} (hB : B ≤ b) (h : w.heap[b]? = some (.cells #[.pointer none, .slice none 0 0] T (0, 0))) : Lib.IsBuilderF T e B b (Lib.byteCells []) w :=
  .inl ⟨hB, _, h, World.ownsRowF_nil w B e 1, by simp [Value.ownBlock]⟩
theorem isb_write {T e : TypeId} {B b : Nat} {acc : List UInt8} {s : ByteArray} {w : World} (h : Lib.BuilderAtF T e B b (.pointer (some ⟨b, 0, none⟩)) (Lib.byteCells acc ++ Lib.strCells s) w) : Lib.IsBuilderF T e B b (Lib.byteCells (acc ++ s.data.toList)) w := by
  have : Lib.byteCells acc ++ Lib.strCells s = Lib.byteCells (acc ++ s.data.toList) := by simp [Lib.byteCells, Lib.strCells]
  rw [this] at h
  exact .inr h
def tape_Print.l0 : Nat → List S75 → Int → List UInt8 → Option (ByteArray × Int)
  | 0, _, _, _ => none
  | k + 1, l, i, acc => if i < (l.length : Int) then (if 0 ≤ i then ((tape_Line.f k ((rd_T75 l i).f0) ((rd_T75 l i).f1) ((rd_T75 l i).f2)).bind fun t =>
      if t.2 = 0 then (if t.1.size < 1000000 then (if acc.length < 1000000 then tape_Print.l0 k l (wrap64 (i + 1)) (acc ++ (t.1 ++ (⟨#[10]⟩ : ByteArray)).data.toList) else none) else none) else some (⟨#[]⟩, t.2)) else none) else some (⟨acc.toArray⟩, 0)
def tape_Print.f (k : Nat) (l : List S75) : Option (ByteArray × Int) :=
  (record_Check.f k l).bind fun t => if t.2 = 0 then tape_Print.l0 k l 0 [] else some (⟨#[]⟩, t.2)
theorem tape_Print.mono_l : ∀ k l x y, LeO (tape_Print.l0 k l x y) (tape_Print.l0 (k + 1) l x y)
  | 0, _, _, _ => LeO.none _
  | k + 1, l, x, y => by
    rw [tape_Print.l0, tape_Print.l0]
    exact LeO.ite (LeO.ite (LeO.bind (tape_Line.mono _ _ _ k) (fun _ => LeO.ite (LeO.ite (LeO.ite (tape_Print.mono_l k l _ _) (LeO.refl _)) (LeO.refl _)) (LeO.refl _))) (LeO.refl _)) (LeO.refl _)
theorem tape_Print.mono : ∀ a0 k, LeO (tape_Print.f k a0) (tape_Print.f (k + 1) a0) := fun a0 k =>
  LeO.bind (record_Check.mono a0 k) (fun _ => LeO.ite (tape_Print.mono_l k a0 0 []) (LeO.refl _))
set_option maxHeartbeats 4000000 in
set_option maxRecDepth 100000 in
theorem tape_Print.calls (k : Nat) (A0 : Option Addr) (c0 : Nat) (l0 : List S75) (r1 : ByteArray) (r2 : Int) (w : World) (hL : Laid [Tb.pow10] w) (hr0 : Kd.C k75 w A0 l0.length l0) (hc0 : l0.length ≤ c0) (h : tape_Print.f k l0 = some (r1, r2)) :
    Calls Tryd.prog 65 #[.slice A0 l0.length c0] w fun e w' => e = .returned (.tuple #[.string r1, .int .i64 r2]) ∧ Below w.heap.size w w' := by
  have hu75 := Tryd.underlying75
  have HR0 := Aside0.mk hr0
  have HC0 := Aside0.mk hc0
  have HLd := Aside0.mk hL
  clear hr0 hc0 hL
  unfold tape_Print.f at h
  obtain ⟨⟨t1, t2⟩, A1, H⟩ := Option.bind_eq_some_iff.mp h
  clear h
  have A1 := Aside0.mk A1
  have HB := Aside0.mk (Below.refl w.heap.size w)
  by_cases c1 : t2 = 0
  · subst c1
    replace H : tape_Print.l0 k l0 0 [] = some (r1, r2) := by simpa using H
    have H' := Aside0.mk H
    clear H
    go_enter Tryd.func65, Tryd.ntmps65
    go_wp2_with (first
      | ((with_reducible refine gate_callee (f := 93) rfl ?_); refine goesL_ _ rfl rfl Tryd.func93 (by kernel_rfl) rfl #[.slice A0 l0.length c0] rfl (by (try simp only [List.map_toArray, List.map_cons, List.map_nil]); first | done | rfl) ?_; refine (record_Check.calls k A0 c0 l0 t1 0 _ (Kd.C_below HR0.out HB.out) HC0.out A1.out).mono ?_; rintro e w1 ⟨rfl, hb⟩; refine ⟨_, rfl, ?_⟩; have n0_ := Aside0.mk (below_step HB.out hb); clear HB; have HB := n0_; clear n0_ hb)
      | ((with_reducible refine gate_dst (N := 6) rfl ?_); go_loud (refine box_event ?hg (N := 6) ?hd (cs := #[.pointer none, .slice none 0 0]) (t := 116) ?hr ?_; (case hd => rfl); (case hg => rfl); (case hr => first | (go_simp; done) | (go_simp; rfl)); intro gb hg w2 hbox hb; have n1_ := Aside0.mk ((by rw [hg]; exact (below_size (by repeat (first | (with_reducible first | exact HB.out | apply below_alloc | apply pw_below_drewN | apply below_drew1) | exact HB.out)))) : w.heap.size ≤ gb); have n0_ := Aside0.mk (below_step (by repeat (first | (with_reducible first | exact HB.out | apply below_alloc | apply pw_below_drewN | apply below_drew1) | exact HB.out)) hb); clear HB; have HB := n0_; have BD := Aside0.mk (isb_new (e := 5) n1_.out hbox); clear n0_ hb hbox hg n1_)))
    go_loopg [21] k (fun kq v21 w' => ∃ (x : Int) (acc : List UInt8), v21 = .int .i64 x ∧ Aside0 (tape_Print.l0 kq l0 x acc = some (r1, r2)) ∧ Aside0 (kq ≤ k) ∧ Aside0 (Lib.IsBuilderF 116 5 w.heap.size gb (Lib.byteCells acc) w') ∧ Aside0 (Below w.heap.size w w'))
    case atStart => exact ⟨0, [], rfl, H', ⟨Nat.le_refl _⟩, BD, HB⟩
    case round =>
      clear H' BD HB
      obtain ⟨x, acc, rfl, HA, HK1, BD, HB⟩ := hrel
      cases gk with
      | zero => exact absurd HA.out (by simp [tape_Print.l0])
      | succ k1 =>
        have H := HA.out
        clear HA
        simp only [tape_Print.l0] at H
        by_cases c2 : x < (l0.length : Int)
        · rw [if_pos c2] at H
          have c2b0 : decide (x < (l0.length : Int)) = true := decide_eq_true c2
          by_cases c3 : 0 ≤ x
          · rw [if_pos c3] at H
            have c3b0 : decide (0 ≤ x) = true := decide_eq_true c3
            obtain ⟨⟨t3, t4⟩, A2, H⟩ := Option.bind_eq_some_iff.mp H
            have A2 := Aside0.mk A2
            obtain ⟨ad, ea, hx0, hx1, hx2⟩ := at_T75 HR0.out x c3 c2
            cases ea
            replace hx0 := (HB.out.cell (World.block_lt_of_cell? w _ hx0)).trans hx0
            replace hx1 := (HB.out.cell (World.block_lt_of_cell? w _ hx1)).trans hx1
            replace hx2 := (HB.out.cell (World.block_lt_of_cell? w _ hx2)).trans hx2
            replace c2 := eq_true c2
            replace c3 := eq_true c3
            simp only at H
            by_cases c4 : t4 = 0
            · subst c4
              rw [if_pos rfl] at H
              by_cases c5 : t3.size < 1000000
              · rw [if_pos c5] at H
                by_cases c6 : acc.length < 1000000
                · rw [if_pos c6] at H
                  have H' := Aside0.mk H
                  clear H
                  have c5a := Aside0.mk c5
                  have c6a := Aside0.mk c6
                  have c5b : (9223372036854775807 < t3.size + 1) = False := eq_false (by omega)
                  clear c5 c6
                  go_wp2_with (first
                    | ((with_reducible refine gate_dst (N := 8) rfl ?_); refine box_event ?hg (N := 8) ?hd (cs := #[.int .i64 0, .int .i64 0, .int .i64 0]) (t := 75) ?hr ?_; (case hd => rfl); (case hg => rfl); (case hr => first | (go_simp; done) | (go_simp; rfl)); intro gr hg w8 hbox hb; have GE := Aside0.mk ((by rw [hg]; exact (below_size (by repeat (first | (with_reducible first | exact HB.out | apply below_alloc | apply pw_below_drewN | apply below_drew1) | exact HB.out)))) : w.heap.size ≤ gr); have GR := Aside0.mk (show wr.heap.size ≤ gr by rw [hg]; exact Nat.le_refl _); have HX := Aside0.mk (show Below wr.heap.size wr w8 from below_step (by repeat (first | exact Below.refl _ _ | apply below_alloc | apply pw_below_drewN | apply below_drew1)) hb); have n0_ := Aside0.mk (below_step (by repeat (first | (with_reducible first | exact HB.out | apply below_alloc | apply pw_below_drewN | apply below_drew1) | exact HB.out)) hb); clear HB; have HB := n0_; clear n0_ hb hg; have BK := Aside0.mk hbox; have hcz0 : w8.cell? ⟨gr, 0, none⟩ = some (.int .i64 0) := (blk_cell BK.out 0).trans rfl; have hcz1 : w8.cell? ⟨gr, 1, none⟩ = some (.int .i64 0) := (blk_cell BK.out 1).trans rfl; have hcz2 : w8.cell? ⟨gr, 2, none⟩ = some (.int .i64 0) := (blk_cell BK.out 2).trans rfl; have hfz0 := blk_frozen BK.out 0; have hfz1 := blk_frozen BK.out 1; have hfz2 := blk_frozen BK.out 2; clear hbox)
                    | ((with_reducible refine gate_callee (f := 61) rfl ?_); refine goesL_ _ rfl rfl Tryd.func61 (by kernel_rfl) rfl #[.agg #[.int .i64 ((rd_T75 l0 x).f0), .int .i64 ((rd_T75 l0 x).f1), .int .i64 ((rd_T75 l0 x).f2)]] rfl (by (try simp only [List.map_toArray, List.map_cons, List.map_nil]); first | done | rfl) ?_; refine (tape_Line.calls k1 _ _ _ t3 0 _ (Laid.below HLd.out (by repeat (first | (with_reducible first | exact HB.out | apply below_alloc | apply pw_below_drewN | apply below_drew1 | refine below_set ?_ GE.out) | exact HB.out))) A2.out).mono ?_; rintro e w10 ⟨rfl, hb⟩; refine ⟨_, rfl, ?_⟩; have n1_ := Aside0.mk (isb_below BD.out (below_step (w := wr) (by repeat (first | (with_reducible first | exact HX.out | apply below_alloc | apply pw_below_drewN | apply below_drew1 | refine below_set ?_ GR.out) | exact HX.out)) hb)); have n0_ := Aside0.mk (below_step (by repeat (first | (with_reducible first | exact HB.out | apply below_alloc | apply pw_below_drewN | apply below_drew1 | refine below_set ?_ GE.out) | exact HB.out)) hb); clear HB BD; have HB := n0_; have BD := n1_; clear n0_ n1_ hb)
                    | ((with_reducible refine gate_callee (f := 98) rfl ?_); refine goesL_ _ rfl rfl Tryd.func98 (by kernel_rfl) rfl #[.pointer (some ⟨gb, 0, none⟩), .string (t3 ++ (⟨#[10]⟩ : ByteArray))] rfl (by (try simp only [List.map_toArray, List.map_cons, List.map_nil]); first | done | rfl) ?_; refine (writeString w.heap.size gb (Lib.byteCells acc) (t3 ++ (⟨#[10]⟩ : ByteArray)) _ BD.out (by have h5 := c5a.out; have h6 := c6a.out; simp only [Lib.byteCells, List.length_map, ByteArray.size_append, show (⟨#[10]⟩ : ByteArray).size = 1 from rfl]; omega) (below_size (by repeat (first | (with_reducible first | exact HB.out | apply below_alloc | apply pw_below_drewN | apply below_drew1) | exact HB.out)))).mono ?_; rintro e w11 ⟨rfl, hbd, hb⟩; refine ⟨_, rfl, ?_⟩; have n1_ := Aside0.mk (isb_write hbd); have n0_ := Aside0.mk ((show Below w.heap.size w _ from (by repeat (first | (with_reducible first | exact HB.out | apply below_alloc | apply pw_below_drewN | apply below_drew1) | exact HB.out))).trans hb); clear HB BD; have HB := n0_; have BD := n1_; clear n0_ n1_ hb hbd))
                  go_roundg k1
                  case measure => have := HK1.out; omega
                  case rel => exact ⟨wrap64 (x + 1), _, rfl, H', ⟨by have := HK1.out; omega⟩, BD, ⟨(by repeat (first | (with_reducible first | exact HB.out | apply below_alloc | apply pw_below_drewN | apply below_drew1) | exact HB.out))⟩⟩
                · rw [if_neg c6] at H
                  exact absurd H (by simp)
              · rw [if_neg c5] at H
                exact absurd H (by simp)
            · rw [if_neg c4] at H
              simp only [Option.some.injEq, Prod.mk.injEq] at H
              obtain ⟨rfl, rfl⟩ := H
              have c4b0 : (t4 == 0) = false := beq_eq_false_iff_ne.mpr c4
              have c4b1 : (t4 != 0) = true := bne_iff_ne.mpr c4
              go_wp2_with (first
                    | ((with_reducible refine gate_dst (N := 8) rfl ?_); refine box_event ?hg (N := 8) ?hd (cs := #[.int .i64 0, .int .i64 0, .int .i64 0]) (t := 75) ?hr ?_; (case hd => rfl); (case hg => rfl); (case hr => first | (go_simp; done) | (go_simp; rfl)); intro gr hg w8 hbox hb; have GE := Aside0.mk ((by rw [hg]; exact (below_size (by repeat (first | (with_reducible first | exact HB.out | apply below_alloc | apply pw_below_drewN | apply below_drew1) | exact HB.out)))) : w.heap.size ≤ gr); have GR := Aside0.mk (show wr.heap.size ≤ gr by rw [hg]; exact Nat.le_refl _); have HX := Aside0.mk (show Below wr.heap.size wr w8 from below_step (by repeat (first | exact Below.refl _ _ | apply below_alloc | apply pw_below_drewN | apply below_drew1)) hb); have n0_ := Aside0.mk (below_step (by repeat (first | (with_reducible first | exact HB.out | apply below_alloc | apply pw_below_drewN | apply below_drew1) | exact HB.out)) hb); clear HB; have HB := n0_; clear n0_ hb hg; have BK := Aside0.mk hbox; have hcz0 : w8.cell? ⟨gr, 0, none⟩ = some (.int .i64 0) := (blk_cell BK.out 0).trans rfl; have hcz1 : w8.cell? ⟨gr, 1, none⟩ = some (.int .i64 0) := (blk_cell BK.out 1).trans rfl; have hcz2 : w8.cell? ⟨gr, 2, none⟩ = some (.int .i64 0) := (blk_cell BK.out 2).trans rfl; have hfz0 := blk_frozen BK.out 0; have hfz1 := blk_frozen BK.out 1; have hfz2 := blk_frozen BK.out 2; clear hbox)
                    | ((with_reducible refine gate_callee (f := 61) rfl ?_); refine goesL_ _ rfl rfl Tryd.func61 (by kernel_rfl) rfl #[.agg #[.int .i64 ((rd_T75 l0 x).f0), .int .i64 ((rd_T75 l0 x).f1), .int .i64 ((rd_T75 l0 x).f2)]] rfl (by (try simp only [List.map_toArray, List.map_cons, List.map_nil]); first | done | rfl) ?_; refine (tape_Line.calls k1 _ _ _ t3 t4 _ (Laid.below HLd.out (by repeat (first | (with_reducible first | exact HB.out | apply below_alloc | apply pw_below_drewN | apply below_drew1 | refine below_set ?_ GE.out) | exact HB.out))) A2.out).mono ?_; rintro e w10 ⟨rfl, hb⟩; refine ⟨_, rfl, ?_⟩; have n1_ := Aside0.mk (isb_below BD.out (below_step (w := wr) (by repeat (first | (with_reducible first | exact HX.out | apply below_alloc | apply pw_below_drewN | apply below_drew1 | refine below_set ?_ GR.out) | exact HX.out)) hb)); have n0_ := Aside0.mk (below_step (by repeat (first | (with_reducible first | exact HB.out | apply below_alloc | apply pw_below_drewN | apply below_drew1 | refine below_set ?_ GE.out) | exact HB.out)) hb); clear HB BD; have HB := n0_; have BD := n1_; clear n0_ n1_ hb))
              go_ret2
              exact ⟨rfl, (by repeat (first | (with_reducible first | exact HB.out | apply below_alloc | apply pw_below_drewN | apply below_drew1) | exact HB.out))⟩
          · rw [if_neg c3] at H
            exact absurd H (by simp)
        · rw [if_neg c2] at H
          have c2b0 : decide (x < (l0.length : Int)) = false := decide_eq_false c2
          simp only [Option.some.injEq, Prod.mk.injEq] at H
          obtain ⟨rfl, rfl⟩ := H
          go_wp2_with (first
            | ((with_reducible refine gate_callee (f := 99) rfl ?_); refine goesL_ _ rfl rfl Tryd.func99 (by kernel_rfl) rfl #[.pointer (some ⟨gb, 0, none⟩)] rfl (by (try simp only [List.map_toArray, List.map_cons, List.map_nil]); first | done | rfl) ?_; refine (stringAny w.heap.size gb acc _ BD.out (below_size (by repeat (first | (with_reducible first | exact HB.out | apply below_alloc | apply pw_below_drewN | apply below_drew1) | exact HB.out)))).mono ?_; rintro e w11 ⟨rfl, hb⟩; refine ⟨_, rfl, ?_⟩; have n0_ := Aside0.mk ((show Below w.heap.size w _ from (by repeat (first | (with_reducible first | exact HB.out | apply below_alloc | apply pw_below_drewN | apply below_drew1) | exact HB.out))).trans hb); clear HB; have HB := n0_; clear n0_ hb))
          go_ret2
          exact ⟨rfl, (by repeat (first | (with_reducible first | exact HB.out | apply below_alloc | apply pw_below_drewN | apply below_drew1) | exact HB.out))⟩
  · replace H : some ((⟨#[]⟩ : ByteArray), t2) = some (r1, r2) := by simpa [c1] using H
    simp only [Option.some.injEq, Prod.mk.injEq] at H
    obtain ⟨rfl, rfl⟩ := H
    have c1b0 : (t2 == 0) = false := beq_eq_false_iff_ne.mpr c1
    have c1b1 : (t2 != 0) = true := bne_iff_ne.mpr c1
    go_enter Tryd.func65, Tryd.ntmps65
    go_wp2_with (first
      | ((with_reducible refine gate_callee (f := 93) rfl ?_); refine goesL_ _ rfl rfl Tryd.func93 (by kernel_rfl) rfl #[.slice A0 l0.length c0] rfl (by (try simp only [List.map_toArray, List.map_cons, List.map_nil]); first | done | rfl) ?_; refine (record_Check.calls k A0 c0 l0 t1 t2 _ (Kd.C_below HR0.out HB.out) HC0.out A1.out).mono ?_; rintro e w1 ⟨rfl, hb⟩; refine ⟨_, rfl, ?_⟩; have n0_ := Aside0.mk (below_step HB.out hb); clear HB; have HB := n0_; clear n0_ hb))
    go_ret2
    exact ⟨rfl, (by repeat (first | (with_reducible first | exact HB.out | apply below_alloc | apply pw_below_drewN | apply below_drew1) | exact HB.out))⟩
end Go.Proofs.YtaaiamfolbcchaaDoor.Ext

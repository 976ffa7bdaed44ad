/- What a function that only reads leaves, said exactly: draws, and blocks laid behind. -/
import Derived.Test.YtaaiamfolbcchaaDoorV
import Derived.Sort.Grow
namespace Go.Proofs.YtaaiamfolbcchaaDoor.Ext
set_option linter.unusedVariables false
set_option linter.unusedSimpArgs false
open Go.RowKit Go.Proofs.YtaaiamfolbcchaaDoorW.PrintWords Go.Proofs.YtaaiamfolbcchaaDoorW.PrintLast
def Gr (w w' : World) : Prop := ∃ q os, w' = Go.Sort.grow (w.drewN q) os
theorem Gr.refl (w : World) : Gr w w := ⟨0, #[], by simp [Go.Sort.grow]; rfl⟩
theorem gr_drewN {w W : World} (h : Gr w W) (n : Nat) : Gr w (W.drewN n) := by
  obtain ⟨q, os, rfl⟩ := h
  exact ⟨q + n, os, by show Go.Sort.grow ((w.drewN q).drewN n) os = _; rw [World.drewN_drewN]⟩
theorem gr_drew1 {w W : World} (h : Gr w W) : Gr w W.drew := gr_drewN h 1
theorem gr_alloc {w W : World} (h : Gr w W) (o : Obj) : Gr w (W.alloc o) := by
  obtain ⟨q, os, rfl⟩ := h
  exact ⟨q, os ++ #[o], by rw [Go.Sort.alloc_eq_grow, Go.Sort.grow_grow]⟩
theorem gr_step {w W w2 : World} (h : Gr w W) (k : Gr W w2) : Gr w w2 := by
  obtain ⟨q, os, rfl⟩ := h
  obtain ⟨q', os', rfl⟩ := k
  exact ⟨q + q', os ++ os', by show Go.Sort.grow (Go.Sort.grow ((w.drewN q).drewN q') os) os' = _; rw [World.drewN_drewN, Go.Sort.grow_grow]⟩
theorem Gr.below {w W : World} (h : Gr w W) : Below w.heap.size w W := by
  obtain ⟨q, os, rfl⟩ := h
  exact ⟨rfl, rfl, rfl, by simp [Go.Sort.grow, World.drewN], fun k hk => by
    show (w.heap ++ os)[k]? = _
    rw [Array.getElem?_append_left hk]⟩
theorem gr_size {w W : World} (h : Gr w W) : w.heap.size ≤ W.heap.size := h.below.size
theorem gr_of {W w1 : World} {o : Obj} (e : w1 = W.alloc o) : Gr W w1 := e ▸ gr_alloc (Gr.refl W) o
section
variable {P : Program} {ops : Array Oper} {rest : List Oper} {o : Oper} {a : Act} {Q : Exit → Act → World → Prop} {Kc : Act → World → Prop} {α : Type}
theorem box_eventG {W : World} (hgd : o.guard = none) {N : Tmp} (_hd : o.dst = some N) {cs : Array Value} {t : TypeId}
    (hrun : (execOp a.eval o).run P W = .ok (.value (.pointer (some ⟨W.heap.size, 0, none⟩))) (W.alloc (.cells cs t (0, 0))))
    (h : ∀ g, g = W.heap.size → ∀ w1, w1.heap[g]? = some (.cells cs t (0, 0)) → Gr W w1 → wpList P ops Q rest (a.put o.dst (.pointer (some ⟨g, 0, none⟩))) w1) : wpList P ops Q (o :: rest) a W :=
  Kd.event_run hgd hrun (h _ rfl _ (blk_new W _) (gr_alloc (Gr.refl _) _))
theorem R_lit_stepG (d : Kd α) {w0 W : World} (base e : Nat) (hw : Region.wanted o (yielded ops a.tmps) = true) {N : Tmp} (hd : o.dst = some N) {xs : List α} {inner : List Value} {ok okp : Nat → Prop}
    (hrun : (execOp a.eval o).run P W = .ok (.value (.slice (some ⟨W.heap.size, 0, none⟩) xs.length xs.length)) (W.alloc (.cells inner.toArray e)))
    (hrep : Reps (d.M W base okp) d.sz xs inner) (hok : ∀ k, okp k → ok k) (hfresh : ok W.heap.size) (HB : Below base w0 W) (hbase : base ≤ W.heap.size) (hm : xs.length ≤ 9223372036854775807)
    (h : ∀ v1 w1, w1 = W.alloc (.cells inner.toArray e) → d.R e w1 base ok v1 xs → Below base w0 w1 → W.grownBy w1 none → (∃ b, v1.ownBlock = some b ∧ W.heap.size ≤ b) → Kc (a.put o.dst v1) w1) : if Region.wanted o (yielded ops a.tmps) = true then Oper.wp P o a W Kc Q else Kc (a.put o.dst undef) W := by
  have key : ∀ v1 w1, d.R e w1 base ok v1 xs → Below base w0 w1 → W.grownBy w1 none → (∃ b, v1.ownBlock = some b ∧ W.heap.size ≤ b) → (fun (a' : Act) (w' : World) => w' = W.alloc (.cells inner.toArray e) → Kc a' w') (a.put o.dst v1) w1 := fun v1 w1 a1 a2 a3 a4 e1 => h v1 w1 e1 a1 a2 a3 a4
  have := Kd.R_lit_step (P := P) (ops := ops) (Q := Q) (Kc := fun (a' : Act) (w' : World) => w' = W.alloc (.cells inner.toArray e) → Kc a' w') d (w0 := w0) (W := W) base e hw hd hrun hrep hok hfresh HB hbase hm key
  rw [if_pos hw] at this ⊢
  unfold Oper.wp at this ⊢
  rw [hrun] at this ⊢
  exact this rfl
end
end Go.Proofs.YtaaiamfolbcchaaDoor.Ext

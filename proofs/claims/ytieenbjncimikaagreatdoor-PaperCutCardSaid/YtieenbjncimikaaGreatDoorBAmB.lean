/- The abstract machine's operations do what the model's do. No condition. -/
import Derived.Test.YtieenbjncimikaaGreatDoorBAmA
import Derived.Laws.BytesString
set_option linter.all false
namespace Go.AM
section
variable {c : Cx} {N : Nat} {S : Snap} {β : Nat → Option Nat} {σ : Sg} {W : World} {st : St} {a : Act}

theorem unV_run {op : UnOp} {v r : V} {x : Value} (h : unV op v = some r) (hx : VRel σ W v x) (w : World) : ∃ z, (Op.unary op x).run c.P w = .ok z w ∧ VRel σ W r z := by
  unfold unV at h
  split at h
  · obtain ⟨rfl, _⟩ := VRel.s_iff.1 hx
    cases op <;> simp at h
    subst h
    exact ⟨_, rfl, VRel.s_iff.2 ⟨rfl, rfl⟩⟩
  · obtain ⟨rfl, _⟩ := VRel.s_iff.1 hx
    cases op <;> simp only [] at h
    · cases h; exact ⟨_, rfl, VRel.s_iff.2 ⟨rfl, rfl⟩⟩
    · cases h; exact ⟨_, rfl, VRel.s_iff.2 ⟨by simp [BitVec.xor_comm], rfl⟩⟩
    · cases h
    · cases h
  · cases h

theorem add_mk (b o n : Nat) : (⟨b, o, none⟩ : Addr).add n = ⟨b, o + n, none⟩ := by unfold Addr.add; split <;> simp_all

theorem fieldOff_spec {t : TypeId} {f o : Nat} {ft : TypeId} (h : fieldOff c.P t f = some (o, ft)) : ∃ fs x, c.P.underlying t = some (.struct fs) ∧ fs[f]? = some x ∧ x.offset = o ∧ x.type = ft := by
  unfold fieldOff at h
  split at h
  · rename_i fs hu
    obtain ⟨x, hx, he⟩ := Option.map_eq_some_iff.1 h
    cases he
    exact ⟨fs, x, hu, hx, rfl, rfl⟩
  · cases h

theorem fieldAddrV_run {t : TypeId} {i : Nat} {e e' : Ent} {y : Value} (h : fieldAddrV c t i e = some e') (he : ER β σ W e y) (w : World) :
    ∃ z, (Instr.fieldAt t y i).run c.P w = .ok z w ∧ ER β σ W e' z := by
  unfold fieldAddrV at h
  simp only [Option.bind_eq_bind] at h
  have h9 := Option.bind_eq_some_iff.1 h; clear h; obtain ⟨⟨o, ft⟩, ho, h⟩ := h9
  have h9 := Option.bind_eq_some_iff.1 h; clear h; obtain ⟨n, hn, h⟩ := h9
  obtain ⟨fs, x, hu, hx, rfl, rfl⟩ := fieldOff_spec ho
  split at h
  · cases h
  · rename_i hn0
    have go : ∀ k q, y = .pointer (some ⟨k, q, none⟩) → (Instr.fieldAt t y i).run c.P w = .ok (.pointer (some ⟨k, q + x.offset, none⟩)) w := by
      rintro k q rfl
      simp only [Instr.fieldAt, Sem.run_bind, run_und hu, Result.andThen_ok, hx, Instr.sureAddr, Sem.run_pure, fieldPlace, run_size hn, hn0, if_false, add_mk]
    split at h
    · cases h
      obtain ⟨k, hk, hy⟩ := he
      exact ⟨_, go _ _ hy, k, hk, rfl⟩
    · cases h
      obtain ⟨k, d, hk, hy⟩ := VRel.ptr_iff.1 he
      exact ⟨_, go _ _ hy, VRel.ptr_iff.2 ⟨k, d, hk, by rw [Nat.add_assoc]⟩⟩
    · rename_i cs
      split at h
      · rename_i hl
        cases h
        obtain ⟨k, o, m, hy, h1, h2, h3⟩ := VRel.vptr_iff.1 he
        exact ⟨_, go _ _ hy, VRel.vptr_iff.2 ⟨k, o + x.offset, m, rfl, h1, by simp; simp at hl; omega, h3.drop _⟩⟩
      · cases h
    · cases h

theorem idx_spec {x : V} {n k : Nat} {y : Value} (h : idx x n = some k) (hx : VRel σ W x y) : ∃ kk i, y = .int kk i ∧ 0 ≤ i ∧ i < n ∧ i.toNat = k := by
  unfold idx at h
  split at h
  · obtain ⟨rfl, _⟩ := VRel.s_iff.1 hx
    split at h
    · split at h
      · rename_i h1 h2; cases h; exact ⟨_, _, rfl, h1, h2, rfl⟩
      · cases h
    · cases h
  · cases h

/-- Elements of one width, as cells. -/
theorem flat_len {l : List V} {w : Nat} (h : ∀ e ∈ l, (cellsOf e).length = w) : (l.flatMap cellsOf).length = l.length * w := by
  induction l with
  | nil => simp
  | cons e l ih =>
    simp only [List.flatMap_cons, List.length_append, List.length_cons]
    rw [ih (fun e he => h e (by simp [he])), h e (by simp), Nat.succ_mul]; omega
theorem flat_at {l : List V} {w : Nat} (h : ∀ e ∈ l, (cellsOf e).length = w) {k : Nat} {e : V} (hk : l[k]? = some e) {j : Nat} (hj : j < w) : (l.flatMap cellsOf)[k * w + j]? = (cellsOf e)[j]? := by
  induction l generalizing k with
  | nil => simp at hk
  | cons x l ih =>
    have hx := h x (by simp)
    cases k with
    | zero =>
      simp at hk; subst hk
      simp only [List.flatMap_cons, Nat.zero_mul, Nat.zero_add]
      rw [List.getElem?_append_left (by omega)]
    | succ k =>
      simp only [List.flatMap_cons]
      rw [List.getElem?_append_right (by rw [hx, Nat.succ_mul]; omega), hx, show (k + 1) * w + j - w = k * w + j by rw [Nat.succ_mul]; omega]
      exact ih (fun e he => h e (by simp [he])) (by simpa using hk)

theorem Cl.elem {cc o w : Nat} {l : List V} (hc : Cl (Ck (VRel σ W)) W cc o (l.flatMap cellsOf)) (h : ∀ e ∈ l, (cellsOf e).length = w) {k : Nat} {e : V} (hk : l[k]? = some e) : Cl (Ck (VRel σ W)) W cc (o + k * w) (cellsOf e) := by
  intro j v hv
  have hj : j < w := by rw [← h e (List.mem_of_getElem? hk)]; exact (List.getElem?_eq_some_iff.1 hv).1
  obtain ⟨y, hy, r⟩ := hc (k * w + j) v (by rw [flat_at h hk hj]; exact hv)
  exact ⟨y, by rw [Nat.add_assoc]; exact hy, r⟩

theorem indexAddrV_run {t : TypeId} {e e' : Ent} {i : V} {y yi : Value} (h : indexAddrV c t e i = some e') (he : ER β σ W e y) (hi : VRel σ W i yi) (w : World) :
    ∃ z, (Instr.indexAt t y yi).run c.P w = .ok z w ∧ ER β σ W e' z := by
  unfold indexAddrV at h
  split at h
  · rename_i el _ w' l hu
    simp only [Option.bind_eq_bind] at h
    have h9 := Option.bind_eq_some_iff.1 h; clear h; obtain ⟨k, hk, h⟩ := h9
    have h9 := Option.bind_eq_some_iff.1 h; clear h; obtain ⟨n, hn, h⟩ := h9
    by_cases hlen : w' = n
    case neg => rw [if_pos hlen] at h; cases h
    · rw [if_neg (by simpa using hlen)] at h
      have h9 := Option.bind_eq_some_iff.1 h; clear h; obtain ⟨v, hv, h⟩ := h9
      obtain ⟨kk, ii, rfl, i0, i1, rfl⟩ := idx_spec hk hi
      cases h
      subst hlen
      obtain ⟨base, cap, rfl, n0, n1, c1, c2, c3, c4⟩ := VRel.vsl_iff.1 he
      have hne : l ≠ [] := by rintro rfl; simp at hv
      obtain ⟨cc, o, hh, rfl, d1, d2, d3, d4, d5, d6⟩ := c4 hne
      refine ⟨.pointer (some ⟨cc, o + ii.toNat * w', none⟩), ?_, VRel.vptr_iff.2 ⟨cc, o + ii.toNat * w', hh, rfl, d3, ?_, d5.elem d2 hv⟩⟩
      · simp only [Instr.indexAt, Sem.run_bind, asIntOf, Sem.run_pure, Result.andThen_ok, run_und hu]
        rw [if_pos ⟨i0, i1⟩]
        simp only [Sem.run_bind, run_size hn, Result.andThen_ok, add_mk, Sem.run_pure]
      · have hkl := (List.getElem?_eq_some_iff.1 hv).1
        have : (ii.toNat + 1) * w' ≤ l.length * w' := Nat.mul_le_mul_right _ hkl
        rw [Nat.succ_mul] at this
        have := d2 v (List.mem_of_getElem? hv)
        omega
  · rename_i el b off n w' hu
    simp only [Option.bind_eq_bind] at h
    have h9 := Option.bind_eq_some_iff.1 h; clear h; obtain ⟨k, hk, h⟩ := h9
    have h9 := Option.bind_eq_some_iff.1 h; clear h; obtain ⟨m, hm, h⟩ := h9
    obtain ⟨kk, ii, rfl, i0, i1, rfl⟩ := idx_spec hk hi
    by_cases hlen : w' = m
    case neg => rw [if_pos hlen] at h; cases h
    · rw [if_neg (by simpa using hlen)] at h
      cases h
      obtain ⟨cc, d, cap, hl, rfl, c1, c2, c3, c4⟩ := VRel.msl_iff.1 he
      subst hlen
      refine ⟨.pointer (some ⟨cc, d + off + ii.toNat * w', none⟩), ?_, VRel.ptr_iff.2 ⟨cc, d, hl, by rw [Nat.add_assoc]⟩⟩
      simp only [Instr.indexAt, Sem.run_bind, asIntOf, Sem.run_pure, Result.andThen_ok, run_und hu]
      rw [if_pos ⟨i0, i1⟩]
      simp only [Sem.run_bind, run_size hm, Result.andThen_ok, add_mk, Sem.run_pure]
  · rename_i n el b off hu
    simp only [Option.bind_eq_bind] at h
    have h9 := Option.bind_eq_some_iff.1 h; clear h; obtain ⟨k, hk, h⟩ := h9
    have h9 := Option.bind_eq_some_iff.1 h; clear h; obtain ⟨m, hm, h⟩ := h9
    obtain ⟨kk, ii, rfl, i0, i1, rfl⟩ := idx_spec hk hi
    cases h
    obtain ⟨cc, hl, rfl⟩ := he
    refine ⟨.pointer (some ⟨cc, off + ii.toNat * m, none⟩), ?_, cc, hl, rfl⟩
    simp only [Instr.indexAt, Sem.run_bind, asIntOf, Sem.run_pure, Result.andThen_ok, run_und hu, Instr.sureAddr]
    rw [if_pos ⟨i0, i1⟩]
    simp only [Sem.run_bind, run_size hm, Result.andThen_ok, add_mk, Sem.run_pure]
  · rename_i n el b off hu
    simp only [Option.bind_eq_bind] at h
    have h9 := Option.bind_eq_some_iff.1 h; clear h; obtain ⟨k, hk, h⟩ := h9
    have h9 := Option.bind_eq_some_iff.1 h; clear h; obtain ⟨m, hm, h⟩ := h9
    obtain ⟨kk, ii, rfl, i0, i1, rfl⟩ := idx_spec hk hi
    cases h
    obtain ⟨cc, d, hl, rfl⟩ := VRel.ptr_iff.1 he
    refine ⟨.pointer (some ⟨cc, d + off + ii.toNat * m, none⟩), ?_, VRel.ptr_iff.2 ⟨cc, d, hl, by rw [Nat.add_assoc]⟩⟩
    simp only [Instr.indexAt, Sem.run_bind, asIntOf, Sem.run_pure, Result.andThen_ok, run_und hu, Instr.sureAddr]
    rw [if_pos ⟨i0, i1⟩]
    simp only [Sem.run_bind, run_size hm, Result.andThen_ok, add_mk, Sem.run_pure]
  · rename_i n el cs hu
    simp only [Option.bind_eq_bind] at h
    have h9 := Option.bind_eq_some_iff.1 h; clear h; obtain ⟨k, hk, h⟩ := h9
    have h9 := Option.bind_eq_some_iff.1 h; clear h; obtain ⟨m, hm, h⟩ := h9
    obtain ⟨kk, ii, rfl, i0, i1, rfl⟩ := idx_spec hk hi
    split at h
    · rename_i hle
      cases h
      obtain ⟨cc, o, hh, rfl, d1, d2, d3⟩ := VRel.vptr_iff.1 he
      refine ⟨.pointer (some ⟨cc, o + ii.toNat * m, none⟩), ?_, VRel.vptr_iff.2 ⟨cc, o + ii.toNat * m, hh, rfl, d1, by simp; omega, d3.drop _⟩⟩
      simp only [Instr.indexAt, Sem.run_bind, asIntOf, Sem.run_pure, Result.andThen_ok, run_und hu, Instr.sureAddr]
      rw [if_pos ⟨i0, i1⟩]
      simp only [Sem.run_bind, run_size hm, Result.andThen_ok, add_mk, Sem.run_pure]
    · cases h
  · cases h

theorem fieldV_run {t : TypeId} {i : Nat} {v r : V} {x : Value} (h : fieldV c t i v = some r) (hx : VRel σ W v x) (w : World) : ∃ z, (Instr.field t x i).run c.P w = .ok z w ∧ VRel σ W r z := by
  unfold fieldV at h
  split at h
  · rename_i cs
    obtain ⟨xs, rfl, hl⟩ := VRel.agg_iff.1 hx
    simp only [Option.bind_eq_bind] at h
    have h9 := Option.bind_eq_some_iff.1 h; clear h; obtain ⟨⟨o, ft⟩, ho, h⟩ := h9
    obtain ⟨fs, f, hu, hf, rfl, rfl⟩ := fieldOff_spec ho
    obtain ⟨z, hz, hv⟩ := part_run (P := c.P) (f := f) hl h w
    exact ⟨z, by simp only [Instr.field, Sem.run_bind, run_und hu, Result.andThen_ok, hf, asAgg, Sem.run_pure, hz], hv⟩
  · cases h

theorem indexV_run {t : TypeId} {v i r : V} {x yi : Value} (h : indexV c t v i = some r) (hx : VRel σ W v x) (hi : VRel σ W i yi) (w : World) : ∃ z, (Instr.index t x yi).run c.P w = .ok z w ∧ VRel σ W r z := by
  unfold indexV at h
  split at h
  · rename_i s hu
    obtain ⟨rfl, _⟩ := VRel.s_iff.1 hx
    simp only [Option.bind_eq_bind] at h
    have h9 := Option.bind_eq_some_iff.1 h; clear h; obtain ⟨k, hk, h⟩ := h9
    obtain ⟨kk, ii, rfl, i0, i1, rfl⟩ := idx_spec hk hi
    obtain ⟨b, hb, rfl⟩ := Option.map_eq_some_iff.1 h
    refine ⟨.int .u8 b.toNat, ?_, VRel.s_iff.2 ⟨rfl, rfl⟩⟩
    simp only [Instr.index, Sem.run_bind, asIntOf, Sem.run_pure, Result.andThen_ok, run_und hu]
    simp only [if_pos i0, hb, Sem.run_pure]
  · rename_i n el cs hu
    obtain ⟨xs, rfl, hl⟩ := VRel.agg_iff.1 hx
    simp only [Option.bind_eq_bind] at h
    have h9 := Option.bind_eq_some_iff.1 h; clear h; obtain ⟨k, hk, h⟩ := h9
    have h9 := Option.bind_eq_some_iff.1 h; clear h; obtain ⟨m, hm, h⟩ := h9
    obtain ⟨kk, ii, rfl, i0, i1, rfl⟩ := idx_spec hk hi
    obtain ⟨z, hz, hv⟩ := part_run (P := c.P) (f := { name := "", type := el, offset := ii.toNat * m, embedded := false, tag := "", pkgPath := "", byteOffset := 0 }) (v := r) hl (by simpa [fieldW, hm] using h) w
    refine ⟨z, ?_, hv⟩
    simp only [Instr.index, Sem.run_bind, asIntOf, Sem.run_pure, Result.andThen_ok, run_und hu]
    rw [if_pos ⟨i0, i1⟩]
    simp only [Sem.run_bind, run_size hm, Result.andThen_ok]
    exact hz
  · cases h
end
end Go.AM
namespace Go.AM
section
variable {c : Cx} {N : Nat} {S : Snap} {β : Nat → Option Nat} {σ : Sg} {W : World} {st : St} {a : Act}

theorem L2.get {R : V → Value → Prop} {l : List V} {m : List Value} (h : L2 R l m) {i : Nat} {v : V} (hv : l[i]? = some v) : ∃ y, m[i]? = some y ∧ R v y := by
  have hlt : i < m.length := h.1 ▸ (List.getElem?_eq_some_iff.1 hv).1
  exact ⟨m[i], List.getElem?_eq_getElem hlt, h.2 i v _ hv (List.getElem?_eq_getElem hlt)⟩

theorem wr_spec {cs cs' xs : List V} {off : Nat} (h : wr cs off xs = some cs') : off + xs.length ≤ cs.length ∧ cs'.length = cs.length ∧
    (∀ i, i < xs.length → cs'[off + i]? = xs[i]?) ∧ (∀ i, i < off → cs'[i]? = cs[i]?) ∧ (∀ i, off + xs.length ≤ i → cs'[i]? = cs[i]?) := by
  unfold wr at h
  split at h
  · rename_i hl
    cases h
    refine ⟨hl, ?_⟩
    split
    · rename_i x
      simp only [List.length_cons, List.length_nil] at hl ⊢
      refine ⟨by simp, fun i hi => ?_, fun i hi => List.getElem?_set_ne (by omega), fun i hi => List.getElem?_set_ne (by omega)⟩
      have : i = 0 := by omega
      subst this
      simp [List.getElem?_set_self (show off < cs.length by omega)]
    · refine ⟨by simp; omega, fun i hi => ?_, fun i hi => ?_, fun i hi => ?_⟩
      · rw [List.append_assoc, List.getElem?_append_right (by simp; omega), List.length_take, show off + i - min off cs.length = i by omega, List.getElem?_append_left hi]
      · rw [List.append_assoc, List.getElem?_append_left (by simp; omega), List.getElem?_take_of_lt hi]
      · rw [List.append_assoc, List.getElem?_append_right (by simp; omega), List.length_take, List.getElem?_append_right (by omega), List.getElem?_drop]
        congr 1; omega
  · cases h

theorem putA_rel {R : V → Value → Prop} {cs cs' xs : List V} {off : Nat} {arr : Array Value} {ys : List Value} (h : wr cs off xs = some cs') (hc : L2 R cs arr.toList) (hx : L2 R xs ys) :
    L2 R cs' (putA arr off ys).toList := by
  obtain ⟨h0, h1, h2, h3, h4⟩ := wr_spec h
  have hsz : off + ys.length ≤ arr.size := by have := hc.1; simp at this; rw [← hx.1]; omega
  refine ⟨by rw [h1, hc.1]; simpa using (putA_size hsz).symm, fun i v y hv hy => ?_⟩
  have hy' : (putA arr off ys)[i]? = some y := by simpa using hy
  by_cases c1 : i < off
  · rw [h3 i c1] at hv; rw [putA_lo hsz c1] at hy'; exact hc.2 i v y hv (by simpa using hy')
  · by_cases c2 : i < off + ys.length
    · obtain ⟨k, rfl⟩ : ∃ k, i = off + k := ⟨i - off, by omega⟩
      rw [h2 k (by rw [hx.1]; omega)] at hv
      rw [putA_in hsz (by omega)] at hy'
      exact hx.2 k v y hv hy'
    · rw [h4 i (by rw [hx.1]; omega)] at hv; rw [putA_hi hsz (by omega)] at hy'; exact hc.2 i v y hv (by simpa using hy')

theorem foldl_put (off : Nat) : ∀ (vs : List Value) (k : Nat) (cells : Array Value), off + k + vs.length ≤ cells.size →
    (vs.zipIdx k).foldl (fun cs (p : Value × Nat) => cs.setIfInBounds (off + p.2) p.1) cells = putA cells (off + k) vs
  | [], k, cells, _ => by simp [putA]
  | v :: vs, k, cells, h => by
    simp only [List.zipIdx_cons, List.foldl_cons]
    rw [foldl_put off vs (k + 1) _ (by simp at h ⊢; omega)]
    rw [show off + (k + 1) = off + k + 1 by omega]
    exact putA_cons (by simp at h; omega)

theorem fill_rel {place : Nat → Option (Nat × Nat)} : ∀ (parts : List (Nat × V)) (parts' : List (Nat × Value)) (cs cs' : List V) (arr : Array Value), fillV place cs parts = some cs' → L2 (Ck (VRel σ W)) cs arr.toList →
    parts.length = parts'.length → (∀ (i : Nat) p q, parts[i]? = some p → parts'[i]? = some q → p.1 = q.1 ∧ VRel σ W p.2 q.2 ∧ p.2 ≠ .undef) →
    ∃ arr', Instr.fill place arr parts' = some arr' ∧ L2 (Ck (VRel σ W)) cs' arr'.toList
  | [], parts', cs, cs', arr, h, hc, hl, hp => by
    obtain rfl : parts' = [] := by cases parts' with | nil => rfl | cons _ _ => simp at hl
    cases h; exact ⟨arr, rfl, hc⟩
  | (i, v) :: parts, parts', cs, cs', arr, h, hc, hl, hp => by
    cases parts' with
    | nil => simp at hl
    | cons q parts' =>
    obtain ⟨i', v'⟩ := q
    obtain ⟨e, hv, hu⟩ := hp 0 _ _ rfl rfl
    simp only at e hv hu
    subst e
    simp only [fillV, Option.bind_eq_bind] at h
    have h9 := Option.bind_eq_some_iff.1 h; clear h; obtain ⟨⟨off, size⟩, hpl, h⟩ := h9
    simp only at h
    by_cases hs : (cellsOf v).length = size ∧ okv v = true
    case neg => rw [if_pos (by by_cases e : (cellsOf v).length = size <;> simp_all)] at h; cases h
    rw [if_neg (by simp [hs.1, hs.2])] at h
    have hcv := cells_rel hv hs.2
    have hs := hs.1
    have h9 := Option.bind_eq_some_iff.1 h; clear h; obtain ⟨cs1, hw, h⟩ := h9
    have hsz : v'.cells.size = size := by have := hcv.1; simp at this; omega
    have hwb := (wr_spec hw).1
    have hle : off + v'.cells.size ≤ arr.size := by have := hc.1; simp at this; omega
    have e1 := putA_rel hw hc hcv
    obtain ⟨arr', ha, hr⟩ := fill_rel parts parts' cs1 cs' (putA arr off v'.cells.toList) h e1 (by simpa using hl) (fun j p q hp' hq' => hp (j + 1) p q (by simpa using hp') (by simpa using hq'))
    refine ⟨arr', ?_, hr⟩
    have ef := foldl_put off v'.cells.toList 0 arr (by simpa using hle)
    rw [Nat.add_zero] at ef
    simp only [Instr.fill, hpl]
    rw [if_neg (by simp [hsz]; rw [hsz] at hle; omega)]
    rw [← Array.foldl_toList]
    rw [Array.toList_zipIdx]
    rw [ef]
    exact ha

theorem evalP_rel (R : Rl c N S β σ W st a.tmps) : ∀ {os : List (Nat × Operand)} {ps : List (Nat × V)}, evalP c st os = some ps →
    ps.length = os.length ∧ ∀ (i : Nat) p q, ps[i]? = some p → (os.map fun (j, x) => (j, a.eval x))[i]? = some q → p.1 = q.1 ∧ VRel σ W p.2 q.2 ∧ p.2 ≠ .undef
  | [], ps, h => by simp [evalP] at h; subst h; simp
  | (k, o) :: os, ps, h => by
    simp only [evalP, Option.bind_eq_bind] at h
    obtain ⟨v, hv, h⟩ := Option.bind_eq_some_iff.1 h
    obtain ⟨l, hl, h⟩ := Option.bind_eq_some_iff.1 h
    cases h
    obtain ⟨ih1, ih2⟩ := evalP_rel R hl
    refine ⟨by simp [ih1], fun i p q hp hq => ?_⟩
    cases i with
    | zero => simp at hp hq; subst hp; subst hq; exact ⟨rfl, evalV_rel R hv⟩
    | succ i => exact ih2 i p q (by simpa using hp) (by simpa using hq)

theorem run_zero {t : TypeId} {z : V} (h : zeroOf c.P t = some z) (w : World) : ∃ z', (zeroValue t).run c.P w = .ok z' w ∧ VRel σ W z z' ∧ okv z = true := by
  unfold zeroOf at h
  simp only [Option.bind_eq_bind] at h
  obtain ⟨v, hv, h⟩ := Option.bind_eq_some_iff.1 h
  obtain ⟨i, hi, hz⟩ := Option.bind_eq_some_iff.1 hv
  split at h
  · cases h
  · rename_i hu
    cases h
    refine ⟨v, by simp [zeroValue, run_info hi, hz], VRel.ofValue v, ?_⟩
    unfold AM.ofValue at hu ⊢
    split
    · rename_i cs
      by_cases h1 : cs.toList.all one = true
      · rw [if_pos h1]; rfl
      · simp [h1, V.isU] at hu
    · by_cases h1 : one v = true
      · rw [if_pos h1]; unfold oneV; split <;> rfl
      · simp [h1, V.isU] at hu

theorem places_run {w : World} : ∀ {fs : List Field} {ps : List (Nat × Nat)}, placesV c.P fs = some ps → (fs.mapM (fun f => (do pure (f.offset, ← sizeOf f.type) : Sem (Nat × Nat)))).run c.P w = .ok ps w
  | [], ps, h => by simp [placesV] at h; subst h; rfl
  | f :: fs, ps, h => by
    simp only [placesV, Option.bind_eq_bind] at h
    obtain ⟨n, hn, h⟩ := Option.bind_eq_some_iff.1 h
    obtain ⟨r, hr, h⟩ := Option.bind_eq_some_iff.1 h
    cases h
    simp only [List.mapM_cons, Sem.run_bind, run_size hn, Result.andThen_ok, Sem.run_pure, places_run hr]

theorem map_pairs (ps : Array (Nat × Operand)) (ρ : Operand → Value) : (ps.map fun (i, x) => (i, ρ x)).toList = ps.toList.map fun (i, x) => (i, ρ x) := by simp

theorem buildV_run (R : Rl c N S β σ W st a.tmps) {t : TypeId} {ps : Array (Nat × Operand)} {pv : List (Nat × V)} {v : V} (hp : evalP c st ps.toList = some pv) (h : buildV c t pv = some v) :
    ∃ z, (Instr.build t (ps.map fun (i, x) => (i, a.eval x))).run c.P W = .ok z W ∧ VRel σ W v z := by
  unfold buildV at h
  simp only [Option.bind_eq_bind] at h
  have h9 := Option.bind_eq_some_iff.1 h; clear h; obtain ⟨z, hz, h⟩ := h9
  obtain ⟨z', rz, vz, uz⟩ := run_zero (σ := σ) (W := W) hz W
  have cz := cells_rel vz uz
  obtain ⟨e1, e2⟩ := evalP_rel R hp
  cases hu : c.P.underlying t with
  | none => simp [hu] at h
  | some u =>
  simp only [hu] at h
  split at h
  · rename_i fs he
    cases he
    have h9 := Option.bind_eq_some_iff.1 h; clear h; obtain ⟨pl, hpl, h⟩ := h9
    obtain ⟨cs, hf, rfl⟩ := Option.map_eq_some_iff.1 h
    obtain ⟨arr, ha, hr⟩ := fill_rel pv (ps.toList.map fun (i, x) => (i, a.eval x)) _ _ z'.cells hf cz (by simp [e1]) e2
    refine ⟨.agg arr, ?_, VRel.agg_iff.2 ⟨arr, rfl, hr⟩⟩
    simp only [Instr.build, Sem.run_bind, rz, Result.andThen_ok, run_und hu, Array.mapM_eq_mapM_toList, Sem.run_map, places_run hpl, map_pairs]
    have : (fun x => (pl.toArray : Array (Nat × Nat))[x]?) = fun (i : Nat) => pl[i]? := by funext i; simp
    rw [this, ha]
    rfl
  · rename_i n e he
    cases he
    have h9 := Option.bind_eq_some_iff.1 h; clear h; obtain ⟨w, hw, h⟩ := h9
    obtain ⟨cs, hf, rfl⟩ := Option.map_eq_some_iff.1 h
    obtain ⟨arr, ha, hr⟩ := fill_rel pv (ps.toList.map fun (i, x) => (i, a.eval x)) _ _ z'.cells hf cz (by simp [e1]) e2
    refine ⟨.agg arr, ?_, VRel.agg_iff.2 ⟨arr, rfl, hr⟩⟩
    simp only [Instr.build, Sem.run_bind, rz, Result.andThen_ok, run_und hu, run_size hw, map_pairs, ha]
    rfl
  · cases h
end
end Go.AM
namespace Go.AM
section
variable {c : Cx} {N : Nat} {S : Snap} {β : Nat → Option Nat} {σ : Sg} {W : World} {st : St} {a : Act}

/-- A new row of cells that nobody writes to any more, but perhaps behind its first ones: a slice. -/
theorem new_row (I : Inv σ st.h W) (l : List V) (w : Nat) (arr : Array Value) (e : TypeId) (hw : 0 < w) (hl : ∀ x ∈ l, (cellsOf x).length = w) (hn : l.length * w ≤ arr.size)
    (hc : ∀ (i : Nat) v, (l.flatMap cellsOf)[i]? = some v → ∃ y, arr[i]? = some y ∧ Ck (VRel σ W) v y) (tk : Bool) (cap : Nat) (hcap : l.length ≤ cap) (hcs : cap * w ≤ arr.size)
    (hfull : tk = false → cap = l.length) :
    let σ' := σ.add W.heap.size (some (l.length * w)) (if tk then some (st.h.length, l.length * w) else none)
    let h' := if tk then st.h ++ [.tip] else st.h
    Inv σ' h' (psh W (.cells arr e)) ∧ Step σ st.h W σ' h' (psh W (.cells arr e)) ∧
      VRel σ' (psh W (.cells arr e)) (.vsl (if tk then .tip st.h.length else .full) w l) (.slice (some ⟨W.heap.size, 0, none⟩) l.length cap) := by
  intro σ' h'
  have hd : ∀ i x, (if tk then some (st.h.length, l.length * w) else none) = some (i, x) → i = st.h.length := by
    intro i x hx; cases tk <;> simp at hx; exact hx.1.symm
  have hh : h' = st.h ∨ ∃ o', h' = st.h ++ [o'] ∧ o'.live = true := by
    cases tk
    · exact .inl rfl
    · exact .inr ⟨.tip, rfl, rfl⟩
  have M := Mo.push I (.cells arr e) (some (l.length * w)) _ hd
  have St' : Step σ st.h W σ' h' (psh W (.cells arr e)) := Step.psh I _ _ _ hd h' hh
  refine ⟨Inv.psh I _ _ _ hd h' hh ?_ ?_ ?_ ?_ ?_, St', ?_⟩
  · intro hs; cases tk
    · simp at hs
    · simp [h']
  · intro n hn'; cases hn'; exact ⟨arr, e, (0, 0), rfl, hn⟩
  · intro cs i x hx hxx; cases tk <;> simp [h'] at hx
  · intro i x hx hxx
    cases tk
    · simp at hxx
    · simp at hxx; exact ⟨by rw [hxx.2], arr, e, rfl⟩
  · intro o' i x hq hx hxx
    cases tk
    · simp [h'] at hx
    · simp [h'] at hx; subst hx; cases hq
  · refine VRel.vsl_iff.2 ⟨some ⟨W.heap.size, 0, none⟩, cap, rfl, fun h => (by cases h), fun h => (by cases tk <;> cases h), hcap, ?_, ?_, fun hl0 => ⟨_, _, l.length * w, rfl, hw, hl, by simp [σ', Sg.add], by omega, ?_, ?_⟩⟩
    · intro ht; cases tk
      · exact hfull rfl
      · simp at ht
    · intro h0 id hid
      cases tk
      · simp at hid
      · simp at hid; subst hid
        exact ⟨W.heap.size, 0, rfl, hw, by simp [σ', Sg.add, h0], by rw [bsize_of psh_new]; omega⟩
    · intro i v hv
      obtain ⟨y, hy, r⟩ := hc i v hv
      exact ⟨y, by rw [cellAt_of psh_new, Nat.zero_add]; exact hy, r.mono M⟩
    · intro id hid
      cases tk
      · simp at hid
      · simp at hid
        subst hid
        refine ⟨by simp [σ', Sg.add], ?_⟩
        rw [bsize_of psh_new]; omega

/-- A new box for an object. -/
theorem new_box (I : Inv σ st.h W) (cs : List V) (arr : Array Value) (e : TypeId) (hn : cs.length ≤ arr.size) (hc : ∀ (i : Nat) v, cs[i]? = some v → ∃ y, arr[i]? = some y ∧ Ck (VRel σ W) v y) :
    let σ' := σ.add W.heap.size none (some (st.h.length, 0))
    Inv σ' (st.h ++ [.cells cs]) (psh W (.cells arr e)) ∧ Step σ st.h W σ' (st.h ++ [.cells cs]) (psh W (.cells arr e)) ∧ σ'.loc st.h.length = some (W.heap.size, 0) := by
  intro σ'
  have hd : ∀ i x, some (st.h.length, 0) = some (i, x) → i = st.h.length := by intro i x hx; simp at hx; exact hx.1.symm
  have hh : st.h ++ [O.cells cs] = st.h ∨ ∃ o', st.h ++ [O.cells cs] = st.h ++ [o'] ∧ o'.live = true := .inr ⟨_, rfl, rfl⟩
  refine ⟨Inv.psh I _ _ _ hd _ hh ?_ ?_ ?_ ?_ ?_, Step.psh I _ _ _ hd _ hh, by simp [σ', Sg.add]⟩
  · intro _; simp
  · intro n hn'; cases hn'
  · intro cs' i x hx hxx
    simp at hx hxx
    subst hx
    obtain ⟨_, rfl⟩ := hxx
    exact ⟨rfl, arr, e, rfl, by omega, fun i v hv => by rw [Nat.zero_add]; exact hc i v hv⟩
  · intro i x hx; simp at hx
  · intro o' i x hq hx; simp at hx; subst hx; cases hq

theorem new_map (I : Inv σ st.h W) : let σ' := σ.add W.heap.size none (some (st.h.length, 0))
    Inv σ' (st.h ++ [.map []]) (psh W (.map #[] 0)) ∧ Step σ st.h W σ' (st.h ++ [.map []]) (psh W (.map #[] 0)) ∧ σ'.loc st.h.length = some (W.heap.size, 0) := by
  intro σ'
  have hd : ∀ i x, some (st.h.length, 0) = some (i, x) → i = st.h.length := by intro i x hx; simp at hx; exact hx.1.symm
  have hh : st.h ++ [O.map []] = st.h ∨ ∃ o', st.h ++ [O.map []] = st.h ++ [o'] ∧ o'.live = true := .inr ⟨_, rfl, rfl⟩
  refine ⟨Inv.psh I _ _ _ hd _ hh ?_ ?_ ?_ ?_ ?_, Step.psh I _ _ _ hd _ hh, by simp [σ', Sg.add]⟩
  · intro _; simp
  · intro n hn'; cases hn'
  · intro cs' i x hx; simp at hx
  · intro i x hx; simp at hx
  · intro o' i x _ hx _; simp at hx; subst hx; exact ⟨rfl, by simp [OpR, L2]⟩

/-- The cells of a literal's zeros. -/
theorem zeros_rel {z : V} {z' : Value} {w n : Nat} (hz : L2 (Ck (VRel σ W)) (cellsOf z) z'.cells.toList) (hw : (cellsOf z).length = w) (h0 : 0 < w) :
    L2 (Ck (VRel σ W)) ((List.replicate n z).flatMap cellsOf) ((Array.range (n * w)).map (fun k => z'.cells[k % z'.cells.size]!)).toList := by
  have hsz : z'.cells.size = w := by have := hz.1; simp at this; omega
  have hl : ∀ e ∈ List.replicate n z, (cellsOf e).length = w := fun e he => by rw [(List.mem_replicate.1 he).2]; exact hw
  refine ⟨by rw [flat_len hl]; simp, fun i v y hv hy => ?_⟩
  have hi : i < n * w := by have := (List.getElem?_eq_some_iff.1 hv).1; rw [flat_len hl] at this; simpa using this
  have hdm : i = (i / w) * w + i % w := by rw [Nat.mul_comm]; exact (Nat.div_add_mod i w).symm
  have hm : i % w < w := Nat.mod_lt _ h0
  have hk : i / w < n := by rw [Nat.div_lt_iff_lt_mul h0]; exact hi
  have hv' : (cellsOf z)[i % w]? = some v := by
    rw [hdm, flat_at hl (k := i / w) (e := z) (by simp [hk]) hm] at hv; exact hv
  obtain ⟨q, hq, r⟩ := hz.get hv'
  have : y = q := by
    have hlt : i % z'.cells.size < z'.cells.size := by rw [hsz]; exact hm
    simp [hi] at hy
    rw [← hy]
    have hq' : z'.cells[i % w]? = some q := by simpa using hq
    rw [← hsz] at hq'
    rw [getElem!_pos z'.cells _ hlt]
    rw [Array.getElem?_eq_getElem hlt] at hq'
    exact Option.some.inj hq'
  rw [this]; exact r

theorem flat_set {w : Nat} : ∀ {l : List V} (_ : ∀ e ∈ l, (cellsOf e).length = w) {i : Nat} {v : V} (_ : (cellsOf v).length = w) (_ : i < l.length),
    ∃ r, r = (l.set i v).flatMap cellsOf ∧ r.length = (l.flatMap cellsOf).length ∧ (∀ j, j < w → r[i * w + j]? = (cellsOf v)[j]?) ∧ (∀ k, (k < i * w ∨ i * w + w ≤ k) → r[k]? = (l.flatMap cellsOf)[k]?)
  | [], _, i, v, _, hi => by simp at hi
  | e :: l, h, 0, v, hv, _ => by
    have he := h e (by simp)
    refine ⟨_, rfl, by simp [hv, he], fun j hj => ?_, fun k hk => ?_⟩
    · simp only [List.set_cons_zero, List.flatMap_cons, Nat.zero_mul, Nat.zero_add]; rw [List.getElem?_append_left (by omega)]
    · simp only [List.set_cons_zero, List.flatMap_cons]; rw [List.getElem?_append_right (by omega), List.getElem?_append_right (by omega), hv, he]
  | e :: l, h, i + 1, v, hv, hi => by
    have he := h e (by simp)
    obtain ⟨r, hr, h1, h2, h3⟩ := flat_set (l := l) (fun x hx => h x (by simp [hx])) (i := i) hv (by simpa using hi)
    refine ⟨_, rfl, by simp only [List.set_cons_succ, List.flatMap_cons, List.length_append, ← hr, h1], fun j hj => ?_, fun k hk => ?_⟩
    · simp only [List.set_cons_succ, List.flatMap_cons]
      rw [List.getElem?_append_right (by rw [he, Nat.succ_mul]; omega), he, ← hr, show (i + 1) * w + j - w = i * w + j by rw [Nat.succ_mul]; omega]
      exact h2 j hj
    · simp only [List.set_cons_succ, List.flatMap_cons]
      by_cases hk1 : k < w
      · rw [List.getElem?_append_left (by omega), List.getElem?_append_left (by omega)]
      · rw [List.getElem?_append_right (by omega), List.getElem?_append_right (by omega), he, ← hr]
        exact h3 (k - w) (by rw [Nat.succ_mul] at hk; omega)

theorem elems_fill {w n : Nat} : ∀ (ps : List (Nat × V)) (ps' : List (Nat × Value)) (l : List V) (arr : Array Value), l.length = n → (∀ e ∈ l, (cellsOf e).length = w) → L2 (Ck (VRel σ W)) (l.flatMap cellsOf) arr.toList →
    ps.length = ps'.length → (∀ (i : Nat) p q, ps[i]? = some p → ps'[i]? = some q → p.1 = q.1 ∧ VRel σ W p.2 q.2 ∧ p.2 ≠ .undef) → (∀ p ∈ ps, p.1 < n ∧ (cellsOf p.2).length = w ∧ okv p.2 = true) →
    ∃ arr', Instr.fill (fun i => some (i * w, w)) arr ps' = some arr' ∧ (elemsV l ps).length = n ∧ (∀ e ∈ elemsV l ps, (cellsOf e).length = w) ∧ L2 (Ck (VRel σ W)) ((elemsV l ps).flatMap cellsOf) arr'.toList
  | [], ps', l, arr, hl, hw, hc, he, _, _ => by
    obtain rfl : ps' = [] := by cases ps' with | nil => rfl | cons _ _ => simp at he
    exact ⟨arr, rfl, hl, hw, hc⟩
  | (i, v) :: ps, ps', l, arr, hl, hw, hc, he, hp, hb => by
    cases ps' with
    | nil => simp at he
    | cons q ps' =>
    obtain ⟨i', v'⟩ := q
    obtain ⟨e, hv, hu⟩ := hp 0 _ _ rfl rfl
    simp only at e hv hu
    subst e
    obtain ⟨hi, hvw, hok⟩ := hb (i, v) (by simp)
    simp only at hi hvw hok
    have hcv := cells_rel hv hok
    have hsz : v'.cells.size = w := by have := hcv.1; simp at this; omega
    obtain ⟨r, hr, r1, r2, r3⟩ := flat_set hw hvw (hl ▸ hi)
    have hlen := flat_len hw
    have hia : i * w + w ≤ arr.size := by
      have h1 := hc.1; rw [hlen, hl] at h1; simp at h1; rw [← h1]
      have : (i + 1) * w ≤ n * w := Nat.mul_le_mul_right _ hi
      rw [Nat.succ_mul] at this; exact this
    have hle : i * w + v'.cells.toList.length ≤ arr.size := by simpa [hsz] using hia
    have e1 : L2 (Ck (VRel σ W)) ((l.set i v).flatMap cellsOf) (putA arr (i * w) v'.cells.toList).toList := by
      rw [← hr]
      refine ⟨by rw [r1, hc.1]; simpa using (putA_size hle).symm, fun k x y hx hy => ?_⟩
      have hy' : (putA arr (i * w) v'.cells.toList)[k]? = some y := by simpa using hy
      by_cases c1 : k < i * w
      · rw [r3 k (.inl c1)] at hx; rw [putA_lo hle c1] at hy'; exact hc.2 k x y hx (by simpa using hy')
      · by_cases c2 : k < i * w + w
        · obtain ⟨j, rfl⟩ : ∃ j, k = i * w + j := ⟨k - i * w, by omega⟩
          rw [r2 j (by omega)] at hx
          rw [putA_in hle (by simp [hsz]; omega)] at hy'
          exact hcv.2 j x y hx hy'
        · rw [r3 k (.inr (by omega))] at hx; rw [putA_hi hle (by simp [hsz]; omega)] at hy'; exact hc.2 k x y hx (by simpa using hy')
    obtain ⟨arr', ha, b1, b2, b3⟩ := elems_fill ps ps' (l.set i v) (putA arr (i * w) v'.cells.toList) (by simp [hl]) (fun e he => by
        rcases List.mem_or_eq_of_mem_set he with h | rfl
        · exact hw e h
        · exact hvw) e1 (by simpa using he) (fun j p q hp' hq' => hp (j + 1) p q (by simpa using hp') (by simpa using hq')) (fun p hp' => hb p (by simp [hp']))
    refine ⟨arr', ?_, b1, b2, b3⟩
    have ef := foldl_put (i * w) v'.cells.toList 0 arr (by simpa using hle)
    rw [Nat.add_zero] at ef
    simp only [Instr.fill]
    rw [if_neg (by simp [hsz]; omega)]
    rw [← Array.foldl_toList, Array.toList_zipIdx, ef]
    exact ha
end
end Go.AM
namespace Go.AM
section
variable {c : Cx} {N : Nat} {S : Snap} {β : Nat → Option Nat} {σ : Sg} {W : World} {st : St} {a : Act}

theorem bytesOf_spec : ∀ {l : List V} {bs : List UInt8}, bytesOf l = some bs → ∃ ns : List Int, l = ns.map (fun n => V.s (.int .u8 n)) ∧ bs = ns.map (fun n => UInt8.ofNat n.toNat)
  | [], bs, h => by simp [bytesOf] at h; subst h; exact ⟨[], rfl, rfl⟩
  | x :: l, bs, h => by
    unfold bytesOf at h
    split at h
    · rename_i heq; cases heq
    · rename_i n r heq
      cases heq
      obtain ⟨q, hq, rfl⟩ := Option.map_eq_some_iff.1 h
      obtain ⟨ns, rfl, rfl⟩ := bytesOf_spec hq
      exact ⟨n :: ns, rfl, rfl⟩
    · cases h

theorem push_bytes (ns : List Int) : ∀ (b : ByteArray), ns.foldl (fun r n => r.push (UInt8.ofNat n.toNat)) b = ⟨b.data ++ (ns.map fun n => UInt8.ofNat n.toNat).toArray⟩ := by
  induction ns with
  | nil => intro b; simp
  | cons n ns ih => intro b; simp only [List.foldl_cons, ih, List.map_cons]; congr 1; apply Array.ext'; simp [ByteArray.push]

theorem row_Cl {t : Tk} {w : Nat} {l : List V} {x : Value} (h : VRel σ W (.vsl t w l) x) : ∃ base cap, x = .slice base l.length cap ∧ (base = none → cap = 0) ∧ l.length ≤ cap ∧ (t = .full → cap = l.length) ∧
    (l ≠ [] → ∃ cc o, base = some ⟨cc, o, none⟩ ∧ 0 < w ∧ (∀ e ∈ l, (cellsOf e).length = w) ∧ Cl (Ck (VRel σ W)) W cc o (l.flatMap cellsOf)) := by
  obtain ⟨base, cap, hx, n0, _, h1, h2, _, h4⟩ := VRel.vsl_iff.1 h
  exact ⟨base, cap, hx, n0, h1, h2, fun hl => let ⟨cc, o, _, s, w0, w1, _, _, w4, _⟩ := h4 hl; ⟨cc, o, s, w0, w1, w4⟩⟩

theorem flat_single : ∀ {l : List V}, (∀ e ∈ l, cellsOf e = [e]) → l.flatMap cellsOf = l
  | [], _ => rfl
  | e :: l, h => by rw [List.flatMap_cons, h e (by simp), flat_single (fun x hx => h x (by simp [hx]))]; rfl

theorem convV_run {s d : TypeId} {v r : V} {x : Value} (h : convV c s d v = some r) (hx : VRel σ W v x) : ∃ z, (convert s d x).run c.P W = .ok z W ∧ VRel σ W r z := by
  unfold convV at h
  split at h
  · rename_i u k k1 n hs hd
    cases h
    obtain ⟨rfl, _⟩ := VRel.s_iff.1 hx
    refine ⟨_, ?_, VRel.s_iff.2 ⟨rfl, rfl⟩⟩
    simp only [convert, Sem.run_bind, run_und hs, run_und hd, Result.andThen_ok]
    cases u <;> rfl
  · rename_i u s' hs hd
    cases h
    obtain ⟨rfl, _⟩ := VRel.s_iff.1 hx
    refine ⟨_, ?_, VRel.s_iff.2 ⟨rfl, rfl⟩⟩
    simp only [convert, Sem.run_bind, run_und hs, run_und hd, Result.andThen_ok]
    cases u <;> rfl
  · rename_i e tk ww l hs hd
    split at h
    · rename_i he
      obtain ⟨bs, hb, rfl⟩ := Option.map_eq_some_iff.1 h
      obtain ⟨ns, rfl, rfl⟩ := bytesOf_spec hb
      obtain ⟨base, cap, rfl, _, _, _, h4⟩ := row_Cl hx
      refine ⟨_, ?_, VRel.s_iff.2 ⟨rfl, rfl⟩⟩
      rw [run_convert_bytes_string W s d e _ _ _ hs he hd]
      by_cases h0 : ns = []
      · subst h0
        cases base with
        | none => rfl
        | some q =>
          have hl : (loadCells q ([].map fun n => V.s (.int .u8 n)).length).run c.P W = .ok (([] : List Int).map (Value.int .u8)).toArray W := rfl
          rw [run_bytesToString W _ _ _ [] hl, push_bytes]
          rfl
      obtain ⟨cc, o, rfl, _, _, hc⟩ := h4 (by simpa using h0)
      have hl : (loadCells ⟨cc, o, none⟩ (ns.map fun n => V.s (.int .u8 n)).length).run c.P W = .ok (ns.map (Value.int .u8)).toArray W := by
        have hf : (ns.map fun n => V.s (.int .u8 n)).flatMap cellsOf = ns.map fun n => V.s (.int .u8 n) :=
          flat_single (fun e he => by obtain ⟨n, _, rfl⟩ := List.mem_map.1 he; rfl)
        rw [hf] at hc
        have := run_loadCells' (P := c.P) (w := W) (c := cc) (o := o) (ys := ns.map (Value.int .u8)) (fun i y hy => by
          obtain ⟨n, hn, rfl⟩ : ∃ n, ns[i]? = some n ∧ y = .int .u8 n := by
            simp only [List.getElem?_map] at hy
            obtain ⟨n, hn, e⟩ := Option.map_eq_some_iff.1 hy
            exact ⟨n, hn, e.symm⟩
          obtain ⟨y', hy', r⟩ := hc i (.s (.int .u8 n)) (by simp [hn])
          obtain ⟨rfl, _⟩ := VRel.s_iff.1 r.2
          exact hy')
        simpa using this
      rw [run_bytesToString W _ _ _ ns hl, push_bytes]
      simp
    · cases h
  · cases h

theorem lenV_run {t : TypeId} {x r : V} {y : Value} {ts : Array TypeId} {ty : TypeId} (h : lenV c t st.h x = some r) (hx : VRel σ W x y) (I : Inv σ st.h W) (ht : ts[0]? = some t) :
    ∃ z, (Builtin.len_ ts ty #[y]).run c.P W = .ok z W ∧ VRel σ W r z := by
  unfold lenV at h
  have base : ∀ (n : Int) , ∃ z, (Sem.pure (goInt n) : Sem Value).run c.P W = .ok z W ∧ VRel σ W (.i n) z := fun n => ⟨goInt n, rfl, VRel.s_iff.2 ⟨rfl, rfl⟩⟩
  split at h
  · rename_i s hu
    cases h; obtain ⟨rfl, _⟩ := VRel.s_iff.1 hx
    exact ⟨_, by simp only [Builtin.len_, ht, List.getElem?_toArray, List.getElem?_cons_zero, Sem.run_bind, run_und hu, Result.andThen_ok]; rfl, VRel.s_iff.2 ⟨rfl, rfl⟩⟩
  · rename_i n e hu
    cases h
    exact ⟨_, by simp only [Builtin.len_, ht, List.getElem?_toArray, List.getElem?_cons_zero, Sem.run_bind, run_und hu, Result.andThen_ok]; rfl, VRel.s_iff.2 ⟨rfl, rfl⟩⟩
  · rename_i e tk ww l hu
    cases h; obtain ⟨_, _, rfl, _⟩ := VRel.vsl_iff.1 hx
    exact ⟨_, by simp only [Builtin.len_, ht, List.getElem?_toArray, List.getElem?_cons_zero, Sem.run_bind, run_und hu, Result.andThen_ok]; rfl, VRel.s_iff.2 ⟨rfl, rfl⟩⟩
  · rename_i e b off n w hu
    cases h; obtain ⟨_, _, _, _, rfl, _⟩ := VRel.msl_iff.1 hx
    exact ⟨_, by simp only [Builtin.len_, ht, List.getElem?_toArray, List.getElem?_cons_zero, Sem.run_bind, run_und hu, Result.andThen_ok]; rfl, VRel.s_iff.2 ⟨rfl, rfl⟩⟩
  · rename_i kt e hu
    cases h; obtain ⟨rfl, _⟩ := VRel.s_iff.1 hx
    exact ⟨_, by simp only [Builtin.len_, ht, List.getElem?_toArray, List.getElem?_cons_zero, Sem.run_bind, run_und hu, Result.andThen_ok]; rfl, VRel.s_iff.2 ⟨rfl, rfl⟩⟩
  · rename_i kt e r hu
    obtain ⟨k, hl, rfl⟩ := VRel.map_iff.1 hx
    split at h
    · rename_i es hes
      cases h
      obtain ⟨_, ob, hh, he⟩ := I.map r _ k 0 hes rfl hl
      cases ob with
      | map ents clock => ?_
      | _ => exact he.elim
      refine ⟨goInt ents.size, ?_, VRel.s_iff.2 ⟨by rw [he.1]; simp [goInt], rfl⟩⟩
      simp only [Builtin.len_, ht, List.getElem?_toArray, List.getElem?_cons_zero, Sem.run_bind, run_und hu, Result.andThen_ok]
      simp [getObj, Sem.run, hh]
    · cases h
  · cases h

def sb (x' : Option Value) (d y : Nat) (code : BoundsCode) : Sem Nat :=
  match x' with
  | some v => Instr.sliceBound v y code
  | none => pure d

theorem bound_spec {x : Option V} {d y n : Nat} {x' : Option Value} {code : BoundsCode} (h : AM.bound x d y = some n) (hx : ∀ v, x = some v → ∃ v', x' = some v' ∧ VRel σ W v v') (hn : x = none → x' = none) (w : World) :
    ∀ y', y ≤ y' → (sb x' d y' code).run c.P w = .ok n w ∧ (x ≠ none → n ≤ y) ∧ (x = none → n = d) := by
  intro y' hy' 
  unfold AM.bound at h
  split at h
  · cases h; rw [hn rfl]; exact ⟨rfl, by simp, fun _ => rfl⟩
  · rename_i k i
    obtain ⟨v', e, r⟩ := hx _ rfl
    obtain ⟨rfl, _⟩ := VRel.s_iff.1 r
    subst e
    split at h
    · split at h
      · rename_i h1 h2
        cases h
        refine ⟨?_, fun _ => by omega, by simp⟩
        simp only [sb, Instr.sliceBound, Sem.run_bind, asIntOf, Sem.run_pure, Result.andThen_ok]
        rw [if_pos ⟨h1, by omega⟩]; rfl
      · cases h
    · cases h
  · cases h

theorem evalO_rel (R : Rl c N S β σ W st a.tmps) {o : Option Operand} {v : Option V} (h : evalO c st o = some v) : (∀ x, v = some x → ∃ x', o.map a.eval = some x' ∧ VRel σ W x x') ∧ (v = none → o.map a.eval = none) := by
  cases o with
  | none => simp [evalO] at h; subst h; simp
  | some o =>
    simp only [evalO, Option.map_eq_some_iff] at h
    obtain ⟨x, hx, rfl⟩ := h
    exact ⟨fun y hy => by cases hy; exact ⟨_, rfl, (evalV_rel R hx).1⟩, by simp⟩

theorem minmax_run {mx : Bool} {vs : List V} {r : V} {xs : Array Value} {ts : Array TypeId} {ty : TypeId} (h : minmax mx vs = some r) (hx : L2 (VRel σ W) vs xs.toList) (w : World) :
    ∃ z, (if mx then Builtin.max_ ts ty xs else Builtin.min_ ts ty xs).run c.P w = .ok z w ∧ VRel σ W r z := by
  have step : ∀ x y q x' y', mm2 mx x y = some q → VRel σ W x x' → VRel σ W y y' → ∃ z, (if mx then Builtin.max2 x' y' else Builtin.min2 x' y').run c.P w = .ok z w ∧ VRel σ W q z := by
    intro x y q x' y' hq h1 h2
    unfold mm2 at hq
    split at hq
    · obtain ⟨rfl, _⟩ := VRel.s_iff.1 h1
      obtain ⟨rfl, _⟩ := VRel.s_iff.1 h2
      split at hq
      · cases hq
      · cases hq
        cases mx
        · exact ⟨_, rfl, VRel.s_iff.2 ⟨rfl, rfl⟩⟩
        · exact ⟨_, rfl, VRel.s_iff.2 ⟨rfl, rfl⟩⟩
    · cases hq
  have fold : ∀ (l : List V) (l' : List Value) (acc : Option V) (x' : Value), (∀ q, acc = some q → VRel σ W q x') → L2 (VRel σ W) l l' → l.foldl (fun acc z => acc.bind fun a => mm2 mx a z) acc = some r →
      ∃ z, (l'.foldlM (fun a b => if mx then Builtin.max2 a b else Builtin.min2 a b) x' : Sem Value).run c.P w = .ok z w ∧ VRel σ W r z := by
    intro l
    induction l with
    | nil => intro l' acc x' ha hl hf; obtain rfl : l' = [] := by cases l' with | nil => rfl | cons _ _ => simp [L2] at hl
             exact ⟨x', rfl, ha r hf⟩
    | cons y l ih =>
      intro l' acc x' ha hl hf
      cases l' with
      | nil => simp [L2] at hl
      | cons y' l' =>
      cases acc with
      | none =>
        simp only [List.foldl_cons, Option.bind_none] at hf
        exfalso
        have : ∀ l : List V, l.foldl (fun (acc : Option V) z => acc.bind fun a => mm2 mx a z) none = none := by
          intro l; induction l with
          | nil => rfl
          | cons _ _ ih => simpa using ih
        rw [this] at hf; cases hf
      | some q =>
        simp only [List.foldl_cons, Option.bind_some] at hf
        have hy : VRel σ W y y' := hl.2 0 y y' rfl rfl
        have hl' : L2 (VRel σ W) l l' := ⟨by have := hl.1; simpa using this, fun i a b h1 h2 => hl.2 (i + 1) a b (by simpa using h1) (by simpa using h2)⟩
        cases hm : mm2 mx q y with
        | none =>
          rw [hm] at hf
          have : ∀ l : List V, l.foldl (fun (acc : Option V) z => acc.bind fun a => mm2 mx a z) none = none := by
            intro l; induction l with
            | nil => rfl
            | cons _ _ ih => simpa using ih
          rw [this] at hf; cases hf
        | some q' =>
          obtain ⟨z, hz, rz⟩ := step _ _ _ _ _ hm (ha q rfl) hy
          rw [hm] at hf
          obtain ⟨z', hz', rz'⟩ := ih l' (some q') z (fun p hp => by cases hp; exact rz) hl' hf
          exact ⟨z', by simp only [List.foldlM_cons, Sem.run_bind, hz, Result.andThen_ok, hz'], rz'⟩
  unfold minmax at h
  split at h
  · rename_i x y l
    obtain ⟨x', hx', rx⟩ := hx.get (i := 0) (v := x) rfl
    have hl : L2 (VRel σ W) (y :: l) (xs.toList.drop 1) := by
      refine ⟨by have := hx.1; simp at this ⊢; omega, fun i a b h1 h2 => ?_⟩
      rw [List.getElem?_drop] at h2
      exact hx.2 (i + 1) a b (by simpa using h1) (by rw [Nat.add_comm]; exact h2)
    have hxs : xs.toList = x' :: xs.toList.drop 1 := by
      cases hq : xs.toList with
      | nil => rw [hq] at hx'; simp at hx'
      | cons p q => rw [hq] at hx'; simp at hx'; simp [hx']
    obtain ⟨z, hz, rz⟩ := fold (y :: l) (xs.toList.drop 1) (some x) x' (fun q hq => by cases hq; exact rx) hl (by simpa using h)
    refine ⟨z, ?_, rz⟩
    cases mx
    · simp only [Bool.false_eq_true, if_false, Builtin.min_]
      rw [hxs]; simpa using hz
    · simp only [if_true, Builtin.max_]
      rw [hxs]; simpa using hz
  · cases h
end
end Go.AM
namespace Go.AM
section
variable {c : Cx} {N : Nat} {S : Snap} {β : Nat → Option Nat} {σ : Sg} {W : World} {st : St} {a : Act}

theorem bounds_eq (b : Bool) (len cap : Nat) (lo hi mx : Option Value) (hm : mx.isSome = true → hi.isSome = true) : Instr.sliceBounds b len cap lo hi mx = (do
    let m ← sb mx cap cap (if b then .slice3Acap else .slice3Alen)
    let h ← sb hi len m (if mx.isSome then .slice3B else if b then .sliceAcap else .sliceAlen)
    let l ← sb lo 0 h (if mx.isSome then .slice3C else .sliceB)
    pure (l, h, m)) := by
  unfold Instr.sliceBounds sb
  cases mx <;> cases hi <;> cases lo <;> first | rfl | (simp at hm)

abbrev OR (σ : Sg) (W : World) (v : Option V) (x : Option Value) : Prop := (∀ y, v = some y → ∃ y', x = some y' ∧ VRel σ W y y') ∧ (v = none → x = none)
theorem OR.some {v : Option V} {x : Option Value} (h : OR σ W v x) : x.isSome = v.isSome := by
  cases v with
  | none => rw [h.2 rfl]; rfl
  | some y => obtain ⟨y', e, _⟩ := h.1 y rfl; rw [e]; rfl

theorem cutTk_full {mx : Bool} {m h n k : Nat} {tk : Tk} (e : cutTk mx m h n k tk = .full) : (mx = true ∧ m = h) ∨ (mx = false ∧ h = n ∧ tk = .full) := by
  unfold cutTk at e
  cases mx
  · simp only [Bool.false_eq_true, if_false] at e
    by_cases h1 : h = n
    · rw [if_pos h1] at e
      by_cases h2 : k = 0
      · rw [if_pos h2] at e; replace e : tk = .full := (by split at e; cases e; exact e); exact .inr ⟨rfl, h1, e⟩
      · rw [if_neg h2] at e
        by_cases h3 : tk = .full
        · exact .inr ⟨rfl, h1, h3⟩
        · rw [if_neg h3] at e; cases e
    · rw [if_neg h1] at e; cases e
  · simp only [if_true] at e
    by_cases h1 : m = h
    · exact .inl ⟨rfl, h1⟩
    · rw [if_neg h1] at e; cases e
theorem cutTk_nil {mx : Bool} {m h n k : Nat} {tk : Tk} (e : cutTk mx m h n k tk = .nil) : tk = .nil := by
  unfold cutTk at e
  cases mx
  · simp only [Bool.false_eq_true, if_false] at e
    by_cases h1 : h = n
    · rw [if_pos h1] at e
      by_cases h2 : k = 0
      · rw [if_pos h2] at e; replace e : tk = .nil := (by split at e; cases e; exact e); exact e
      · rw [if_neg h2] at e
        by_cases h3 : tk = .full
        · rw [if_pos h3] at e; cases e
        · rw [if_neg h3] at e; cases e
    · rw [if_neg h1] at e; cases e
  · simp only [if_true] at e
    by_cases h1 : m = h
    · rw [if_pos h1] at e; cases e
    · rw [if_neg h1] at e; cases e
theorem cutTk_tip {mx : Bool} {m h n k id : Nat} {tk : Tk} (e : cutTk mx m h n k tk = .tip id) : mx = false ∧ h = n ∧ k = 0 ∧ tk = .tip id ∧ n ≠ 0 := by
  unfold cutTk at e
  cases mx
  · simp only [Bool.false_eq_true, if_false] at e
    by_cases h1 : h = n
    · rw [if_pos h1] at e
      by_cases h2 : k = 0
      · rw [if_pos h2] at e
        by_cases h4 : n = 0 ∧ tk.isTip = true
        · rw [if_pos h4] at e; cases e
        · rw [if_neg h4] at e
          refine ⟨rfl, h1, h2, e, fun h5 => h4 ⟨h5, by rw [e]; rfl⟩⟩
      · rw [if_neg h2] at e
        by_cases h3 : tk = .full
        · rw [if_pos h3] at e; cases e
        · rw [if_neg h3] at e; cases e
    · rw [if_neg h1] at e; cases e
  · simp only [if_true] at e
    by_cases h1 : m = h
    · rw [if_pos h1] at e; cases e
    · rw [if_neg h1] at e; cases e

theorem sliceV_run {t : TypeId} {x r : V} {y : Value} {lo hi mx : Option V} {lo' hi' mx' : Option Value} (h : sliceV c t x lo hi mx = some r) (hx : VRel σ W x y) (hlo : OR σ W lo lo') (hhi : OR σ W hi hi') (hmx : OR σ W mx mx') :
    ∃ z, (Instr.sliceAt t y lo' hi' mx').run c.P W = .ok z W ∧ VRel σ W r z := by
  unfold sliceV at h
  split at h
  · -- a string
    rename_i s hu
    split at h
    · cases h
    · rename_i hm
      have em : mx' = none := hmx.2 (by simpa using hm)
      subst em
      simp only [Option.bind_eq_bind] at h
      have h9 := Option.bind_eq_some_iff.1 h; clear h; obtain ⟨n, hn, h⟩ := h9
      have h9 := Option.bind_eq_some_iff.1 h; clear h; obtain ⟨k, hk, h⟩ := h9
      cases h
      obtain ⟨rfl, _⟩ := VRel.s_iff.1 hx
      obtain ⟨r1, _, _⟩ := bound_spec (c := c) (code := .sliceAlen) hn hhi.1 hhi.2 W s.size (Nat.le_refl _)
      obtain ⟨r2, _, _⟩ := bound_spec (c := c) (code := .sliceB) hk hlo.1 hlo.2 W n (Nat.le_refl _)
      refine ⟨_, ?_, VRel.s_iff.2 ⟨rfl, rfl⟩⟩
      simp only [Instr.sliceAt, Sem.run_bind, run_und hu, Result.andThen_ok, Instr.slice]
      rw [bounds_eq _ _ _ _ _ _ (by simp)]
      simp only [Option.isSome_none, Bool.false_eq_true, if_false, Sem.run_bind, sb, Sem.run_pure, Result.andThen_ok] at r1 r2 ⊢
      simp only [r1, r2, Result.andThen_ok, Sem.run_pure]
  · -- a slice of trees
    rename_i e tk w l hu
    split at h
    · cases h
    rename_i hmm
    simp only [Option.bind_eq_bind] at h
    have h9 := Option.bind_eq_some_iff.1 h; clear h; obtain ⟨sz, hsz, h⟩ := h9
    split at h
    · cases h
    rename_i hw
    have h9 := Option.bind_eq_some_iff.1 h; clear h; obtain ⟨m, hm, h⟩ := h9
    have h9 := Option.bind_eq_some_iff.1 h; clear h; obtain ⟨n, hn, h⟩ := h9
    have h9 := Option.bind_eq_some_iff.1 h; clear h; obtain ⟨k, hk, h⟩ := h9
    cases h
    obtain ⟨base, cap, rfl, z0, z1, c1, c2, c3, c4⟩ := VRel.vsl_iff.1 hx
    -- the bounds that the machine finds
    obtain ⟨r0, a1, a2⟩ := bound_spec (c := c) (code := .slice3Acap) hm hmx.1 hmx.2 W cap c1
    obtain ⟨M, hM, hMm, hMe, hMc⟩ : ∃ M, (sb mx' cap cap .slice3Acap).run c.P W = .ok M W ∧ m ≤ M ∧ (mx ≠ none → M = m) ∧ (mx = none → M = cap) := by
      by_cases e : mx = none
      · refine ⟨cap, ?_, ?_, fun h => absurd e h, fun _ => rfl⟩
        · rw [hmx.2 e]; rfl
        · rw [a2 e]; exact c1
      · refine ⟨m, ?_, Nat.le_refl _, fun _ => rfl, fun h => absurd h e⟩
        cases hx' : mx' with
        | none => have := hmx.some; rw [hx'] at this; cases mx <;> simp_all
        | some q => rw [hx'] at r0; exact r0
    obtain ⟨r1, b1, b2⟩ := bound_spec (c := c) (code := if mx'.isSome then .slice3B else .sliceAcap) hn hhi.1 hhi.2 W M hMm
    obtain ⟨r2, d1, d2⟩ := bound_spec (c := c) (code := if mx'.isSome then .slice3C else .sliceB) hk hlo.1 hlo.2 W n (Nat.le_refl _)
    have hkn : k ≤ n := by by_cases e : lo = none; rw [d2 e]; omega; exact d1 e
    have hml : m ≤ l.length := by by_cases e : mx = none; rw [a2 e]; omega; exact a1 e
    have hnl : n ≤ l.length := by by_cases e : hi = none; rw [b2 e]; omega; have := b1 e; omega
    have hnM : n ≤ M := by
      by_cases e : hi = none
      · by_cases e' : mx = none
        · rw [hMc e', b2 e]; exact c1
        · exfalso; apply hmm; cases mx <;> cases hi <;> simp_all
      · have := b1 e; omega
    have hlen : ((l.take n).drop k).length = n - k := by simp; omega
    refine ⟨.slice (if M = k then base else base.map (·.add (k * sz))) (n - k) (M - k), ?_, ?_⟩
    · simp only [Instr.sliceAt, Sem.run_bind, run_und hu, Result.andThen_ok, Instr.slice]
      rw [bounds_eq _ _ _ _ _ _ (by rw [hmx.some, hhi.some]; intro e; cases mx <;> cases hi <;> simp_all)]
      simp only [if_true, Sem.run_bind, hM, r1, r2, Result.andThen_ok, Sem.run_pure, run_size hsz]
      first | done | rfl
    · have hfull : cutTk mx.isSome m n l.length k tk = .full → M = n := by
        intro ht
        rcases cutTk_full ht with ⟨e1, e2⟩ | ⟨e1, e2, e3⟩
        · rw [hMe (by rintro rfl; simp at e1), e2]
        · rw [hMc (by simpa using e1), e2]; exact c2 e3
      have htip : ∀ id, cutTk mx.isSome m n l.length k tk = .tip id → k = 0 ∧ n = l.length ∧ tk = .tip id ∧ M = cap ∧ l.length ≠ 0 := by
        intro id ht
        obtain ⟨e1, e2, e3, e4, e5⟩ := cutTk_tip ht
        exact ⟨e3, e2, e4, hMc (by simpa using e1), e5⟩
      have hne : (l.take n).drop k ≠ [] → k < n := by
        intro h0
        rcases Nat.lt_or_ge k n with h1 | h1
        · exact h1
        · exfalso; apply h0; apply List.length_eq_zero_iff.1; rw [hlen]; omega
      have hMk : k ≤ M := by omega
      have hnt : (l.take n).drop k = [] → (cutTk mx.isSome m n l.length k tk).isTip = false := by
        intro h0
        cases hq : cutTk mx.isSome m n l.length k tk with
        | tip id =>
          obtain ⟨e1, e2, _, _, e5⟩ := htip id hq
          subst e1; subst e2
          rw [List.drop_zero, List.take_length] at h0
          rw [h0] at e5; exact absurd rfl e5
        | _ => rfl
      refine (VRel.vs_iff hnt).2 (VRel.vsl_iff.2 ⟨_, M - k, by rw [hlen], fun hb => ?_, fun ht => ?_, by rw [hlen]; omega, fun ht => by rw [hlen, hfull ht], fun h0 id hid => ?_, fun h0 => ?_⟩)
      · by_cases e : M = k
        · omega
        · rw [if_neg e] at hb
          have hb' : base = none := by cases base with | none => rfl | some q => cases hb
          have := z0 hb'
          have : M ≤ cap := by
            by_cases e' : mx = none
            · rw [hMc e']; exact Nat.le_refl _
            · rw [hMe e']; omega
          omega
      · have hb' := z1 (cutTk_nil ht)
        subst hb'
        split <;> rfl
      · have := hnt h0; rw [hid] at this; cases this
      · have hk1 := hne h0
        have hl0 : l ≠ [] := by rintro rfl; simp at hnl; omega
        obtain ⟨cc, o, hh, rfl, w0, w1, w2, w3, w4, w5⟩ := c4 hl0
        obtain rfl : w = sz := by
          by_cases e : w = sz
          · exact e
          · exact absurd ⟨e, hl0⟩ hw
        have hqe : (if M = k then some (⟨cc, o, none⟩ : Addr) else (some (⟨cc, o, none⟩ : Addr)).map (·.add (k * w))) = some ⟨cc, o + k * w, none⟩ := by
          by_cases e : M = k
          · exfalso; omega
          · rw [if_neg e, Option.map_some, add_mk]
        have hsub : ∀ i e, ((l.take n).drop k)[i]? = some e → l[k + i]? = some e := by
          intro i e he
          rw [List.getElem?_drop] at he
          rw [List.getElem?_take] at he
          split at he
          · exact he
          · cases he
        have hw' : ∀ e ∈ (l.take n).drop k, (cellsOf e).length = w := fun e he => w1 e (List.mem_of_mem_take (List.mem_of_mem_drop he))
        refine ⟨cc, o + k * w, hh, hqe, w0, hw', w2, ?_, ?_, fun id hid => ?_⟩
        · rw [hlen]
          have : (n - k) * w + k * w ≤ l.length * w := by rw [← Nat.add_mul]; exact Nat.mul_le_mul_right _ (by omega)
          omega
        · intro i v hv
          have hi : i < (n - k) * w := by
            have := (List.getElem?_eq_some_iff.1 hv).1
            rw [flat_len hw', hlen] at this; exact this
          have hdm : i = (i / w) * w + i % w := by rw [Nat.mul_comm]; exact (Nat.div_add_mod i w).symm
          have hm' : i % w < w := Nat.mod_lt _ w0
          have hk' : i / w < n - k := by rw [Nat.div_lt_iff_lt_mul w0]; exact hi
          obtain ⟨e, he⟩ : ∃ e, ((l.take n).drop k)[i / w]? = some e := ⟨_, List.getElem?_eq_getElem (by rw [hlen]; exact hk')⟩
          rw [hdm, flat_at hw' he hm'] at hv
          have hv2 : (l.flatMap cellsOf)[(k + i / w) * w + i % w]? = some v := by rw [flat_at w1 (hsub _ _ he) hm']; exact hv
          obtain ⟨y, hy, r⟩ := w4 _ v hv2
          refine ⟨y, ?_, r⟩
          rw [← hy]; congr 1
          rw [Nat.add_mul]; omega
        · obtain ⟨e1, e2, e3, e4, _⟩ := htip id hid
          obtain ⟨p1, p2⟩ := w5 id e3
          subst e1; subst e2
          rw [hlen]
          simp only [Nat.zero_mul, Nat.add_zero, Nat.sub_zero]
          exact ⟨p1, by rw [e4]; exact p2⟩
  · -- a slice in a box
    rename_i e b off n0 w hu
    split at h
    · cases h
    rename_i hmx0
    have em : mx' = none := hmx.2 (by simpa using hmx0)
    have em0 : mx = none := by simpa using hmx0
    subst em em0
    simp only [Option.bind_eq_bind] at h
    have h9 := Option.bind_eq_some_iff.1 h; clear h; obtain ⟨sz, hsz, h⟩ := h9
    split at h
    · cases h
    rename_i hw
    simp only [ne_eq, Decidable.not_not] at hw
    subst hw
    have h9 := Option.bind_eq_some_iff.1 h; clear h; obtain ⟨n, hn, h⟩ := h9
    have h9 := Option.bind_eq_some_iff.1 h; clear h; obtain ⟨k, hk, h⟩ := h9
    obtain ⟨cc, d, cap, hl, rfl, c1, c2, c3, c4⟩ := VRel.msl_iff.1 hx
    obtain ⟨r1, b1, b2⟩ := bound_spec (c := c) (code := .sliceAcap) hn hhi.1 hhi.2 W cap c1
    obtain ⟨r2, d1, d2⟩ := bound_spec (c := c) (code := .sliceB) hk hlo.1 hlo.2 W n (Nat.le_refl _)
    have hkn : k ≤ n := by by_cases e : lo = none; rw [d2 e]; omega; exact d1 e
    have hnl : n ≤ n0 := by by_cases e : hi = none; rw [b2 e]; omega; exact b1 e
    have hrun : (Instr.sliceAt t (.slice (some ⟨cc, d + off, none⟩) n0 cap) lo' hi' none).run c.P W = .ok (.slice (if cap = k then some ⟨cc, d + off, none⟩ else some ⟨cc, d + off + k * w, none⟩) (n - k) (cap - k)) W := by
      simp only [Instr.sliceAt, Sem.run_bind, run_und hu, Result.andThen_ok, Instr.slice]
      rw [bounds_eq _ _ _ _ _ _ (by simp)]
      have r0 : (sb none cap cap .slice3Acap).run c.P W = .ok cap W := rfl
      simp only [if_true, Option.isSome_none, Bool.false_eq_true, if_false, Sem.run_bind, r0, r1, r2, Result.andThen_ok, Sem.run_pure, run_size hsz, Option.map_some, add_mk]
    split at h
    · rename_i hnk
      cases h
      refine ⟨_, hrun, ?_⟩
      have : ∃ q : Addr, (if cap = k then some (⟨cc, d + off, none⟩ : Addr) else some ⟨cc, d + off + k * w, none⟩) = some q := by split <;> exact ⟨_, rfl⟩
      obtain ⟨⟨qc, qo, qs⟩, hq⟩ := this
      rw [hq]
      exact (VRel.vs_iff (fun _ => rfl)).2 (VRel.vsl_iff.2 ⟨some ⟨qc, qo, qs⟩, cap - k, by simp; omega, fun h => (by cases h), fun h => (by cases h), by simp, fun ht => by simp at ht, fun _ id hid => by simp at hid, fun h0 => absurd rfl h0⟩)
    · rename_i hnk
      cases h
      refine ⟨_, hrun, ?_⟩
      rw [if_neg (by omega)]
      refine VRel.msl_iff.2 ⟨cc, d, cap - k, hl, by rw [Nat.add_assoc], by omega, c2, by omega, ?_⟩
      have : (cap - k) * w + k * w ≤ cap * w := by rw [← Nat.add_mul]; exact Nat.mul_le_mul_right _ (by omega)
      omega
  · cases h
end
end Go.AM
namespace Go.AM
section
variable {c : Cx} {N : Nat} {S : Snap} {β : Nat → Option Nat} {σ : Sg} {W : World} {st : St} {a : Act}

theorem Mo.upd {k : Nat} {arr arr' : Array Value} {e : TypeId} {fz : Nat × Nat} (hk : W.heap[k]? = some (.cells arr e fz)) (hr : σ.reg k = none) (hs : arr'.size = arr.size) : Mo σ W σ (upd W k (.cells arr' e fz)) where
  loc _ _ h := h
  reg _ n h := ⟨n, h, Nat.le_refl _⟩
  cel cc n o hn _ := by
    have : cc ≠ k := by rintro rfl; rw [hr] at hn; cases hn
    exact cellAt_congr (upd_ne this)
  bsz cc := by
    by_cases h : cc = k
    · subst h; rw [bsize_of hk, bsize_of (upd_at (lt_of_heap hk)), hs]; exact Nat.le_refl _
    · rw [bsize_congr (upd_ne h)]; exact Nat.le_refl _
  bse cc n _ := by
    by_cases h : cc = k
    · subst h; rw [bsize_of hk, bsize_of (upd_at (lt_of_heap hk)), hs]
    · rw [bsize_congr (upd_ne h)]

/-- The frame's own boxes may turn. -/
theorem Step.own {h : H} {W' : World} (s : Step S.σ S.h S.W σ h W) (M : Mo σ W σ W') (ho : W'.os = W.os) (ht : W'.tape = W.tape) (hu : W'.output = W.output) (hz : W.heap.size ≤ W'.heap.size)
    (hb : ∀ k, k < S.W.heap.size → W'.heap[k]? = W.heap[k]?) : Step S.σ S.h S.W σ h W' where
  mo := s.mo.trans M
  os := ho.trans s.os
  tape := ht.trans s.tape
  output := hu.trans s.output
  wsz := Nat.le_trans s.wsz hz
  hsz := s.hsz
  frm k hk hn := let ⟨e1, e2⟩ := s.frm k hk hn; ⟨(hb k hk).trans e1, e2⟩
  hos := s.hos
  old := s.old

theorem getB_setB {lb : List (Nat × List V)} {t u : Nat} {cs cs0 : List V} (h : getB lb t = some cs0) : getB (setB lb t cs) u = if t = u then some cs else getB lb u := by
  induction lb with
  | nil => simp [getB] at h
  | cons p lb ih =>
    obtain ⟨k, x⟩ := p
    simp only [setB]
    by_cases hk : k = t
    · subst hk
      simp only [if_true, getB]
      split <;> rfl
    · rw [if_neg hk]
      simp only [getB]
      simp only [getB, if_neg hk] at h
      rw [ih h]
      by_cases hu : k = u
      · subst hu; simp [Ne.symm hk]
      · simp [hu]

theorem storeVar_run {t : TypeId} {n : Nat} {x : V} {x' : Value} {k p : Nat} {arr : Array Value} {e : TypeId} {fz : Nat × Nat} (hn : szOf c.P t = some n) (hx : VRel σ W x x') (hu : okv x = true) (hl : (cellsOf x).length = n)
    (hk : W.heap[k]? = some (.cells arr e fz)) (hp : p + n ≤ arr.size) (hf : ∀ o, p ≤ o → (fz.1 ≤ o && o < fz.2) = false) :
    (storeVar t ⟨k, p, none⟩ x').run c.P W = .ok () (upd W k (.cells (putA arr p x'.cells.toList) e fz)) := by
  have hc := cells_rel hx hu
  have hsz : x'.cells.size = n := by have := hc.1; simp at this; omega
  have h1 : ∀ v ∈ x'.cells.toList, v.oneCell' = true := by
    intro v hv
    obtain ⟨i, hi, he⟩ := List.mem_iff_getElem.1 hv
    have hi' : i < (cellsOf x).length := by rw [hc.1]; exact hi
    have hq := hc.2 i _ v (List.getElem?_eq_getElem hi') (by rw [List.getElem?_eq_getElem hi, he])
    exact okc_one hq.2 hq.1
  unfold storeVar
  simp only [Sem.run_bind, run_size hn, Result.andThen_ok]
  rw [if_neg (by simp [hsz])]
  simpa using run_storeCells k e fz x'.cells.toList p arr W hk (by simpa [hsz] using hp) hf h1 p 0 (by omega)

theorem storeAt_run (R : Rl c N S β σ W st a.tmps) {lo : Nat} {t : TypeId} {e : Ent} {x : V} {y x' : Value} {st' : St} (he : ER β σ W e y) (hx : VRel σ W x x') (h : storeAt c lo st t e x = some st') :
    ∃ W', (Instr.storeAt t y x').run c.P W = .ok () W' ∧ Rl c N S β σ W' st' a.tmps := by
  unfold storeAt at h
  simp only [Option.bind_eq_bind] at h
  have h9 := Option.bind_eq_some_iff.1 h; clear h; obtain ⟨n, hn, h⟩ := h9
  split at h
  · cases h
  rename_i hc
  simp only [ne_eq, not_or, Decidable.not_not, Bool.not_eq_true'] at hc
  obtain ⟨hl, ho⟩ := hc
  have hu : okv x = true := by simpa using ho
  have hcx := cells_rel hx hu
  split at h
  · -- a box of the frame's own
    rename_i b off
    have h9 := Option.bind_eq_some_iff.1 h; clear h; obtain ⟨cs0, hcs0, h⟩ := h9
    have h9 := Option.bind_eq_some_iff.1 h; clear h; obtain ⟨cs, hw, h⟩ := h9
    cases h
    obtain ⟨k, hk, rfl⟩ := he
    obtain ⟨k', arr, e, h1, h2, h3, h4⟩ := R.fr.lb b cs0 hcs0
    rw [hk] at h1; cases h1
    obtain ⟨o1, o2, o3, o4⟩ := R.fr.own b k hk
    obtain ⟨w0, w1, w2, w3, w4⟩ := wr_spec hw
    have hp : off + n ≤ arr.size := by omega
    have hsz : x'.cells.toList.length = n := by rw [← hcx.1, hl]
    have M := Mo.upd (σ := σ) (arr' := putA arr off x'.cells.toList) h2 o3 (putA_size (by omega))
    refine ⟨_, by simpa [Instr.storeAt, Instr.sureAddr] using storeVar_run hn hx hu hl h2 hp (by intro o _; simp), ?_⟩
    have ne_of : ∀ cc, hosted σ st.h cc → cc ≠ k := by rintro cc hh rfl; exact o4 hh
    refine ⟨⟨R.fr.size, fun t => (R.fr.env t).mono M, ?_, ?_, R.fr.inj⟩, ?_, ?_, R.glo.mono M⟩
    · intro t' cs' hcs'
      rw [getB_setB hcs0] at hcs'
      by_cases hbt : b = t'
      · subst hbt
        rw [if_pos rfl] at hcs'; cases hcs'
        refine ⟨k, _, e, hk, upd_at o2, by rw [putA_size (by omega), w1]; exact h3, fun i v hv => ?_⟩
        by_cases c1 : i < off
        · rw [w3 i c1] at hv
          obtain ⟨q, hq, r⟩ := h4 i v hv
          exact ⟨q, by rw [putA_lo (by omega) c1]; exact hq, r.mono M⟩
        · by_cases c2 : i < off + n
          · obtain ⟨j, rfl⟩ : ∃ j, i = off + j := ⟨i - off, by omega⟩
            rw [w2 j (by omega)] at hv
            obtain ⟨q, hq, r⟩ := hcx.get hv
            exact ⟨q, by rw [putA_in (by omega) (by omega)]; exact hq, r.mono M⟩
          · rw [w4 i (by omega)] at hv
            obtain ⟨q, hq, r⟩ := h4 i v hv
            exact ⟨q, by rw [putA_hi (by omega) (by omega)]; exact hq, r.mono M⟩
      · rw [if_neg hbt] at hcs'
        obtain ⟨k', arr', e', a1, a2, a3, a4⟩ := R.fr.lb t' cs' hcs'
        have : k' ≠ k := by rintro rfl; exact hbt (R.fr.inj _ _ _ hk a1)
        exact ⟨k', arr', e', a1, by rw [upd_ne this]; exact a2, a3, fun i v hv => let ⟨q, hq, r⟩ := a4 i v hv; ⟨q, hq, r.mono M⟩⟩
    · intro t' k' hk'
      obtain ⟨a1, a2, a3, a4⟩ := R.fr.own t' k' hk'
      exact ⟨a1, by simpa [upd] using a2, a3, a4⟩
    · constructor
      · intro id cs' cc d hid hl'
        obtain ⟨arr', e', a1, a2, a3, a4⟩ := R.inv.box id cs' cc d hid hl'
        exact ⟨arr', e', by rw [upd_ne (ne_of cc ⟨id, _, d, hid, rfl, hl'⟩)]; exact a1, a2, fun i v hv => let ⟨q, hq, r⟩ := a3 i v hv; ⟨q, hq, r.mono M⟩, a4⟩
      · intro id cc d hid hl'
        obtain ⟨a1, arr', e', fz, a2, a3⟩ := R.inv.tip id cc d hid hl'
        exact ⟨a1, arr', e', fz, by rw [upd_ne (ne_of cc ⟨id, _, d, hid, rfl, hl'⟩)]; exact a2, a3⟩
      · intro id es cc d hid hq hl'
        obtain ⟨a1, ob, a2, a3⟩ := R.inv.map id es cc d hid hq hl'
        exact ⟨a1, ob, by rw [upd_ne (ne_of cc ⟨id, _, d, hid, O.opq_live hq, hl'⟩)]; exact a2, a3.mono M⟩
      · exact R.inv.inj
      · intro cc m hm
        obtain ⟨arr', e', fz, a1, a2⟩ := R.inv.rsz cc m hm
        have : cc ≠ k := by rintro rfl; rw [o3] at hm; cases hm
        exact ⟨arr', e', fz, by rw [upd_ne this]; exact a1, a2⟩
      · intro id cc d hl'
        obtain ⟨a1, a2⟩ := R.inv.lsz id cc d hl'
        exact ⟨by simpa [upd] using a1, a2⟩
    · exact R.stp.own M rfl rfl rfl (by simp [upd]) (fun k' hk' => upd_ne (by omega))
  · -- an object
    rename_i b off
    split at h
    · cases h
    have h9 := Option.bind_eq_some_iff.1 h; clear h; obtain ⟨cs0, hcs0, h⟩ := h9
    have h9 := Option.bind_eq_some_iff.1 h; clear h; obtain ⟨cs, hw, h⟩ := h9
    cases h
    obtain ⟨k, d, hk, rfl⟩ := VRel.ptr_iff.1 he
    have hb : st.h[b]? = some (.cells cs0) := by
      unfold cellsAt at hcs0
      split at hcs0
      · rename_i q hq; cases hcs0; exact hq
      · cases hcs0
    obtain ⟨arr, e, h2, h3, h4, o3⟩ := R.inv.box b cs0 k d hb hk
    have o2 := lt_of_heap h2
    obtain ⟨w0, w1, w2, w3, w4⟩ := wr_spec hw
    have hp : d + off + n ≤ arr.size := by omega
    have hsz : x'.cells.toList.length = n := by rw [← hcx.1, hl]
    have M := Mo.upd (σ := σ) (arr' := putA arr (d + off) x'.cells.toList) h2 o3 (putA_size (by omega))
    refine ⟨_, by simpa [Instr.storeAt, Instr.sureAddr] using storeVar_run hn hx hu hl h2 hp (by intro o _; simp), ?_⟩
    have hlt : b < st.h.length := (List.getElem?_eq_some_iff.1 hb).1
    have live : ∀ (id : Nat) (o : O), (st.h.set b (.cells cs))[id]? = some o → o.live = true → ∃ o' : O, st.h[id]? = some o' ∧ o'.live = true := by
      intro id o ho hlv
      by_cases hid : b = id
      · subst hid; exact ⟨_, hb, rfl⟩
      · rw [List.getElem?_set_ne hid] at ho; exact ⟨o, ho, hlv⟩
    have ne_of : ∀ (id : Nat) (o : O) cc d', b ≠ id → st.h[id]? = some o → o.live = true → σ.loc id = some (cc, d') → cc ≠ k := by
      rintro id o cc d' hid ho hlv hl' rfl
      exact hid (R.inv.inj b id _ o cc d d' hb rfl ho hlv hk hl')
    refine Rl.step R (st := st) ?_ ?_
    · refine ⟨M, rfl, rfl, rfl, by simp [upd], by simp, fun cc hcc hn' => ⟨upd_ne ?_, rfl⟩, fun cc hcc hh => ?_, fun _ _ h _ => h⟩
      · rintro rfl; exact hn' ⟨b, _, d, hb, rfl, hk⟩
      · obtain ⟨id, o, d', g1, g2, g3⟩ := hh
        obtain ⟨o', g4, g5⟩ := live id o g1 g2
        exact ⟨id, o', d', g4, g5, g3⟩
    · constructor
      · intro id cs' cc d' hid hl'
        by_cases hbi : b = id
        · subst hbi
          rw [List.getElem?_set_self hlt] at hid; cases hid
          rw [hk] at hl'; cases hl'
          refine ⟨_, e, upd_at o2, by rw [putA_size (by omega), w1]; exact h3, fun i v hv => ?_, o3⟩
          by_cases c1 : i < off
          · rw [w3 i c1] at hv
            obtain ⟨q, hq, r⟩ := h4 i v hv
            exact ⟨q, by rw [putA_lo (by omega) (by omega)]; exact hq, r.mono M⟩
          · by_cases c2 : i < off + n
            · obtain ⟨j, rfl⟩ : ∃ j, i = off + j := ⟨i - off, by omega⟩
              rw [w2 j (by omega)] at hv
              obtain ⟨q, hq, r⟩ := hcx.get hv
              exact ⟨q, by rw [← Nat.add_assoc, putA_in (by omega) (by omega)]; exact hq, r.mono M⟩
            · rw [w4 i (by omega)] at hv
              obtain ⟨q, hq, r⟩ := h4 i v hv
              exact ⟨q, by rw [putA_hi (by omega) (by omega)]; exact hq, r.mono M⟩
        · rw [List.getElem?_set_ne hbi] at hid
          obtain ⟨arr', e', a1, a2, a3, a4⟩ := R.inv.box id cs' cc d' hid hl'
          exact ⟨arr', e', by rw [upd_ne (ne_of id _ cc d' hbi hid rfl hl')]; exact a1, a2, fun i v hv => let ⟨q, hq, r⟩ := a3 i v hv; ⟨q, hq, r.mono M⟩, a4⟩
      · intro id cc d' hid hl'
        have hbi : b ≠ id := by rintro rfl; rw [List.getElem?_set_self hlt] at hid; cases hid
        rw [List.getElem?_set_ne hbi] at hid
        obtain ⟨a1, arr', e', fz, a2, a3⟩ := R.inv.tip id cc d' hid hl'
        exact ⟨a1, arr', e', fz, by rw [upd_ne (ne_of id _ cc d' hbi hid rfl hl')]; exact a2, a3⟩
      · intro id es cc d' hid hq hl'
        have hbi : b ≠ id := by rintro rfl; rw [List.getElem?_set_self hlt] at hid; cases hid; cases hq
        rw [List.getElem?_set_ne hbi] at hid
        obtain ⟨a1, ob, a2, a3⟩ := R.inv.map id es cc d' hid hq hl'
        exact ⟨a1, ob, by rw [upd_ne (ne_of id _ cc d' hbi hid (O.opq_live hq) hl')]; exact a2, a3.mono M⟩
      · intro id id' o o' cc d1 d2 g1 g2 g3 g4 g5 g6
        obtain ⟨p, p1, p2⟩ := live id o g1 g2
        obtain ⟨q, q1, q2⟩ := live id' o' g3 g4
        exact R.inv.inj id id' p q cc d1 d2 p1 p2 q1 q2 g5 g6
      · intro cc m hm
        obtain ⟨arr', e', fz, a1, a2⟩ := R.inv.rsz cc m hm
        have : cc ≠ k := by rintro rfl; rw [o3] at hm; cases hm
        exact ⟨arr', e', fz, by rw [upd_ne this]; exact a1, a2⟩
      · intro id cc d' hl'
        obtain ⟨a1, a2⟩ := R.inv.lsz id cc d' hl'
        exact ⟨by simpa [upd] using a1, by simpa using a2⟩
  · cases h
end
end Go.AM
namespace Go.AM
section
variable {c : Cx} {N : Nat} {S : Snap} {β : Nat → Option Nat} {σ : Sg} {W : World} {st : St} {a : Act}

theorem Mo.drw : Mo σ W σ (drw W) := ⟨fun _ _ h => h, fun _ n h => ⟨n, h, Nat.le_refl _⟩, fun _ _ _ _ _ => rfl, fun _ => Nat.le_refl _, fun _ _ _ => rfl⟩
theorem Inv.drw {h : H} (I : Inv σ h W) : Inv σ h (drw W) where
  box id cs k d h1 h2 := let ⟨arr, e, a1, a2, a3, a4⟩ := I.box id cs k d h1 h2; ⟨arr, e, a1, a2, fun i v hv => let ⟨y, hy, r⟩ := a3 i v hv; ⟨y, hy, r.mono Mo.drw⟩, a4⟩
  tip := I.tip
  map id es k d h1 h2 h3 := let ⟨a1, ob, a2, a3⟩ := I.map id es k d h1 h2 h3; ⟨a1, ob, a2, a3.mono Mo.drw⟩
  inj := I.inj
  rsz := I.rsz
  lsz := I.lsz
theorem Step.drw {h : H} : Step σ h W σ h (drw W) := ⟨Mo.drw, rfl, rfl, rfl, Nat.le_refl _, Nat.le_refl _, fun _ _ _ => ⟨rfl, rfl⟩, fun _ _ h => h, fun _ _ h _ => h⟩

theorem growBy_le (n : Nat) : ∀ (r k : Nat), Builtin.growBy n r k ≤ max k (n + (n + 768) / 4)
  | 0, k => by simp [Builtin.growBy]; omega
  | r + 1, k => by
    unfold Builtin.growBy
    split
    · omega
    · have := growBy_le n r (k + (k + 768) / 4)
      have : (k + 768) / 4 ≤ (n + 768) / 4 := Nat.div_le_div_right (by omega)
      omega
theorem nextcap_le {n k : Nat} (h : k < n) : Builtin.nextslicecap n k ≤ 3 * n := by
  unfold Builtin.nextslicecap
  split
  · omega
  · split
    · omega
    · have := growBy_le n 4 k
      omega

/-- What is appended, as the machine reads it. -/
theorem newV_run {w : Nat} {y : V} {y' : Value} {new : List V} (h : newV w y = some new) (hy : VRel σ W y y') (h0 : 0 < w) : (Builtin.lenOf y').run c.P W = .ok new.length W ∧
    (∀ e ∈ new, (cellsOf e).length = w) ∧ ∃ ys : List Value, L2 (Ck (VRel σ W)) (new.flatMap cellsOf) ys ∧ ∀ W', W'.heap = W.heap → (Builtin.firstCells w new.length y').run c.P W' = .ok ys.toArray W' := by
  unfold newV at h
  split at h
  · rename_i s
    obtain ⟨rfl, _⟩ := VRel.s_iff.1 hy
    split at h
    · rename_i hw
      cases h
      subst hw
      refine ⟨by simp [Builtin.lenOf], fun e he => by obtain ⟨b, _, rfl⟩ := List.mem_map.1 he; rfl, ⟨s.data.toList.map fun b => .int .u8 b.toNat, ?_, fun W' _ => ?_⟩⟩
      rotate_left
      · simp only [Builtin.firstCells]
        have : (s.extract 0 (s.data.toList.map fun b => V.s (.int .u8 b.toNat)).length).data = s.data := by
          rw [ByteArray.data_extract]; apply Array.ext'; simp only [List.length_map, Array.toList_extract]; simp; exact List.take_of_length_le (Nat.le_of_eq rfl)
        rw [this]
        simp only [Sem.run_pure]
        congr 1; apply Array.ext'; simp
      · rw [flat_single (fun e he => by obtain ⟨b, _, rfl⟩ := List.mem_map.1 he; rfl)]
        refine ⟨by simp, fun i p q hp hq => ?_⟩
        simp only [List.getElem?_map] at hp hq
        obtain ⟨b, hb, rfl⟩ := Option.map_eq_some_iff.1 hp
        rw [hb] at hq; simp at hq; subst hq
        exact ⟨rfl, VRel.s_iff.2 ⟨rfl, rfl⟩⟩
    · cases h
  · obtain ⟨⟨tk, l⟩, hl, rfl⟩ := Option.map_eq_some_iff.1 h
    unfold asl at hl
    split at hl
    · split at hl
      · rename_i hw
        cases hl
        obtain ⟨base, cap, rfl, n0, _, _, h4⟩ := row_Cl hy
        by_cases hn : l = []
        · subst hn
          refine ⟨rfl, fun e he => by simp at he, ⟨[], by simp [L2], fun W' _ => ?_⟩⟩
          cases base <;> simp [Builtin.firstCells, loadCells, loadCellsFrom]
        · obtain ⟨cc, o, rfl, _, w1, hc⟩ := h4 hn
          obtain rfl := hw.resolve_right (fun q => hn q.1)
          obtain ⟨ys, y1, y2, y3⟩ := hc.take_list _ (Nat.le_refl _)
          rw [List.take_length] at y2
          refine ⟨rfl, w1, ys, y2, fun W' hW' => ?_⟩
          have := run_loadCells' (P := c.P) (w := W') (c := cc) (o := o) (ys := ys) (fun i y hy => by
            have e := y3 i y hy
            rw [← e]; simp [cellAt, World.cell?, hW'])
          simp only [Builtin.firstCells]
          rw [flat_len w1] at y1
          rw [← y1]
          exact this
      · cases hl
    · cases hl

theorem zeroCells_size (z : Array Value) (n : Nat) : (Builtin.zeroCells z n).size = n * z.size := by simp [Builtin.zeroCells]

/-- append, where there is no room. -/
theorem append_grows {ts : Array TypeId} {ty : TypeId} {t e : TypeId} {w by_ n ln cap : Nat} {z : V} {base : Option Addr} {y' : Value} {old new : List Value}
    (ht : ts[0]? = some t) (ht1 : plainArg c ts[1]? = true) (he : elemOf? c.P t = some e) (hw : szOf c.P e = some w) (hb : ((c.P.info? e).map (·.bytes)).getD 0 = by_) (hb0 : by_ ≠ 0) (hz : zeroOf c.P e = some z) (hzl : (cellsOf z).length = w)
    (hl : (Builtin.lenOf y').run c.P W = .ok n W) (hcap : cap < ln + n) (hbig : (ln + n) * by_ ≤ mostLen)
    (ho : ∀ W', W'.heap = W.heap → (Builtin.firstCells w ln (.slice base ln cap)).run c.P W' = .ok old.toArray W') (hn : ∀ W', W'.heap = W.heap → (Builtin.firstCells w n y').run c.P W' = .ok new.toArray W')
    (hol : old.length = ln * w) (hnl : new.length = n * w) :
    ∃ nc arr, (Builtin.append_ ts ty #[.slice base ln cap, y']).run c.P W = .ok (.slice (some ⟨W.heap.size, 0, none⟩) (ln + n) nc) (psh (drw W) (.cells arr e)) ∧ (ln + n ≤ nc ∧ nc ≤ maxLen) ∧ nc * w ≤ arr.size ∧ (∀ i, i < (ln + n) * w → arr[i]? = (old ++ new)[i]?) := by
  obtain ⟨z', rz, vz, uz⟩ := run_zero (σ := ⟨fun _ => none, fun _ => none⟩) (W := drw W) hz (drw W)
  have cz := cells_rel vz uz
  have hzs : z'.cells.size = w := by have := cz.1; simp at this; omega
  have hel : c.P.underlying t = some (.slice e) := by
    unfold elemOf? at he
    split at he
    · rename_i e' hu; cases he; exact hu
    · cases he
  obtain ⟨i, hi⟩ : ∃ i, c.P.info? e = some i := by
    cases hi : c.P.info? e with
    | none => simp [szOf, hi] at hw
    | some i => exact ⟨i, rfl⟩
  have hbi : i.bytes = by_ := by rw [hi] at hb; simpa using hb
  obtain ⟨t1, u1, h1, h1u, h1n⟩ : ∃ t1 u1, ts[1]? = some t1 ∧ c.P.underlying t1 = some u1 ∧ ((∃ q, u1 = .slice q) ∨ u1 = .string) := by
    unfold plainArg at ht1
    cases h : ts[1]? with
    | none => rw [h] at ht1; simp at ht1
    | some t1 =>
      rw [h] at ht1
      simp only [Option.bind_some] at ht1
      cases hu : c.P.underlying t1 with
      | none => rw [hu] at ht1; simp at ht1
      | some u1 => refine ⟨t1, u1, rfl, hu, ?_⟩; rw [hu] at ht1; cases u1 <;> first | (exact .inl ⟨_, rfl⟩) | (exact .inr rfl) | simp at ht1
  have hcut : ∃ nc, (ln + n ≤ nc ∧ nc ≤ maxLen) ∧ (Question.appendCap (ln + n) cap e).cut (W.tape W.drawn (Question.appendCap (ln + n) cap e)) = nc := ⟨_, ⟨by simp [Question.cut], by
    have hn63 : ln + n < 2 ^ 63 := by
      have : (ln + n) * 1 ≤ (ln + n) * by_ := Nat.mul_le_mul_left _ (by omega)
      unfold mostLen at hbig; omega
    simp only [Question.cut]
    have := Nat.mod_lt (W.tape W.drawn (Question.appendCap (ln + n) cap e)) (show 0 < 2 ^ 63 - (ln + n) by omega)
    unfold maxLen; omega⟩, rfl⟩
  obtain ⟨nc, hnc, hcut⟩ := hcut
  have hmul : Builtin.nextslicecap (ln + n) cap * by_ ≤ 3 * mostLen := by
    refine Nat.le_trans (Nat.mul_le_mul_right _ (nextcap_le hcap)) ?_
    rw [Nat.mul_assoc]; exact Nat.mul_le_mul_left _ hbig
  have hbig2 : ¬ (Builtin.nextslicecap (ln + n) cap * i.bytes > 2 ^ 48) := by rw [hbi]; unfold mostLen at hmul; omega
  refine ⟨nc, old.toArray ++ new.toArray ++ Builtin.zeroCells z'.cells (nc - (ln + n)), ?_, hnc, ?_, ?_⟩
  · rcases h1n with ⟨q, rfl⟩ | rfl
    all_goals
      unfold Builtin.append_
      simp only [ht, h1, List.getElem?_toArray, List.getElem?_cons_zero, List.getElem?_cons_succ, Sem.run_bind, run_und hel, run_und h1u, Result.andThen_ok, run_size hw, Sem.run_pure, Bool.false_eq_true, if_false, Bool.not_false, if_true, hl, false_or]
      rw [if_neg (by omega)]
      simp only [Sem.run_bind, run_info hi, Result.andThen_ok, hbi]
      rw [if_neg (by rintro ⟨_, h⟩; exact hb0 (by simpa using h))]
      simp only [hbi] at hbig2
      simp only [Sem.run_bind, run_info hi, Result.andThen_ok, hbi]
      rw [if_neg hbig2]
      simp only [Sem.run_bind, run_choose, Question.forced, Bool.false_eq_true, if_false, Result.andThen_ok, run_askRoom, run_info hi, hcut]
      have d1 := ho { W with drawn := W.drawn + 1 } rfl
      have d2 := hn { W with drawn := W.drawn + 1 } rfl
      have d3 : (zeroValue e).run c.P { W with drawn := W.drawn + 1 } = .ok z' { W with drawn := W.drawn + 1 } := rz
      simp only [d1, d2, d3, Result.andThen_ok, newRow, Sem.run_bind, run_newObj, Sem.run_pure]
      rfl
  · simp only [Array.size_append, List.size_toArray, zeroCells_size, hzs, hol, hnl]
    have hnc1 := hnc.1
    have : (nc - (ln + n)) * w + (ln + n) * w = nc * w := by rw [← Nat.add_mul]; congr 1; omega
    rw [← Nat.add_mul]; omega
  · intro i hi
    rw [Array.getElem?_append_left (by simp [hol, hnl, ← Nat.add_mul]; exact hi)]
    simp
end
end Go.AM
namespace Go.AM
section
variable {c : Cx} {N : Nat} {S : Snap} {β : Nat → Option Nat} {σ : Sg} {W : World} {st : St} {a : Act}

theorem elemOf_spec {t e : TypeId} (he : elemOf? c.P t = some e) : c.P.underlying t = some (.slice e) := by
  unfold elemOf? at he
  split at he
  · rename_i e' hu; cases he; exact hu
  · cases he
theorem plain_spec {t1 : Option TypeId} (h : plainArg c t1 = true) : ∃ t u, t1 = some t ∧ c.P.underlying t = some u ∧ ((∃ q, u = .slice q) ∨ u = .string) := by
  unfold plainArg at h
  cases t1 with
  | none => simp at h
  | some t =>
    simp only [Option.bind_some] at h
    cases hu : c.P.underlying t with
    | none => rw [hu] at h; simp at h
    | some u => refine ⟨t, u, rfl, hu, ?_⟩; rw [hu] at h; cases u <;> first | (exact .inl ⟨_, rfl⟩) | (exact .inr rfl) | simp at h

/-- append, where there is room. -/
theorem append_fits {ts : Array TypeId} {ty : TypeId} {t e : TypeId} {w n ln cap : Nat} {base : Option Addr} {y' : Value} {new : List Value} {W' : World}
    (ht : ts[0]? = some t) (ht1 : plainArg c ts[1]? = true) (he : elemOf? c.P t = some e) (hw : szOf c.P e = some w)
    (hl : (Builtin.lenOf y').run c.P W = .ok n W) (hcap : ln + n ≤ cap) (hn : (Builtin.firstCells w n y').run c.P W = .ok new.toArray W)
    (hst : ∀ p, base = some p → (storeCells (p.add (ln * w)) new).run c.P W = .ok () W') (hnb : base = none → W' = W) :
    (Builtin.append_ ts ty #[.slice base ln cap, y']).run c.P W = .ok (.slice base (ln + n) cap) W' := by
  have hel := elemOf_spec he
  obtain ⟨t1, u1, h1, h1u, h1n⟩ := plain_spec ht1
  rcases h1n with ⟨q, rfl⟩ | rfl
  all_goals
    unfold Builtin.append_
    simp only [ht, h1, List.getElem?_toArray, List.getElem?_cons_zero, List.getElem?_cons_succ, Sem.run_bind, run_und hel, run_und h1u, Result.andThen_ok, run_size hw, Sem.run_pure, Bool.false_eq_true, if_false, Bool.not_false, if_true, hl, false_or]
    rw [if_pos hcap]
    cases base with
    | none => rw [hnb rfl]; simp only [Sem.run_bind, hn, Result.andThen_ok, Sem.run_pure]
    | some p => simp only [Sem.run_bind, hn, Result.andThen_ok, Sem.run_pure, hst p rfl]

theorem flat_append (l m : List V) : (l ++ m).flatMap cellsOf = l.flatMap cellsOf ++ m.flatMap cellsOf := List.flatMap_append

theorem L2.append {R : V → Value → Prop} {l m : List V} {p q : List Value} (h : L2 R l p) (k : L2 R m q) : L2 R (l ++ m) (p ++ q) := by
  refine ⟨by simp [h.1, k.1], fun i x y hx hy => ?_⟩
  by_cases hi : i < l.length
  · rw [List.getElem?_append_left hi] at hx
    rw [List.getElem?_append_left (by rw [← h.1]; exact hi)] at hy
    exact h.2 i x y hx hy
  · rw [List.getElem?_append_right (by omega)] at hx
    rw [List.getElem?_append_right (by rw [← h.1]; omega), ← h.1] at hy
    exact k.2 _ x y hx hy

/-- The ticket is taken: what is appended lies behind the row. -/
theorem tip_in_place (I : Inv σ st.h W) {id k d : Nat} {arr : Array Value} {e : TypeId} {fz : Nat × Nat} {new : List Value} (hid : st.h[id]? = some .tip) (hl : σ.loc id = some (k, d))
    (hk : W.heap[k]? = some (.cells arr e fz)) (hp : d + new.length ≤ arr.size) (hf : ∀ o, d ≤ o → (fz.1 ≤ o && o < fz.2) = false) :
    let σ' := σ.add k (some (d + new.length)) (some (st.h.length, d + new.length))
    let W' := upd W k (.cells (putA arr d new) e fz)
    Inv σ' (st.h.set id .dead ++ [.tip]) W' ∧ Step σ st.h W σ' (st.h.set id .dead ++ [.tip]) W' := by
  intro σ' W'
  obtain ⟨hr, _⟩ := I.tip id k d hid hl
  have hlt : id < st.h.length := (List.getElem?_eq_some_iff.1 hid).1
  have hkk := lt_of_heap hk
  have M : Mo σ W σ' W' := {
    loc := fun i p hp => by
      have := (I.lsz i p.1 p.2 hp).2
      simp only [σ', Sg.add]; rw [if_neg (by omega)]; exact hp
    reg := fun cc n hn => by
      by_cases hc : cc = k
      · subst hc; rw [hr] at hn; cases hn; exact ⟨d + new.length, by simp [σ', Sg.add], by omega⟩
      · exact ⟨n, by simp [σ', Sg.add, hc, hn], Nat.le_refl _⟩
    cel := fun cc n o hn ho => by
      by_cases hc : cc = k
      · subst hc; rw [hr] at hn; cases hn
        rw [cellAt_of (upd_at hkk), cellAt_of hk, putA_lo hp ho]
      · exact cellAt_congr (upd_ne hc)
    bsz := fun cc => by
      by_cases hc : cc = k
      · subst hc; rw [bsize_of hk, bsize_of (upd_at hkk), putA_size hp]; exact Nat.le_refl _
      · rw [bsize_congr (upd_ne hc)]; exact Nat.le_refl _
    bse := fun cc n _ => by
      by_cases hc : cc = k
      · subst hc; rw [bsize_of hk, bsize_of (upd_at hkk), putA_size hp]
      · rw [bsize_congr (upd_ne hc)] }
  -- an object that lives behind it: one that lived ahead, elsewhere; or the new ticket
  have key : ∀ (i : Nat) (o : O) cc dd, (st.h.set id .dead ++ [.tip])[i]? = some o → o.live = true → σ'.loc i = some (cc, dd) → (st.h[i]? = some o ∧ σ.loc i = some (cc, dd) ∧ cc ≠ k ∧ i ≠ id) ∨ (i = st.h.length ∧ o = .tip ∧ cc = k ∧ dd = d + new.length) := by
    intro i o cc dd ho hlv hl'
    by_cases hi : i = st.h.length
    · subst hi
      rw [List.getElem?_append_right (by simp)] at ho
      simp at ho
      simp [σ', Sg.add] at hl'
      exact .inr ⟨rfl, ho.symm, hl'.1.symm, hl'.2.symm⟩
    · have hl2 : σ.loc i = some (cc, dd) := by simpa [σ', Sg.add, hi] using hl'
      have hi2 := (I.lsz i cc dd hl2).2
      rw [List.getElem?_append_left (by simpa using hi2)] at ho
      by_cases hii : id = i
      · subst hii; rw [List.getElem?_set_self hlt] at ho; cases ho; cases hlv
      · rw [List.getElem?_set_ne hii] at ho
        refine .inl ⟨ho, hl2, ?_, Ne.symm hii⟩
        rintro rfl
        exact hii (I.inj id i .tip o cc d dd hid rfl ho hlv hl hl2)
  refine ⟨?_, ⟨M, rfl, rfl, rfl, by simp [W', upd], by simp, fun cc hcc hn => ?_, fun cc hcc hh => ?_, fun i p hp hi => ?_⟩⟩
  · constructor
    · intro i cs cc dd ho hl'
      rcases key i _ cc dd ho rfl hl' with ⟨h1, h2, h3, _⟩ | ⟨_, h2, _⟩
      · obtain ⟨arr', e', a1, a2, a3, a4⟩ := I.box i cs cc dd h1 h2
        exact ⟨arr', e', by rw [upd_ne h3]; exact a1, a2, fun j v hv => let ⟨y, hy, r⟩ := a3 j v hv; ⟨y, hy, r.mono M⟩, by simp [σ', Sg.add, h3, a4]⟩
      · cases h2
    · intro i cc dd ho hl'
      rcases key i _ cc dd ho rfl hl' with ⟨h1, h2, h3, _⟩ | ⟨h1, _, h3, h4⟩
      · obtain ⟨a1, arr', e', fz', a2, a3⟩ := I.tip i cc dd h1 h2
        exact ⟨by simp [σ', Sg.add, h3, a1], arr', e', fz', by rw [upd_ne h3]; exact a2, a3⟩
      · subst h3; subst h4
        exact ⟨by simp [σ', Sg.add], _, e, fz, upd_at hkk, fun o ho => hf o (by omega)⟩
    · intro i es cc dd ho hq hl'
      rcases key i _ cc dd ho (O.opq_live hq) hl' with ⟨h1, h2, h3, _⟩ | ⟨_, h2, _⟩
      · obtain ⟨a1, ob, a2, a3⟩ := I.map i es cc dd h1 hq h2
        exact ⟨by simp [σ', Sg.add, h3, a1], ob, by rw [upd_ne h3]; exact a2, a3.mono M⟩
      · subst h2; cases hq
    · intro i i' o o' cc d1 d2 g1 g2 g3 g4 g5 g6
      rcases key i o cc d1 g1 g2 g5 with ⟨h1, h2, h3, _⟩ | ⟨h1, _, h3, _⟩ <;> rcases key i' o' cc d2 g3 g4 g6 with ⟨k1, k2, k3, _⟩ | ⟨k1, _, k3, _⟩
      · exact I.inj i i' o o' cc d1 d2 h1 g2 k1 g4 h2 k2
      · exact absurd k3 h3
      · exact absurd h3 k3
      · omega
    · intro cc n hn
      by_cases hc : cc = k
      · subst hc
        have : n = d + new.length := by simp [σ', Sg.add] at hn; exact hn.symm
        exact ⟨_, e, fz, upd_at hkk, by rw [putA_size hp, this]; exact hp⟩
      · have hn' : σ.reg cc = some n := by simpa [σ', Sg.add, hc] using hn
        obtain ⟨arr', e', fz', a1, a2⟩ := I.rsz cc n hn'
        exact ⟨arr', e', fz', by rw [upd_ne hc]; exact a1, a2⟩
    · intro i cc dd hl'
      by_cases hi : i = st.h.length
      · subst hi
        simp [σ', Sg.add] at hl'
        exact ⟨by rw [← hl'.1]; simpa [W', upd] using hkk, by simp⟩
      · have hl2 : σ.loc i = some (cc, dd) := by simpa [σ', Sg.add, hi] using hl'
        obtain ⟨a1, a2⟩ := I.lsz i cc dd hl2
        exact ⟨by simpa [W', upd] using a1, by simp; omega⟩
  · have hc : cc ≠ k := by rintro rfl; exact hn ⟨id, _, d, hid, rfl, hl⟩
    exact ⟨upd_ne hc, by simp [σ', Sg.add, hc]⟩
  · obtain ⟨i, o, dd, h1, h2, h3⟩ := hh
    rcases key i o cc dd h1 h2 h3 with ⟨k1, k2, _⟩ | ⟨_, _, k3, _⟩
    · exact ⟨i, o, dd, k1, h2, k2⟩
    · subst k3; exact ⟨id, _, d, hid, rfl, hl⟩
  · simp only [σ', Sg.add] at hp
    rw [if_neg (by omega)] at hp; exact hp

/-- A box that is its row's last: what is appended lies behind it. -/
theorem box_in_place (I : Inv σ st.h W) {id k d : Nat} {cs ncs : List V} {arr : Array Value} {e : TypeId} {new : List Value} (hid : st.h[id]? = some (.cells cs)) (hl : σ.loc id = some (k, d))
    (hk : W.heap[k]? = some (.cells arr e (0, 0))) (hp : d + cs.length + new.length ≤ arr.size) (hn : L2 (Ck (VRel σ W)) ncs new) :
    let σ' := σ.add k none (some (st.h.length, d))
    let W' := upd W k (.cells (putA arr (d + cs.length) new) e (0, 0))
    Inv σ' (st.h.set id .dead ++ [.cells (cs ++ ncs)]) W' ∧ Step σ st.h W σ' (st.h.set id .dead ++ [.cells (cs ++ ncs)]) W' ∧ σ'.loc st.h.length = some (k, d) := by
  intro σ' W'
  obtain ⟨arr0, e0, hk0, hs0, hc0, hr⟩ := I.box id cs k d hid hl
  rw [hk] at hk0; cases hk0
  have hlt : id < st.h.length := (List.getElem?_eq_some_iff.1 hid).1
  have hkk := lt_of_heap hk
  have M : Mo σ W σ' W' := {
    loc := fun i p hp => by
      have := (I.lsz i p.1 p.2 hp).2
      simp only [σ', Sg.add]; rw [if_neg (by omega)]; exact hp
    reg := fun cc n hn => by
      have hc : cc ≠ k := by rintro rfl; rw [hr] at hn; cases hn
      exact ⟨n, by simp [σ', Sg.add, hc, hn], Nat.le_refl _⟩
    cel := fun cc n o hn ho => by
      have hc : cc ≠ k := by rintro rfl; rw [hr] at hn; cases hn
      exact cellAt_congr (upd_ne hc)
    bsz := fun cc => by
      by_cases hc : cc = k
      · subst hc; rw [bsize_of hk, bsize_of (upd_at hkk), putA_size hp]; exact Nat.le_refl _
      · rw [bsize_congr (upd_ne hc)]; exact Nat.le_refl _
    bse := fun cc n _ => by
      by_cases hc : cc = k
      · subst hc; rw [bsize_of hk, bsize_of (upd_at hkk), putA_size hp]
      · rw [bsize_congr (upd_ne hc)] }
  have key : ∀ (i : Nat) (o : O) cc dd, (st.h.set id .dead ++ [O.cells (cs ++ ncs)])[i]? = some o → o.live = true → σ'.loc i = some (cc, dd) → (st.h[i]? = some o ∧ σ.loc i = some (cc, dd) ∧ cc ≠ k ∧ i ≠ id) ∨ (i = st.h.length ∧ o = .cells (cs ++ ncs) ∧ cc = k ∧ dd = d) := by
    intro i o cc dd ho hlv hl'
    by_cases hi : i = st.h.length
    · subst hi
      rw [List.getElem?_append_right (by simp)] at ho
      simp at ho
      simp [σ', Sg.add] at hl'
      exact .inr ⟨rfl, ho.symm, hl'.1.symm, hl'.2.symm⟩
    · have hl2 : σ.loc i = some (cc, dd) := by simpa [σ', Sg.add, hi] using hl'
      have hi2 := (I.lsz i cc dd hl2).2
      rw [List.getElem?_append_left (by simpa using hi2)] at ho
      by_cases hii : id = i
      · subst hii; rw [List.getElem?_set_self hlt] at ho; cases ho; cases hlv
      · rw [List.getElem?_set_ne hii] at ho
        refine .inl ⟨ho, hl2, ?_, Ne.symm hii⟩
        rintro rfl
        exact hii (I.inj id i _ o cc d dd hid rfl ho hlv hl hl2)
  refine ⟨?_, ⟨M, rfl, rfl, rfl, by simp [W', upd], by simp, fun cc hcc hn => ?_, fun cc hcc hh => ?_, fun i p hp hi => ?_⟩, by simp [σ', Sg.add]⟩
  · constructor
    · intro i cs' cc dd ho hl'
      rcases key i _ cc dd ho rfl hl' with ⟨h1, h2, h3, _⟩ | ⟨_, h2, h3, h4⟩
      · obtain ⟨arr', e', a1, a2, a3, a4⟩ := I.box i cs' cc dd h1 h2
        exact ⟨arr', e', by rw [upd_ne h3]; exact a1, a2, fun j v hv => let ⟨y, hy, r⟩ := a3 j v hv; ⟨y, hy, r.mono M⟩, by simp [σ', Sg.add, h3, a4]⟩
      · cases h2
        subst h3; subst h4
        refine ⟨_, e, upd_at hkk, by rw [putA_size hp, List.length_append, hn.1]; omega, fun j v hv => ?_, by simp [σ', Sg.add]⟩
        by_cases hj : j < cs.length
        · rw [List.getElem?_append_left hj] at hv
          obtain ⟨y, hy, r⟩ := hc0 j v hv
          exact ⟨y, by rw [putA_lo hp (by omega)]; exact hy, r.mono M⟩
        · obtain ⟨q, rfl⟩ : ∃ q, j = cs.length + q := ⟨j - cs.length, by omega⟩
          rw [List.getElem?_append_right (by omega), Nat.add_sub_cancel_left] at hv
          have hq : q < new.length := by rw [← hn.1]; exact (List.getElem?_eq_some_iff.1 hv).1
          obtain ⟨y, hy, r⟩ := hn.get hv
          exact ⟨y, by rw [← Nat.add_assoc, putA_in hp hq]; exact hy, r.mono M⟩
    · intro i cc dd ho hl'
      rcases key i _ cc dd ho rfl hl' with ⟨h1, h2, h3, _⟩ | ⟨h1, h2, h3, h4⟩
      · obtain ⟨a1, arr', e', fz', a2, a3⟩ := I.tip i cc dd h1 h2
        exact ⟨by simp [σ', Sg.add, h3, a1], arr', e', fz', by rw [upd_ne h3]; exact a2, a3⟩
      · cases h2
    · intro i es cc dd ho hq hl'
      rcases key i _ cc dd ho (O.opq_live hq) hl' with ⟨h1, h2, h3, _⟩ | ⟨_, h2, _⟩
      · obtain ⟨a1, ob, a2, a3⟩ := I.map i es cc dd h1 hq h2
        exact ⟨by simp [σ', Sg.add, h3, a1], ob, by rw [upd_ne h3]; exact a2, a3.mono M⟩
      · subst h2; cases hq
    · intro i i' o o' cc d1 d2 g1 g2 g3 g4 g5 g6
      rcases key i o cc d1 g1 g2 g5 with ⟨h1, h2, h3, _⟩ | ⟨h1, _, h3, _⟩ <;> rcases key i' o' cc d2 g3 g4 g6 with ⟨k1, k2, k3, _⟩ | ⟨k1, _, k3, _⟩
      · exact I.inj i i' o o' cc d1 d2 h1 g2 k1 g4 h2 k2
      · exact absurd k3 h3
      · exact absurd h3 k3
      · omega
    · intro cc n hn
      by_cases hc : cc = k
      · subst hc; simp [σ', Sg.add] at hn
      · have hn' : σ.reg cc = some n := by simpa [σ', Sg.add, hc] using hn
        obtain ⟨arr', e', fz', a1, a2⟩ := I.rsz cc n hn'
        exact ⟨arr', e', fz', by rw [upd_ne hc]; exact a1, a2⟩
    · intro i cc dd hl'
      by_cases hi : i = st.h.length
      · subst hi
        simp [σ', Sg.add] at hl'
        exact ⟨by rw [← hl'.1]; simpa [W', upd] using hkk, by simp⟩
      · have hl2 : σ.loc i = some (cc, dd) := by simpa [σ', Sg.add, hi] using hl'
        obtain ⟨a1, a2⟩ := I.lsz i cc dd hl2
        exact ⟨by simpa [W', upd] using a1, by simp; omega⟩
  · have hc : cc ≠ k := by rintro rfl; exact hn ⟨id, _, d, hid, rfl, hl⟩
    exact ⟨upd_ne hc, by simp [σ', Sg.add, hc]⟩
  · obtain ⟨i, o, dd, h1, h2, h3⟩ := hh
    rcases key i o cc dd h1 h2 h3 with ⟨k1, k2, _⟩ | ⟨_, _, k3, _⟩
    · exact ⟨i, o, dd, k1, h2, k2⟩
    · subst k3; exact ⟨id, _, d, hid, rfl, hl⟩
  · simp only [σ', Sg.add] at hp
    rw [if_neg (by omega)] at hp; exact hp

/-- An object goes. -/
theorem Inv.kill {h : H} (I : Inv σ h W) (id : Nat) : Inv σ (h.set id .dead) W ∧ Step σ h W σ (h.set id .dead) W := by
  have key : ∀ (i : Nat) (o : O), (h.set id .dead)[i]? = some o → o.live = true → h[i]? = some o := by
    intro i o ho hlv
    by_cases hi : id = i
    · subst hi
      rw [List.getElem?_set] at ho
      split at ho
      · split at ho
        · cases ho; cases hlv
        · cases ho
      · exact ho
    · rwa [List.getElem?_set_ne hi] at ho
  refine ⟨⟨fun i cs cc d h1 h2 => I.box i cs cc d (key i _ h1 rfl) h2, fun i cc d h1 h2 => I.tip i cc d (key i _ h1 rfl) h2, fun i es cc d h1 hq h2 => I.map i es cc d (key i _ h1 (O.opq_live hq)) hq h2,
    fun i i' o o' cc d d' g1 g2 g3 g4 g5 g6 => I.inj i i' o o' cc d d' (key i o g1 g2) g2 (key i' o' g3 g4) g4 g5 g6, I.rsz, fun i cc d hl => let ⟨a, b⟩ := I.lsz i cc d hl; ⟨a, by simpa using b⟩⟩,
    ⟨.refl _ _, rfl, rfl, rfl, Nat.le_refl _, by simp, fun _ _ _ => ⟨rfl, rfl⟩, fun cc _ ⟨i, o, d, h1, h2, h3⟩ => ⟨i, o, d, key i o h1 h2, h2, h3⟩, fun _ _ h _ => h⟩⟩
end
end Go.AM
namespace Go.AM
section
variable {c : Cx} {N : Nat} {S : Snap} {β : Nat → Option Nat} {σ : Sg} {W : World} {st : St} {a : Act}

/-- A slice's own cells, as the machine reads them. -/
theorem asl_run {w : Nat} {x : V} {x' : Value} {tk : Tk} {l : List V} (h : asl w x = some (tk, l)) (hx : VRel σ W x x') : ∃ base cap, x' = .slice base l.length cap ∧ l.length ≤ cap ∧ (tk = .full → cap = l.length) ∧
    (l ≠ [] → 0 < w ∧ ∀ e ∈ l, (cellsOf e).length = w) ∧
    (∃ ys : List Value, L2 (Ck (VRel σ W)) (l.flatMap cellsOf) ys ∧ ∀ W', W'.heap = W.heap → (Builtin.firstCells w l.length x').run c.P W' = .ok ys.toArray W') ∧
    (∀ id, tk = .tip id → ∃ k o, base = some ⟨k, o, none⟩ ∧ σ.loc id = some (k, o + l.length * w) ∧ o + cap * w ≤ bsize W k ∧ x = .vsl tk w l ∧ 0 < w ∧ (∀ e ∈ l, (cellsOf e).length = w) ∧ Cl (Ck (VRel σ W)) W k o (l.flatMap cellsOf)) := by
  unfold asl at h
  split at h
  · rename_i t w' l'
    split at h
    · rename_i hw
      cases h
      obtain ⟨base, cap, rfl, n0, n1, c1, c2, c3, c4⟩ := VRel.vsl_iff.1 hx
      have hf : (if t = .nil then Tk.full else t) = .full → cap = l.length := by
        intro e
        by_cases ht : t = .nil
        · have hb := n1 ht
          have := n0 hb
          omega
        · rw [if_neg ht] at e; exact c2 e
      refine ⟨_, cap, rfl, c1, hf, fun hl => let ⟨_, _, _, _, w0, w1, _⟩ := c4 hl; (by rw [← hw.resolve_right (fun q => hl q.1)]; exact ⟨w0, w1⟩), ?_, fun id hid => ?_⟩
      · by_cases hn : l = []
        · subst hn
          refine ⟨[], by simp [L2], fun W' _ => ?_⟩
          cases base <;> simp [Builtin.firstCells, loadCells, loadCellsFrom]
        · obtain ⟨cc, o, hh, rfl, w0, w1, w2, w3, w4, w5⟩ := c4 hn
          obtain rfl := hw.resolve_right (fun q => hn q.1)
          obtain ⟨ys, y1, y2, y3⟩ := w4.take_list _ (Nat.le_refl _)
          rw [List.take_length] at y2
          refine ⟨ys, y2, fun W' hW' => ?_⟩
          have := run_loadCells' (P := c.P) (w := W') (c := cc) (o := o) (ys := ys) (fun i y hy => by
            have e := y3 i y hy
            rw [← e]; simp [cellAt, World.cell?, hW'])
          simp only [Builtin.firstCells]
          rw [flat_len w1] at y1
          rw [← y1]
          exact this
      · have ht : t ≠ .nil := by rintro rfl; simp at hid
        rw [if_neg ht] at hid ⊢
        have hww : w' = w := by
          rcases hw with e | ⟨e, e0 | e0⟩
          · exact e
          · obtain ⟨cc, o, b1, b2, b3, b4⟩ := c3 e id hid; omega
          · rw [hid] at e0; cases e0
        subst hww
        by_cases hn : l = []
        · obtain ⟨cc, o, b1, b2, b3, b4⟩ := c3 hn id hid
          subst hn
          exact ⟨cc, o, b1, by simpa using b3, b4, rfl, b2, (fun e he => by cases he), (fun i v hv => by simp at hv)⟩
        obtain ⟨cc, o, hh, rfl, w0, w1, w2, w3, w4, w5⟩ := c4 hn
        obtain ⟨p1, p2⟩ := w5 id hid
        exact ⟨cc, o, rfl, p1, p2, rfl, w0, w1, w4⟩
    · cases h
  · cases h

theorem L2.ck_one {l : List V} {ys : List Value} (h : L2 (Ck (VRel σ W)) l ys) : ∀ v ∈ ys, v.oneCell' = true := by
  intro v hv
  obtain ⟨i, hi, he⟩ := List.mem_iff_getElem.1 hv
  have hi' : i < l.length := by rw [h.1]; exact hi
  have hq := h.2 i _ v (List.getElem?_eq_getElem hi') (by rw [List.getElem?_eq_getElem hi, he])
  exact okc_one hq.2 hq.1

theorem appendV_run {lo : Nat} {m : Bool} {t : TypeId} {x y v : V} {x' y' : Value} {st' : St} {ts : Array TypeId} {ty : TypeId} (h : appendV c lo st m t x y = some (v, st')) (hx : VRel σ W x x') (hy : VRel σ W y y')
    (I : Inv σ st.h W) (ht : ts[0]? = some t) (ht1 : plainArg c ts[1]? = true) :
    ∃ z W' σ', (Builtin.append_ ts ty #[x', y']).run c.P W = .ok z W' ∧ VRel σ' W' v z ∧ Inv σ' st'.h W' ∧ Step σ st.h W σ' st'.h W' ∧ st' = { st with h := st'.h } := by
  unfold appendV at h
  simp only [Option.bind_eq_bind] at h
  have h9 := Option.bind_eq_some_iff.1 h; clear h; obtain ⟨e, he, h⟩ := h9
  have h9 := Option.bind_eq_some_iff.1 h; clear h; obtain ⟨w, hw, h⟩ := h9
  generalize hby : ((c.P.info? e).map (·.bytes)).getD 0 = by_ at h
  have h9 := Option.bind_eq_some_iff.1 h; clear h; obtain ⟨z, hz, h⟩ := h9
  split at h
  · cases h
  rename_i hc
  simp only [ne_eq, not_or, Decidable.not_not] at hc
  obtain ⟨w0, b0, hzl⟩ := hc
  have w0' : 0 < w := by omega
  have h9 := Option.bind_eq_some_iff.1 h; clear h; obtain ⟨new, hnew, h⟩ := h9
  obtain ⟨hlen, hnw, ys, y2, y1⟩ := newV_run (c := c) hnew hy w0'
  have yl : ys.length = new.length * w := by rw [← y2.1, flat_len hnw]
  -- the row that a new one begins with, and what is appended
  have grows : ∀ {ocs : List V} {olds : List Value} {ln cap : Nat} {base : Option Addr}, ocs.length = ln * w → L2 (Ck (VRel σ W)) ocs olds → cap < ln + new.length → (ln + new.length) * by_ ≤ mostLen →
      (∀ W', W'.heap = W.heap → (Builtin.firstCells w ln (.slice base ln cap)).run c.P W' = .ok olds.toArray W') →
      ∃ nc arr, (Builtin.append_ ts ty #[.slice base ln cap, y']).run c.P W = .ok (.slice (some ⟨W.heap.size, 0, none⟩) (ln + new.length) nc) (psh (drw W) (.cells arr e)) ∧ ln + new.length ≤ nc ∧ nc * w ≤ arr.size ∧
        (∀ (i : Nat) v, (ocs ++ new.flatMap cellsOf)[i]? = some v → ∃ q, arr[i]? = some q ∧ Ck (VRel σ (drw W)) v q) := by
    intro ocs olds ln cap base how hor hcap hbig hrun
    have hl2 : olds.length = ln * w := by rw [← hor.1, how]
    obtain ⟨nc, arr, h1, ⟨h2, _⟩, h3, h4⟩ := append_grows (ty := ty) (base := base) (y' := y') (old := olds) (new := ys) ht ht1 he hw hby b0 hz hzl hlen hcap hbig hrun y1 hl2 yl
    refine ⟨nc, arr, h1, h2, h3, fun i v hv => ?_⟩
    have hi : i < (ln + new.length) * w := by
      have := (List.getElem?_eq_some_iff.1 hv).1
      rw [List.length_append, how, flat_len hnw, ← Nat.add_mul] at this; exact this
    obtain ⟨q, hq, r⟩ := (hor.append y2).get hv
    exact ⟨q, by rw [h4 i hi]; exact hq, r.mono Mo.drw⟩
  split at h
  · -- a slice in a box
    rename_i b off n w'
    obtain ⟨k, d, cap, hl, rfl, c1, c2, c3, c4⟩ := VRel.msl_iff.1 hx
    split at h
    · rename_i hemp
      cases h
      have hn0 : new = [] := by simpa using hemp
      subst hn0
      obtain rfl : ys = [] := by cases ys with | nil => rfl | cons _ _ => simp [L2] at y2
      exact ⟨_, W, σ, append_fits (n := 0) (new := []) ht ht1 he hw hlen (by omega) (y1 W rfl) (fun p _ => rfl) (fun _ => rfl), hx, I, Step.refl _ _ _, rfl⟩
    · rename_i hemp
      split at h
      · cases h
      rename_i hc
      simp only [ne_eq, not_or, Decidable.not_not, Nat.not_lt] at hc
      obtain ⟨_, rfl, rfl⟩ := hc
      have h9 := Option.bind_eq_some_iff.1 h; clear h; obtain ⟨cs, hcs, h⟩ := h9
      split at h
      · cases h
      rename_i hc
      simp only [ne_eq, not_or, Decidable.not_not, Nat.not_lt] at hc
      obtain ⟨hcl, hbig⟩ := hc
      cases h
      have hb : st.h[b]? = some (.cells cs) := by
        unfold cellsAt at hcs
        split at hcs
        · rename_i q hq; cases hcs; exact hq
        · cases hcs
      obtain ⟨arr, e', hk, hs, hcc, hr⟩ := I.box b cs k d hb hl
      rw [bsize_of hk] at c4
      have hpos : 0 < new.length := by cases new with | nil => simp at hemp | cons _ _ => simp
      have hsl : (List.set st.h b O.dead).length = st.h.length := by simp
      by_cases hfit : n + new.length ≤ cap
      · have hroom : d + cs.length + ys.length ≤ arr.size := by
          have : (n + new.length) * w' ≤ cap * w' := Nat.mul_le_mul_right _ hfit
          rw [Nat.add_mul] at this; rw [hcl, yl]; omega
        obtain ⟨I', s', hl'⟩ := box_in_place I hb hl hk hroom y2
        refine ⟨_, _, _, append_fits (n := new.length) (new := ys) ht ht1 he hw hlen hfit (y1 W rfl) (fun p hp => ?_) (fun h => by cases h), ?_, I', s', rfl⟩
        · cases hp
          rw [add_mk]
          exact run_storeCells k e' (0, 0) ys (d + cs.length) arr W hk hroom (by intro o _; simp) y2.ck_one _ 0 (by rw [hcl]; omega)
        · refine VRel.msl_iff.2 ⟨k, d, cap, by rw [hsl]; exact hl', rfl, hfit, c2, by omega, ?_⟩
          rw [bsize_of (upd_at (lt_of_heap hk)), putA_size hroom]; exact c4
      · have hold : L2 (Ck (VRel σ W)) cs ((arr.toList.drop d).take cs.length) := by
          refine ⟨by simp; omega, fun i p q hp hq => ?_⟩
          have hi := (List.getElem?_eq_some_iff.1 hp).1
          rw [List.getElem?_take_of_lt hi, List.getElem?_drop] at hq
          obtain ⟨y, hy', r⟩ := hcc i p hp
          have : q = y := by
            have : arr.toList[d + i]? = some y := by simpa using hy'
            rw [this] at hq; exact (Option.some.inj hq).symm
          rw [this]; exact r
        have hol : ((arr.toList.drop d).take cs.length).length = n * w' := by rw [← hold.1, hcl]
        obtain ⟨nc, narr, hrun, hnc, hncs, hnarr⟩ := grows (ln := n) (cap := cap) (base := some ⟨k, d + 0, none⟩) hcl hold (Nat.lt_of_not_le hfit) hbig (fun W' hW' => by
            have := run_loadCells' (P := c.P) (w := W') (c := k) (o := d) (ys := (arr.toList.drop d).take cs.length) (fun i y hy => by
              have hi := (List.getElem?_eq_some_iff.1 hy).1
              rw [List.getElem?_take_of_lt (by rw [← hold.1] at hi; exact hi), List.getElem?_drop] at hy
              rw [cellAt_of (by rw [hW']; exact hk)]; simpa using hy)
            simp only [Builtin.firstCells, Nat.add_zero]
            rw [hol] at this
            exact this)
        obtain ⟨I1, s1⟩ := I.kill b
        have hn1 : (cs ++ new.flatMap cellsOf).length ≤ narr.size := by
          rw [List.length_append, hcl, flat_len hnw, ← Nat.add_mul]
          exact Nat.le_trans (Nat.mul_le_mul_right _ hnc) hncs
        obtain ⟨I2, s2, l2⟩ := new_box (st := { st with h := st.h.set b .dead }) I1.drw (cs ++ new.flatMap cellsOf) narr e hn1 hnarr
        refine ⟨_, _, _, hrun, ?_, I2, (s1.trans Step.drw).trans s2, rfl⟩
        refine VRel.msl_iff.2 ⟨W.heap.size, 0, nc, l2, rfl, hnc, c2, by omega, ?_⟩
        rw [show bsize (psh (drw W) (.cells narr e)) W.heap.size = narr.size from bsize_of (psh_new (w := drw W))]; simpa using hncs
  · -- a slice of trees
    have h9 := Option.bind_eq_some_iff.1 h; clear h; obtain ⟨⟨tk, l⟩, hasl, h⟩ := h9
    obtain ⟨base, cap, rfl, d1, d2, d3, ⟨olds, ho1, ho2⟩, d5⟩ := asl_run (c := c) hasl hx
    simp only at h
    split at h
    · rename_i hemp
      cases h
      have hn0 : new = [] := by simpa using hemp
      subst hn0
      obtain rfl : ys = [] := by cases ys with | nil => rfl | cons _ _ => simp [L2] at y2
      exact ⟨_, W, σ, append_fits (n := 0) (new := []) ht ht1 he hw hlen (by omega) (y1 W rfl) (fun p _ => rfl) (fun _ => rfl), hx, I, Step.refl _ _ _, rfl⟩
    rename_i hemp
    split at h
    · cases h
    rename_i hbig
    simp only [Nat.not_lt] at hbig
    have hpos : 0 < new.length := by cases new with | nil => simp at hemp | cons _ _ => simp
    have hlw : ∀ q ∈ l, (cellsOf q).length = w := fun q hq => (d3 (by rintro rfl; simp at hq)).2 q hq
    have hall : ∀ q ∈ l ++ new, (cellsOf q).length = w := fun q hq => by rcases List.mem_append.1 hq with h | h; exact hlw q h; exact hnw q h
    have hne : l ++ new ≠ [] := by intro e; have := congrArg List.length e; simp at this; simp [this.2] at hpos
    have hlen2 : (l ++ new).length = l.length + new.length := by simp
    split at h
    · cases h
    · cases h
    · -- full: a new row
      have hcap := d2 rfl
      subst hcap
      obtain ⟨nc, narr, hrun, hnc, hncs, hnarr⟩ := grows (base := base) (flat_len hlw) ho1 (by omega) hbig ho2
      rw [← flat_append] at hnarr
      split at h
      · cases h
        have hn1 : ((l ++ new).flatMap cellsOf).length ≤ narr.size := by rw [flat_len hall, hlen2]; exact Nat.le_trans (Nat.mul_le_mul_right _ hnc) hncs
        obtain ⟨I2, s2, l2⟩ := new_box (st := st) I.drw ((l ++ new).flatMap cellsOf) narr e hn1 hnarr
        refine ⟨_, _, _, hrun, ?_, I2, Step.drw.trans s2, rfl⟩
        refine VRel.msl_iff.2 ⟨W.heap.size, 0, nc, l2, rfl, hnc, w0', by omega, ?_⟩
        rw [show bsize (psh (drw W) (.cells narr e)) W.heap.size = narr.size from bsize_of (psh_new (w := drw W))]; simpa using hncs
      · cases h
        obtain ⟨I2, s2, r2⟩ := new_row (st := st) I.drw (l ++ new) w narr e w0' hall (by rw [hlen2]; exact Nat.le_trans (Nat.mul_le_mul_right _ hnc) hncs) hnarr true nc (by rw [hlen2]; exact hnc) hncs (fun h => by cases h)
        rw [← hlen2] at hrun
        exact ⟨_, _, _, hrun, r2, I2, Step.drw.trans s2, rfl⟩
    · -- a ticket
      rename_i id
      split at h
      · cases h
      split at h
      · rename_i hid
        cases h
        obtain ⟨k, o, rfl, hl, hcs, rfl, _, hlw', hcl⟩ := d5 id rfl
        obtain ⟨hr, arr, e', fz, hk, hf⟩ := I.tip id k _ hid hl
        have hsl : (List.set st.h id O.dead).length = st.h.length := by simp
        by_cases hfit : l.length + new.length ≤ cap
        · rw [bsize_of hk] at hcs
          have hroom : o + l.length * w + ys.length ≤ arr.size := by
            have : (l.length + new.length) * w ≤ cap * w := Nat.mul_le_mul_right _ hfit
            rw [Nat.add_mul] at this; rw [yl]; omega
          obtain ⟨I', s'⟩ := tip_in_place I hid hl hk hroom hf
          refine ⟨_, _, _, append_fits (n := new.length) (new := ys) ht ht1 he hw hlen hfit (y1 W rfl) (fun p hp => ?_) (fun h => by cases h), ?_, I', s', rfl⟩
          · cases hp
            rw [add_mk]
            exact run_storeCells k e' fz ys (o + l.length * w) arr W hk hroom hf y2.ck_one _ 0 (by omega)
          · rw [← hlen2]
            have hfit' : (l ++ new).length ≤ cap := by rw [hlen2]; exact hfit
            refine VRel.vsl_iff.2 ⟨some ⟨k, o, none⟩, cap, rfl, fun h => (by cases h), fun h => (by cases h), hfit', ?_, fun h => absurd h hne, fun _ => ⟨k, o, o + l.length * w + ys.length, rfl, w0', hall, by simp [Sg.add], by rw [hlen2, Nat.add_mul, yl]; omega, ?_, fun i hi => ?_⟩⟩
            · intro h; cases h
            · intro i v hv
              rw [flat_append] at hv
              by_cases hi : i < (l.flatMap cellsOf).length
              · rw [List.getElem?_append_left hi] at hv
                obtain ⟨y, hy', r⟩ := hcl i v hv
                rw [flat_len hlw] at hi
                refine ⟨y, ?_, r.mono s'.mo⟩
                rw [cellAt_of hk] at hy'
                rw [cellAt_of (upd_at (lt_of_heap hk)), putA_lo hroom (by omega)]; exact hy'
              · rw [List.getElem?_append_right (by omega)] at hv
                obtain ⟨y, hy', r⟩ := y2.get hv
                refine ⟨y, ?_, r.mono s'.mo⟩
                have hj : i - (l.flatMap cellsOf).length < ys.length := (List.getElem?_eq_some_iff.1 hy').1
                rw [flat_len hlw] at hj hy' hi
                rw [cellAt_of (upd_at (lt_of_heap hk)), show o + i = o + l.length * w + (i - l.length * w) by omega, putA_in hroom hj]; exact hy'
            · cases hi
              refine ⟨?_, by rw [bsize_of (upd_at (lt_of_heap hk)), putA_size hroom]; exact hcs⟩
              rw [hsl, hlen2, Nat.add_mul, ← yl]
              simp [Sg.add, Nat.add_assoc]
        · obtain ⟨nc, narr, hrun, hnc, hncs, hnarr⟩ := grows (base := some ⟨k, o, none⟩) (flat_len hlw) ho1 (Nat.lt_of_not_le hfit) hbig ho2
          rw [← flat_append] at hnarr
          obtain ⟨I1, s1⟩ := I.kill id
          obtain ⟨I2, s2, r2⟩ := new_row (st := { st with h := st.h.set id .dead }) I1.drw (l ++ new) w narr e w0' hall (by rw [hlen2]; exact Nat.le_trans (Nat.mul_le_mul_right _ hnc) hncs) hnarr true nc (by rw [hlen2]; exact hnc) hncs (fun h => by cases h)
          rw [← hlen2] at hrun
          refine ⟨_, _, _, hrun, ?_, I2, (s1.trans Step.drw).trans s2, rfl⟩
          exact r2
      · cases h
end
end Go.AM

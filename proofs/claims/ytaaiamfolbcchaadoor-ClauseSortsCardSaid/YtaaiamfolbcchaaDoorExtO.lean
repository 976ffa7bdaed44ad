/- The contract of slices.Compact at findings: runs of equal ones become one, in place. -/
import Derived.Test.YtaaiamfolbcchaaDoorExtN
import Derived.Test.YtaaiamfolbcchaaDoorX21
import Derived.Shelf.SlicesE.Compact
namespace Go.Proofs.YtaaiamfolbcchaaDoor.Ext
set_option linter.unusedVariables false
set_option linter.unusedSimpArgs false
open Go.Lib (keeps compactUpTo CompInv compactUpTo_all range_map_get keeps_lt_one keeps_pos keeps_neg)
open Go.RowKit Go.Shelf Go.Proofs.YtaaiamfolbcchaaDoorW.PrintWords Go.Proofs.YtaaiamfolbcchaaDoorW.PrintLast Go.Proofs.YtaaiamfolbcchaaDoor.X5 Go.Proofs.YtaaiamfolbcchaaDoor.X2
attribute [local go_sem high] eqA62

instance : DecidableEq SF := fun x y => decidable_of_iff (x.f0 = y.f0 ∧ x.f1 = y.f1 ∧ x.f2 = y.f2) ⟨fun h => by cases x; cases y; simp_all, fun h => by subst h; exact ⟨rfl, rfl, rfl⟩⟩
theorem eqF_ne {x y : SF} (h : x ≠ y) : (x.f0 == y.f0 && (x.f1 == y.f1 && x.f2 == y.f2)) = false := by
  cases hb : (x.f0 == y.f0 && (x.f1 == y.f1 && x.f2 == y.f2)) with
  | false => rfl
  | true =>
    simp only [Bool.and_eq_true, beq_iff_eq] at hb
    exact absurd (by cases x; cases y; simp_all) h
theorem list_get! {d : Array SF} {i : Nat} (h : i < d.size) : d.toList[i]? = some d[i]! := by
  rw [Array.getElem?_toList, Array.getElem?_eq_getElem h, getElem!_pos d i h]
def Under (g : Nat) (w w' : World) : Prop := ∀ B, B ≤ g → B ≤ w.heap.size → Below B w w'
theorem Under.refl (g : Nat) (w : World) : Under g w w := fun B _ _ => Below.refl B w
theorem Under.drewN {g : Nat} {w w' : World} (h : Under g w w') (q : Nat) : Under g w (w'.drewN q) := fun B h1 h2 => pw_below_drewN (h B h1 h2) q
theorem Under.drew {g : Nat} {w w' : World} (h : Under g w w') : Under g w w'.drew := fun B h1 h2 => (h B h1 h2).drew
theorem Under.set {g j : Nat} {v : Value} {w w' : World} (h : Under g w w') : Under g w (w'.setCell ⟨g, j, none⟩ v) := fun B h1 h2 => (h B h1 h2).setCell h1 _
theorem all_kept {d : Array SF} (h : ∀ j, j < d.size → keeps d j = true) : compactUpTo d d.size = d.toList := by rw [compactUpTo_all d _ h, range_map_get]
theorem setCells_keep (g : Nat) : ∀ (zs : List Value) (o : Nat) (w : World) (cur : Array Value) (t : TypeId), w.heap[g]? = some (.cells cur t (0, 0)) →
    ∃ cur', (w.setCells g o zs).heap[g]? = some (.cells cur' t (0, 0)) ∧ cur'.size = cur.size ∧ ∀ i, i < o → cur'[i]? = cur[i]?
  | [], o, w, cur, t, h => ⟨cur, h, rfl, fun _ _ => rfl⟩
  | z :: zs, o, w, cur, t, h => by
    obtain ⟨cur', h1, h2, h3⟩ := setCells_keep g zs (o + 1) (w.setCell ⟨g, o, none⟩ z) _ t (blk_put h o z rfl)
    refine ⟨cur', h1, by rw [h2]; simp, fun i hi => ?_⟩
    rw [h3 i (by omega), Array.getElem?_setIfInBounds_ne (by omega)]
theorem setCells_under (g : Nat) : ∀ (zs : List Value) (o : Nat) (w w' : World), Under g w w' → Under g w (w'.setCells g o zs)
  | [], _, _, _, h => h
  | z :: zs, o, w, w', h => setCells_under g zs (o + 1) w _ h.set
theorem zeros_ok (m : Nat) : (Builtin.zeroCells #[.int .i64 0, .int .i64 0, .int .i64 0] m).toList.length = m * 3 ∧ ∀ v ∈ (Builtin.zeroCells #[.int .i64 0, .int .i64 0, .int .i64 0] m).toList, v.oneCell' = true := by
  refine ⟨by simp [Builtin.zeroCells], fun v hv => ?_⟩
  simp only [Builtin.zeroCells] at hv
  simp at hv
  obtain ⟨i, _, rfl⟩ := hv
  have : i % 3 = 0 ∨ i % 3 = 1 ∨ i % 3 = 2 := by omega
  rcases this with h | h | h <;> simp [h, Value.oneCell']
theorem clear_run {w : World} {g n cap : Nat} {xs : List SF} (h : Rowed w g n cap xs) (kk : Nat) (hk : kk < n) (ty : TypeId) :
    (Builtin.clear_ #[56] ty #[.slice (some ⟨g, kk * 3, none⟩) (n - kk) (cap - kk)]).run Tryd.prog w = .ok (.tuple #[]) (w.setCells g (kk * 3) (Builtin.zeroCells #[.int .i64 0, .int .i64 0, .int .i64 0] (n - kk)).toList) := by
  obtain ⟨z1, z2⟩ := zeros_ok (n - kk)
  obtain ⟨cur, h1, h2, h3, h4, h5⟩ := h
  have hst := run_storeCells_cells (P := Tryd.prog) g (kk * 3) (Builtin.zeroCells #[.int .i64 0, .int .i64 0, .int .i64 0] (n - kk)).toList 0 w (fun j hj => by
    rw [blk_cell h1, Array.getElem?_eq_getElem (by rw [h2]; omega)]; rfl) (fun j hj => blk_frozen h1 _) z2
  simp only [Nat.add_zero] at hst
  obtain ⟨m, hm⟩ : ∃ m, n - kk = m + 1 := ⟨n - kk - 1, by omega⟩
  rw [hm] at hst ⊢
  simp [Builtin.clear_, run_underlying Tryd.underlying56, Tryd.zeroValue62, Value.cells, hst]
theorem Rowed.done {w : World} {g n cap kk : Nat} {dk d : Array SF} (h : Rowed w g n cap dk.toList) (hI : CompInv d d.size kk dk) (hd : d.size = n) (zs : List Value) : Rowed (w.setCells g (kk * 3) zs) g kk cap (compactUpTo d d.size) := by
  have hk := hI.lt
  have hs := hI.size
  obtain ⟨cur, h1, h2, h3, h4, h5⟩ := h
  obtain ⟨cur', e1, e2, e3⟩ := setCells_keep g zs (kk * 3) w cur _ h1
  refine ⟨cur', e1, by rw [e2, h2], hI.len, by omega, fun i x hx j hj => ?_⟩
  have hi : i < kk := by rw [← hI.len]; exact (List.getElem?_eq_some_iff.1 hx).1
  rw [hI.low i hi] at hx
  rw [e3 _ (by omega)]
  exact h5 i x (by rw [list_get! (by omega)]; exact hx) j hj
set_option maxHeartbeats 4000000 in
set_option maxRecDepth 1000000 in
theorem compact_calls (w : World) (g cap : Nat) (d : Array SF) (h : Rowed w g d.size cap d.toList) (hn : d.size ≤ 1000000) :
    Calls Tryd.prog 89 #[.slice (some ⟨g, 0, none⟩) d.size cap] w fun e w' => e = .returned (.slice (some ⟨g, 0, none⟩) (compactUpTo d d.size).length cap) ∧
      Rowed w' g (compactUpTo d d.size).length cap (compactUpTo d d.size) ∧ Under g w w' := by
  have mixed : Tryd.prog.follows .mixedOrders = true := by kernel_rfl
  have hcap : d.size ≤ cap := by obtain ⟨_, _, _, _, e, _⟩ := h; exact e
  have HU := Aside0.mk (Under.refl g w)
  have HR := Aside0.mk h
  have HN := Aside0.mk hn
  clear h
  by_cases h2 : d.size < 2
  · go_enter Tryd.func89, Tryd.ntmps89
    go_wp2
    go_ret
    have e := all_kept (d := d) (fun j hj => keeps_lt_one d j (by omega))
    rw [e]
    exact ⟨by simp, by simpa using HR.out, HU.out⟩
  · go_enter Tryd.func89, Tryd.ntmps89
    go_wp2
    go_loopg [3] d.size (fun gg s3 wr => ∃ k : Nat, 1 ≤ k ∧ k ≤ d.size ∧ d.size - k ≤ gg ∧ s3 = .int .i64 k ∧ Aside0 (Rowed wr g d.size cap d.toList) ∧ Aside0 (Under g w wr) ∧ Aside0 (∀ j, j < k → keeps d j = true))
    case atStart => exact ⟨1, Nat.le_refl _, by omega, by omega, rfl, HR, HU, ⟨keeps_lt_one d⟩⟩
    case round =>
      clear HR HU
      obtain ⟨k, hk1, hk, hg, rfl, HR, HU, HK⟩ := hrel
      by_cases hlt : k < d.size
      · obtain ⟨⟨c0, c1, c2⟩, _⟩ := HR.out.cells (list_get! hlt)
        obtain ⟨⟨p0, p1, p2⟩, _⟩ := HR.out.cells (list_get! (show k - 1 < d.size by omega))
        generalize hx : d[k]! = x at c0 c1 c2
        generalize hy : d[k - 1]! = y at p0 p1 p2
        have B := Aside0.mk (show d[k]! = x ∧ d[k - 1]! = y from ⟨hx, hy⟩)
        clear hx hy
        by_cases hdup : x = y
        · subst hdup
          go_wp2_with fail
          go_region_o
          go_wp2
          clear c0 c1 c2 p0 p1 p2
          go_loopg [3, 5] d.size (fun gg s3 s5 wq => ∃ (kk k2 : Nat) (dk : Array SF), s3 = .int .i64 kk ∧ s5 = .int .i64 k2 ∧ 1 ≤ k2 ∧ k + k2 ≤ d.size ∧ d.size - (k + k2) ≤ gg ∧ Aside0 (Rowed wq g d.size cap dk.toList) ∧ Aside0 (Under g w wq) ∧ Aside0 (CompInv d (k + k2) kk dk))
          case atStart => exact ⟨k, 1, d, rfl, rfl, Nat.le_refl _, by omega, by omega, HR, ⟨HU.out.drew⟩, ⟨CompInv.start HK.out (keeps_neg (by omega) (by rw [B.out.1, B.out.2]))⟩⟩
          case round =>
            clear HR HU
            obtain ⟨kk, k2, dk, rfl, rfl, h1, hle, hg2, HR, HU, HI⟩ := hrel
            have hkk := HI.out.lt
            have hds := HI.out.size
            by_cases hlt2 : k + k2 < d.size
            · have cm := HR.out.cells (list_get! (show k + k2 < dk.size by omega))
              have cp := HR.out.cells (list_get! (show k + k2 - 1 < dk.size by omega))
              obtain ⟨⟨s0, s1, s2⟩, f0, f1, f2⟩ := HR.out.cells (list_get! (show kk < dk.size by omega))
              rw [HI.out.high (k + k2) (by omega), show (k + k2) * 3 = k * 3 + k2 * 3 by omega] at cm
              rw [HI.out.high (k + k2 - 1) (by omega), show (k + k2 - 1) * 3 = k * 3 + (k2 - 1) * 3 by omega] at cp
              obtain ⟨⟨m0, m1, m2⟩, _⟩ := cm
              obtain ⟨⟨l0, l1, l2⟩, _⟩ := cp
              generalize hu : d[k + k2]! = u at m0 m1 m2
              generalize hv : d[k + k2 - 1]! = v at l0 l1 l2
              generalize dk[kk]! = old at s0 s1 s2
              have C := Aside0.mk (show d[k + k2]! = u ∧ d[k + k2 - 1]! = v from ⟨hu, hv⟩)
              clear hu hv
              by_cases huv : u = v
              · subst huv
                go_wp2_with fail
                go_region_o
                go_wp2
                go_roundg (d.size - (k + (k2 + 1)))
                case measure => omega
                case rel => exact ⟨kk, k2 + 1, dk, rfl, by go_num, by omega, by omega, Nat.le_refl _, HR, ⟨HU.out.drew⟩, ⟨HI.out.skip (keeps_neg (by omega) (by rw [C.out.1, C.out.2]))⟩⟩
              · have hne := eqF_ne huv
                go_wp2_with fail
                go_region_o
                go_wp2
                go_roundg (d.size - (k + (k2 + 1)))
                case measure => omega
                case rel => exact ⟨kk + 1, k2 + 1, dk.setIfInBounds kk u, by go_num, by go_num, by omega, by omega, Nat.le_refl _, ⟨by rw [Array.toList_setIfInBounds]; exact Rowed.put HR.out (by omega) u⟩, ⟨HU.out.drew.set.set.set⟩, ⟨by have := HI.out.keep hlt2 (keeps_pos (by rw [C.out.1, C.out.2]; exact huv)); rwa [C.out.1] at this⟩⟩
            · have hend : k + k2 = d.size := by omega
              have hcl := fun ty => clear_run HR.out kk (by omega) ty
              generalize hzs : (Builtin.zeroCells #[.int .i64 0, .int .i64 0, .int .i64 0] (d.size - kk)).toList = zs at hcl
              clear hzs
              go_wp2
              go_ret
              have hI := HI.out
              rw [hend] at hI
              exact ⟨by rw [hI.len]; rfl, by rw [hI.len]; exact Rowed.done HR.out hI rfl zs, setCells_under g zs _ w _ HU.out⟩
        · have hne := eqF_ne hdup
          go_wp2_with fail
          go_region_o
          go_wp2
          go_roundg (d.size - (k + 1))
          case measure => omega
          case rel =>
            refine ⟨k + 1, by omega, by omega, Nat.le_refl _, by go_num, HR, ⟨HU.out.drew⟩, ⟨fun j hj => ?_⟩⟩
            by_cases e : j = k
            · subst e
              exact keeps_pos (by rw [B.out.1, B.out.2]; exact hdup)
            · exact HK.out j (by omega)
      · have hkd : k = d.size := by omega
        subst hkd
        go_wp2
        go_ret
        have e := all_kept HK.out
        rw [e]
        exact ⟨by simp, by simpa using HR.out, HU.out⟩
end Go.Proofs.YtaaiamfolbcchaaDoor.Ext

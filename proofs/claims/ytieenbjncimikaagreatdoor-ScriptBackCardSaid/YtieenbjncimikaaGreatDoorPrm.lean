/- The contracts of the library functions, and that the program is one of which the abstract machine speaks. No condition. -/
import Derived.Test.YtieenbjncimikaaGreatDoorCx
import Derived.Test.YtieenbjncimikaaGreatDoorAmD
import Derived.Test.YtieenbjncimikaaGreatDoorAmF
import Derived.Shelf.Strconv.Itoa3
import Derived.Test.YtieenbjncimikaaGreatDoorShelf
import Derived.Shelf.Spec.SlicesGrow
set_option linter.all false
open Go Go.AM Go.Proofs
namespace ZD
def wfF (fn : Func) : Bool := match fn.body with
  | some code => wfC fn.ntmps code && fn.name != "runtime.NumGoroutine"
  | none => true
theorem wf_all : Tryz.prog.funcs.toList.all wfF = true := by decide +kernel
theorem mixed : Tryz.prog.follows .mixedOrders = true := by decide +kernel
end ZD
open Go Go.AM Go.Proofs Go.AM.Pl Go.RowKit
set_option maxRecDepth 100000
set_option maxHeartbeats 4000000
namespace ZD
/-- What is asked of a primitive. -/
def PrimOk (f : FuncId) (g : List V → Option V) : Prop := (∀ xs W, (callFunc f xs).run cx.P W = .ok (.enter f xs) W) ∧ ∀ args v, g args = some v → ∀ (h : H) σ W (xs : Array Value), L2 (VRel σ W) args xs.toList → Inv σ h W → GlobOk cx σ W →
    Calls cx.P f xs W (fun e W' => ∃ z σ', e = .returned z ∧ VRel σ' W' v z ∧ Inv σ' h W' ∧ Step σ h W σ' h W')
theorem enters {f : FuncId} {fn : Func} {code : Code} (hf : cx.P.funcs[f]? = some fn) (hc : fn.body = some code) (hn : fn.name ≠ "runtime.NumGoroutine") : ∀ xs W, (callFunc f xs).run cx.P W = .ok (.enter f xs) W := by
  intro xs W
  simp only [callFunc, Sem.run_bind, run_program, Result.andThen_ok, hf]
  rw [if_neg (by simpa using hn)]
  simp [hc]
theorem str_of {σ : Sg} {W : World} {b : ByteArray} {x : Value} (h : VRel σ W (.s (.string b)) x) : x = .string b := (VRel.s_iff.1 h).1
theorem one_of {σ : Sg} {W : World} {a : V} {xs : Array Value} (h : L2 (VRel σ W) [a] xs.toList) : ∃ x, xs = #[x] ∧ VRel σ W a x := by
  obtain ⟨l⟩ := xs
  match l, h with
  | [x], h => exact ⟨x, rfl, h.2 0 a x rfl rfl⟩
theorem two_of {σ : Sg} {W : World} {a b : V} {xs : Array Value} (h : L2 (VRel σ W) [a, b] xs.toList) : ∃ x y, xs = #[x, y] ∧ VRel σ W a x ∧ VRel σ W b y := by
  obtain ⟨l⟩ := xs
  match l, h with
  | [x, y], h => exact ⟨x, y, rfl, h.2 0 a x rfl rfl, h.2 1 b y rfl rfl⟩
theorem three_of {σ : Sg} {W : World} {a b c : V} {xs : Array Value} (h : L2 (VRel σ W) [a, b, c] xs.toList) : ∃ x y z, xs = #[x, y, z] ∧ VRel σ W a x ∧ VRel σ W b y ∧ VRel σ W c z := by
  obtain ⟨l⟩ := xs
  match l, h with
  | [x, y, z], h => exact ⟨x, y, z, rfl, h.2 0 a x rfl rfl, h.2 1 b y rfl rfl, h.2 2 c z rfl rfl⟩
theorem back {σ : Sg} {h : H} {W W' : World} {v : V} {z : Value} (I : Inv σ h W) (b : RowKit.Below W.heap.size W W') (r : VRel σ W v z) : ∃ z' σ', Ending.returned z = .returned z' ∧ VRel σ' W' v z' ∧ Inv σ' h W' ∧ Step σ h W σ' h W' :=
  ⟨z, σ, rfl, r.mono (Mo.below I b), I.below b, .below I b⟩
theorem below_drewN (W : World) (n : Nat) : Below W.heap.size W (W.drewN n) := ⟨rfl, rfl, rfl, Nat.le_refl _, fun _ _ => rfl⟩
theorem below_grow (W : World) (n : Nat) (os : Array Obj) : Below W.heap.size W (Go.Sort.grow (W.drewN n) os) := ⟨rfl, rfl, rfl, by simp [Go.Sort.grow, World.drewN], fun k hk => by
  show (W.heap ++ os)[k]? = _
  rw [Array.getElem?_append_left hk]⟩
theorem p148 : PrimOk 148 pIndexByte := by
  refine ⟨enters (fn := Tryz.f148) (by rfl) (by rfl) (by decide), ?_⟩
  intro args v hv h σ W xs hx I hg
  unfold pIndexByte at hv
  split at hv
  · rename_i s c
    split at hv
    · cases hv
      obtain ⟨x, y, rfl, h1, h2⟩ := two_of hx
      obtain rfl := str_of h1
      obtain ⟨rfl, _⟩ := VRel.s_iff.1 h2
      refine (Tryz.strings_IndexByte s c W).mono ?_
      rintro e W' ⟨rfl, rfl⟩
      exact back I (.refl _ _) (VRel.s_iff.2 ⟨rfl, rfl⟩)
    · cases hv
  · cases hv
theorem tabIs {σ : Sg} {W : World} (hg : GlobOk cx σ W) : Lib.TabIs Tryz.prog W "internal/strconv.uint64pow10" .u64 Lib.pow10Tab := by
  obtain ⟨vs, rfl, hb⟩ := (hg.2 (1, fun vs => vs = Lib.pow10Tab.map fun z => Value.int .u64 z) (by simp [cx])).block
  obtain ⟨t, fz, hb⟩ := hb (by decide)
  unfold Lib.TabIs World.var?
  rw [show Tryz.prog.globalNamed "internal/strconv.uint64pow10" = some 1 by kernel_rfl]
  simp only [Option.bind_some, hb]
theorem p143 : PrimOk 143 pItoa := by
  refine ⟨enters (fn := Tryz.f143) (by rfl) (by rfl) (by decide), ?_⟩
  intro args v hv h σ W xs hx I hg
  unfold pItoa at hv
  split at hv
  · rename_i n
    split at hv
    · rename_i hn
      cases hv
      obtain ⟨x, rfl, h1⟩ := one_of hx
      obtain ⟨rfl, _⟩ := VRel.s_iff.1 h1
      refine (Tryz.strconv_Itoa n hn.1 hn.2 W (tabIs hg)).mono ?_
      rintro e W' ⟨rfl, k, os, rfl⟩
      exact back I (below_grow W k os) (VRel.s_iff.2 ⟨rfl, rfl⟩)
    · cases hv
  · cases hv
theorem p149 : PrimOk 149 pCut := by
  refine ⟨enters (fn := Tryz.f149) (by rfl) (by rfl) (by decide), ?_⟩
  intro args v hv h σ W xs hx I hg
  unfold pCut at hv
  split at hv
  · rename_i s sep
    split at hv
    · rename_i c hc
      split at hv
      · rename_i hs
        cases hv
        obtain ⟨x, y, rfl, h1, h2⟩ := two_of hx
        obtain rfl := str_of h1
        obtain rfl := str_of h2
        obtain ⟨vs, ⟨m, h0⟩, hm⟩ := (hg.2 (0, fun vs => ∃ m, vs[0]? = some (.int .i64 m)) (by simp [cx])).cell
        refine (Tryz.strings_Cut s sep m W hs (hm 0 _ h0)).mono ?_
        rintro e W' ⟨rfl, n, rfl⟩
        refine back I (below_drewN W n) ?_
        rw [hc, cut_one]
        refine VRel.tup_iff.2 ⟨_, rfl, rfl, fun i a b ha hb => ?_⟩
        match i, ha, hb with
        | 0, ha, hb => cases ha; cases hb; exact VRel.s_iff.2 ⟨rfl, rfl⟩
        | 1, ha, hb => cases ha; cases hb; exact VRel.s_iff.2 ⟨rfl, rfl⟩
        | 2, ha, hb => cases ha; cases hb; exact VRel.s_iff.2 ⟨rfl, rfl⟩
        | i + 3, ha, hb => simp at ha
      · cases hv
    · cases hv
  · cases hv
theorem pair_rel {σ : Sg} {W : World} {a b : V} {x y : Value} (h : VRel σ W a x) (k : VRel σ W b y) : VRel σ W (.tup [a, b]) (.tuple #[x, y]) := by
  refine VRel.tup_iff.2 ⟨_, rfl, rfl, fun i c d hc hd => ?_⟩
  match i, hc, hd with
  | 0, hc, hd => cases hc; cases hd; exact h
  | 1, hc, hd => cases hc; cases hd; exact k
  | i + 2, hc, hd => simp at hc
theorem p174 : PrimOk 174 (pParse 249) := by
  refine ⟨enters (fn := Tryz.f174) (by rfl) (by rfl) (by decide), ?_⟩
  intro args v hv h σ W xs hx I hg
  unfold pParse at hv
  split at hv
  · rename_i s
    split at hv
    · rename_i hn
      obtain ⟨x, y, z, rfl, h1, h2, h3⟩ := three_of hx
      obtain rfl := str_of h1
      obtain ⟨rfl, _⟩ := VRel.s_iff.1 h2
      obtain ⟨rfl, _⟩ := VRel.s_iff.1 h3
      have hp := parsed_eq _ hn.1
      split at hv
      · rename_i hb
        cases hv
        rw [if_pos hb] at hp
        refine (Tryz.strconv_ParseInt_10_at64_ok s (by have := hn.2; omega) _ hp W).mono ?_
        rintro e W' ⟨rfl, hw⟩
        refine back I ?_ (pair_rel (VRel.s_iff.2 ⟨rfl, rfl⟩) (VRel.s_iff.2 ⟨rfl, rfl⟩))
        rcases hw with rfl | ⟨t, rfl⟩
        · exact .refl _ _
        · exact Lib.bytesWorld_below W _ t
      · rename_i hb
        cases hv
        rw [if_neg hb] at hp
        obtain ⟨vs, ⟨t, q, rfl⟩, hm⟩ := (hg.2 (3, fun vs => ∃ t p, vs = [.iface t p]) (by simp [cx])).cell
        refine (Tryz.strconv_ParseInt_10_at64_range s hn.2 hp _ W (hm 0 _ rfl) (.inr ⟨_, _, rfl⟩)).mono ?_
        rintro e W' ⟨N, rfl, _, _, hw⟩
        refine back I hw ?_
        rw [sat_eq _ hn.1]
        exact pair_rel (VRel.s_iff.2 ⟨rfl, rfl⟩) (VRel.ifc_iff.2 ⟨_, rfl, .undef⟩)
    · cases hv
  · cases hv
/-- Texts in a row. -/
theorem texts_row : ∀ {l : List V} {ts : List (List UInt8)}, texts l = some ts → ∃ bs : List ByteArray, l = bs.map (fun b => V.s (.string b)) ∧ ts = bs.map (·.data.toList)
  | [], ts, h => by cases h; exact ⟨[], rfl, rfl⟩
  | a :: r, ts, h => by
    unfold texts at h
    split at h
    · rename_i e; cases e
    · rename_i b r' e
      cases e
      obtain ⟨ts', h1, rfl⟩ := Option.map_eq_some_iff.1 h
      obtain ⟨bs, rfl, rfl⟩ := texts_row h1
      exact ⟨b :: bs, rfl, rfl⟩
    · cases h
theorem strs_flat : ∀ bs : List ByteArray, (bs.map fun b => V.s (.string b)).flatMap cellsOf = bs.map fun b => V.s (.string b)
  | [] => rfl
  | b :: bs => by rw [List.map_cons, List.flatMap_cons, strs_flat bs]; rfl
theorem p114 : PrimOk 114 pJoin := by
  refine ⟨enters (fn := Tryz.f114) (by rfl) (by rfl) (by decide), ?_⟩
  intro args v hv h σ W xs hx I hg
  unfold pJoin at hv
  split at hv
  · rename_i tk w l sep
    obtain ⟨ts, hts, hv⟩ := Option.bind_eq_some_iff.1 hv
    split at hv
    · rename_i hb
      cases hv
      obtain ⟨x, y, rfl, h1, h2⟩ := two_of hx
      obtain rfl := str_of h2
      obtain ⟨bs, rfl, rfl⟩ := texts_row hts
      obtain ⟨base, cap, rfl, _, _, hcap, _, _, hne⟩ := VRel.vsl_iff.1 h1
      by_cases h0 : bs = []
      · subst h0
        refine (Tryz.strings_Join_none base cap sep W).mono ?_
        rintro e W' ⟨rfl, rfl⟩
        exact back I (.refl _ _) (VRel.s_iff.2 ⟨rfl, rfl⟩)
      · obtain ⟨c, o, hh, rfl, hw, hlen, hreg, _, hcl, _⟩ := hne (by simpa using h0)
        have hfl := strs_flat bs
        rw [hfl] at hcl
        have hlen2 : (bs.map fun b => V.s (.string b)).length = bs.length := List.length_map ..
        rw [hlen2] at hcap ⊢
        refine (Tryz.strings_Join c o cap bs sep W (fun j x hj => ?_) ?_ (by simpa using hb.1) hcap (by simpa using hb.2)).mono ?_
        · obtain ⟨y, hy, hr⟩ := hcl j (.s (.string x)) (by simp [hj])
          rw [str_of hr.2] at hy
          exact hy
        · obtain ⟨arr, t, fz, h3, _⟩ := I.rsz c _ hreg
          exact (Array.getElem?_eq_some_iff.1 h3).1
        · rintro e W' ⟨rfl, hbl⟩
          exact back I hbl (VRel.s_iff.2 ⟨rfl, rfl⟩)
    · cases hv
  · cases hv
end ZD
open Go Go.AM Go.Proofs Go.AM.Pl Go.RowKit
set_option maxRecDepth 100000
set_option maxHeartbeats 4000000
namespace ZD
def renG : Go.Shelf.Ren := ⟨fun | 4 => 99 | n => n, fun | 0 => 0 | 3 => 3 | 4 => 4 | 9 => 9 | 20 => 20 | 22 => 26 | 25 => 3 | n => n, fun n => n⟩
theorem laysG : Go.Proofs.Lays8.n4 Tryz.prog renG := {
  mixed := by kernel_rfl
  f4 := ⟨ "slices.Grow[[]int,int]", by decide, Tryz.func99.trans (congrArg some (by kernel_rfl))⟩
  t0 := Tryz.underlying0
  a0 := Tryz.isAgg0
  z0 := Tryz.sizeOf0
  v0 := Tryz.zeroValue0
  t3 := Tryz.underlying3
  a3 := Tryz.isAgg3
  z3 := Tryz.sizeOf3
  v3 := Tryz.zeroValue3
  t4 := Tryz.underlying4
  a4 := Tryz.isAgg4
  z4 := Tryz.sizeOf4
  v4 := Tryz.zeroValue4
  t9 := Tryz.underlying9
  a9 := Tryz.isAgg9
  z9 := Tryz.sizeOf9
  v9 := Tryz.zeroValue9
  t20 := Tryz.underlying20
  a20 := Tryz.isAgg20
  z20 := Tryz.sizeOf20
  v20 := Tryz.zeroValue20
  t22 := Tryz.underlying26
  a22 := Tryz.isAgg26
  z22 := Tryz.sizeOf26
  v22 := Tryz.zeroValue26 }
theorem info3 : ∃ i0, Tryz.prog.info? 3 = some i0 ∧ i0.zero = some (.int .i64 0) ∧ i0.size = 1 ∧ i0.bytes = 8 := by
  have h : ((Tryz.prog.info? 3).map fun i => (i.zero, i.size, i.bytes)) = some (some (.int .i64 0), 1, 8) := by kernel_rfl
  obtain ⟨i, h1, h2⟩ := Option.map_eq_some_iff.1 h
  simp only [Prod.mk.injEq] at h2
  exact ⟨i, h1, h2.1, h2.2.1, h2.2.2⟩
/-- What is asked of a primitive that turns objects. -/
def HPrimOk (f : FuncId) (g : HP) : Prop := (∀ xs W, (callFunc f xs).run cx.P W = .ok (.enter f xs) W) ∧ ∀ args h v s n, g args h = some (v, s, n) → ∀ σ W (xs : Array Value), L2 (VRel σ W) args xs.toList → Inv σ h W → GlobOk cx σ W →
    Calls cx.P f xs W (fun e W' => ∃ z σ', e = .returned z ∧ VRel σ' W' v z ∧ Inv σ' ((s.foldl (fun h p => h.set p.1 p.2) h) ++ n) W' ∧ Step σ h W σ' ((s.foldl (fun h p => h.set p.1 p.2) h) ++ n) W')
theorem h99 : HPrimOk 99 (pGrow 1) := by
  refine ⟨enters (fn := Tryz.f99) (by rfl) (by rfl) (by decide), ?_⟩
  intro args h v s n hv σ W xs hx I hg
  unfold pGrow at hv
  split at hv
  · rename_i h0 w0 m
    obtain ⟨x, y, rfl, h1, h2⟩ := two_of hx
    obtain ⟨rfl, _⟩ := VRel.s_iff.1 h2
    obtain ⟨base, cap, rfl, n0, n1, _⟩ := VRel.vsl_iff.1 h1
    have hb := n1 rfl
    have hc := n0 hb
    subst hb; subst hc
    split at hv
    · rename_i hm
      subst hm
      cases hv
      refine (Any8.slices_Grow_room laysG none 0 0 0 W (by omega) (by omega) (by omega) (by omega)).mono ?_
      rintro e W' ⟨rfl, rfl⟩
      refine ⟨_, σ, rfl, (VRel.vs_iff (fun _ => rfl)).2 (VRel.vsl_iff.2 ⟨none, 0, rfl, fun _ => rfl, fun _ => rfl, Nat.le_refl _, (fun _ => rfl), (fun _ id hid => by cases hid), fun hne => (hne rfl).elim⟩), by simpa using I, by simpa using Step.refl σ h W'⟩
    · split at hv
      · rename_i hm0 hm
        cases hv
        obtain ⟨k, rfl⟩ : ∃ k : Nat, m = k := ⟨m.toNat, by omega⟩
        obtain ⟨i0, hi, hz, hs1, hs2⟩ : ∃ i0, Tryz.prog.info? 3 = some i0 ∧ i0.zero = some (.int .i64 0) ∧ i0.size = 1 ∧ i0.bytes = 8 := info3
        refine (Any8.slices_Grow_grow laysG i0 (.int .i64 0) hi hz (by omega) none 0 0 k [] W (by omega) (by omega) (by rw [hs2]; omega) (by omega) (by simp) (fun _ => rfl) (fun a ha => by cases ha)).mono ?_
        rintro e W' ⟨rfl, rfl⟩
        obtain ⟨G, hG⟩ : ∃ G, grownCap W (0 + k) 0 (renG.t 25) = G := ⟨_, rfl⟩
        have hle := grownCap_ge W (0 + k) 0 (renG.t 25)
        rw [hG] at hle ⊢
        have hsz : ∀ (z : Array Value) n, z.size = 1 → (Builtin.zeroCells z n).size = n := by
          intro z n hz; simp [Builtin.zeroCells, hz]
        obtain ⟨I2, s2, r2⟩ := new_row (st := { env := [], lb := [], h := h }) I.drw [] 1 (#[] ++ Builtin.zeroCells (Value.int .i64 0).cells (0 + k - 0) ++ Builtin.zeroCells (Value.int .i64 0).cells (G - (0 + k))) 3 (by omega) (fun _ h => by cases h) (by simp) (fun i v hv => by simp at hv) true G (by simp) (by
          rw [Array.size_append, Array.size_append, hsz _ _ rfl, hsz _ _ rfl]; simp; omega) (fun h => by cases h)
        exact ⟨_, _, rfl, r2, I2, Step.drw.trans s2⟩
      · cases hv
  · cases hv
theorem good : Good cx where
  mixed := mixed
  wf := by
    intro f fn code hf hb
    have h := List.all_eq_true.1 wf_all fn (by rw [← Array.getElem?_toList] at hf; exact List.mem_of_getElem? hf)
    unfold wfF at h
    rw [hb] at h
    simp only [Bool.and_eq_true, bne_iff_ne, ne_eq] at h
    exact h
  prim := by
    intro f g h
    simp only [cx] at h
    repeat' split at h
    · rename_i e; cases h; subst e; exact p114
    · rename_i e; cases h; subst e; exact p143
    · rename_i e; cases h; subst e; exact p148
    · rename_i e; cases h; subst e; exact p149
    · rename_i e; cases h; subst e; exact p174
    · cases h
  hprim := by
    intro f g h
    simp only [cx] at h
    repeat' split at h
    · rename_i e; cases h; subst e; exact h99
    · cases h
end ZD

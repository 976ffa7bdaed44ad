/- The contracts of the library functions, and that the program is one of which the abstract machine speaks. No condition. -/
import Derived.Test.YtieenbjncimikaaGreatDoorBCx
import Derived.Test.YtieenbjncimikaaGreatDoorBAmD
import Derived.Test.YtieenbjncimikaaGreatDoorBAmF
import Derived.Shelf.Strconv.Itoa3
import Derived.Test.YtieenbjncimikaaGreatDoorShelf
import Derived.Test.YtieenbjncimikaaGreatDoorBAmB
import Derived.Lib.Split
import Derived.Shelf.Strings.Split
import Derived.Shelf.Strings.BuilderK
import Derived.Shelf.Spec.SlicesGrow
set_option linter.all false
open Go Go.AM Go.Proofs
namespace ZD
def wfF (fn : Func) : Bool := match fn.body with
  | some code => wfC fn.ntmps code && fn.name != "runtime.NumGoroutine"
  | none => true
theorem wf_all : Tryz.prog.funcs.toList.all wfF = true := by decide +kernel
theorem mixed : Tryz.prog.follows .mixedOrders = true := by decide +kernel
end ZD
open Go Go.AM Go.Proofs Go.AM.Pl Go.RowKit
set_option maxRecDepth 100000
set_option maxHeartbeats 4000000
namespace ZD
/-- What is asked of a primitive. -/
def PrimOk (f : FuncId) (g : List V → Option V) : Prop := (∀ xs W, (callFunc f xs).run cx.P W = .ok (.enter f xs) W) ∧ ∀ args v, g args = some v → ∀ (h : H) σ W (xs : Array Value), L2 (VRel σ W) args xs.toList → Inv σ h W → GlobOk cx σ W →
    Calls cx.P f xs W (fun e W' => ∃ z σ', e = .returned z ∧ VRel σ' W' v z ∧ Inv σ' h W' ∧ Step σ h W σ' h W')
theorem enters {f : FuncId} {fn : Func} {code : Code} (hf : cx.P.funcs[f]? = some fn) (hc : fn.body = some code) (hn : fn.name ≠ "runtime.NumGoroutine") : ∀ xs W, (callFunc f xs).run cx.P W = .ok (.enter f xs) W := by
  intro xs W
  simp only [callFunc, Sem.run_bind, run_program, Result.andThen_ok, hf]
  rw [if_neg (by simpa using hn)]
  simp [hc]
theorem str_of {σ : Sg} {W : World} {b : ByteArray} {x : Value} (h : VRel σ W (.s (.string b)) x) : x = .string b := (VRel.s_iff.1 h).1
theorem one_of {σ : Sg} {W : World} {a : V} {xs : Array Value} (h : L2 (VRel σ W) [a] xs.toList) : ∃ x, xs = #[x] ∧ VRel σ W a x := by
  obtain ⟨l⟩ := xs
  match l, h with
  | [x], h => exact ⟨x, rfl, h.2 0 a x rfl rfl⟩
theorem two_of {σ : Sg} {W : World} {a b : V} {xs : Array Value} (h : L2 (VRel σ W) [a, b] xs.toList) : ∃ x y, xs = #[x, y] ∧ VRel σ W a x ∧ VRel σ W b y := by
  obtain ⟨l⟩ := xs
  match l, h with
  | [x, y], h => exact ⟨x, y, rfl, h.2 0 a x rfl rfl, h.2 1 b y rfl rfl⟩
theorem three_of {σ : Sg} {W : World} {a b c : V} {xs : Array Value} (h : L2 (VRel σ W) [a, b, c] xs.toList) : ∃ x y z, xs = #[x, y, z] ∧ VRel σ W a x ∧ VRel σ W b y ∧ VRel σ W c z := by
  obtain ⟨l⟩ := xs
  match l, h with
  | [x, y, z], h => exact ⟨x, y, z, rfl, h.2 0 a x rfl rfl, h.2 1 b y rfl rfl, h.2 2 c z rfl rfl⟩
theorem back {σ : Sg} {h : H} {W W' : World} {v : V} {z : Value} (I : Inv σ h W) (b : RowKit.Below W.heap.size W W') (r : VRel σ W v z) : ∃ z' σ', Ending.returned z = .returned z' ∧ VRel σ' W' v z' ∧ Inv σ' h W' ∧ Step σ h W σ' h W' :=
  ⟨z, σ, rfl, r.mono (Mo.below I b), I.below b, .below I b⟩
theorem below_drewN (W : World) (n : Nat) : Below W.heap.size W (W.drewN n) := ⟨rfl, rfl, rfl, Nat.le_refl _, fun _ _ => rfl⟩
theorem below_grow (W : World) (n : Nat) (os : Array Obj) : Below W.heap.size W (Go.Sort.grow (W.drewN n) os) := ⟨rfl, rfl, rfl, by simp [Go.Sort.grow, World.drewN], fun k hk => by
  show (W.heap ++ os)[k]? = _
  rw [Array.getElem?_append_left hk]⟩
theorem p148 : PrimOk 148 pIndexByte := by
  refine ⟨enters (fn := Tryz.f148) (by rfl) (by rfl) (by decide), ?_⟩
  intro args v hv h σ W xs hx I hg
  unfold pIndexByte at hv
  split at hv
  · rename_i s c
    split at hv
    · cases hv
      obtain ⟨x, y, rfl, h1, h2⟩ := two_of hx
      obtain rfl := str_of h1
      obtain ⟨rfl, _⟩ := VRel.s_iff.1 h2
      refine (Tryz.strings_IndexByte s c W).mono ?_
      rintro e W' ⟨rfl, rfl⟩
      exact back I (.refl _ _) (VRel.s_iff.2 ⟨rfl, rfl⟩)
    · cases hv
  · cases hv
theorem tabIs {σ : Sg} {W : World} (hg : GlobOk cx σ W) : Lib.TabIs Tryz.prog W "internal/strconv.uint64pow10" .u64 Lib.pow10Tab := by
  obtain ⟨vs, rfl, hb⟩ := (hg.2 (1, fun vs => vs = Lib.pow10Tab.map fun z => Value.int .u64 z) (by simp [cx])).block
  obtain ⟨t, fz, hb⟩ := hb (by decide)
  unfold Lib.TabIs World.var?
  rw [show Tryz.prog.globalNamed "internal/strconv.uint64pow10" = some 1 by kernel_rfl]
  simp only [Option.bind_some, hb]
theorem p143 : PrimOk 143 pItoa := by
  refine ⟨enters (fn := Tryz.f143) (by rfl) (by rfl) (by decide), ?_⟩
  intro args v hv h σ W xs hx I hg
  unfold pItoa at hv
  split at hv
  · rename_i n
    split at hv
    · rename_i hn
      cases hv
      obtain ⟨x, rfl, h1⟩ := one_of hx
      obtain ⟨rfl, _⟩ := VRel.s_iff.1 h1
      refine (Tryz.strconv_Itoa n hn.1 hn.2 W (tabIs hg)).mono ?_
      rintro e W' ⟨rfl, k, os, rfl⟩
      exact back I (below_grow W k os) (VRel.s_iff.2 ⟨rfl, rfl⟩)
    · cases hv
  · cases hv
theorem p149 : PrimOk 149 pCut := by
  refine ⟨enters (fn := Tryz.f149) (by rfl) (by rfl) (by decide), ?_⟩
  intro args v hv h σ W xs hx I hg
  unfold pCut at hv
  split at hv
  · rename_i s sep
    split at hv
    · rename_i c hc
      split at hv
      · rename_i hs
        cases hv
        obtain ⟨x, y, rfl, h1, h2⟩ := two_of hx
        obtain rfl := str_of h1
        obtain rfl := str_of h2
        obtain ⟨vs, ⟨m, h0⟩, hm⟩ := (hg.2 (0, fun vs => ∃ m, vs[0]? = some (.int .i64 m)) (by simp [cx])).cell
        refine (Tryz.strings_Cut s sep m W hs (hm 0 _ h0)).mono ?_
        rintro e W' ⟨rfl, n, rfl⟩
        refine back I (below_drewN W n) ?_
        rw [hc, cut_one]
        refine VRel.tup_iff.2 ⟨_, rfl, rfl, fun i a b ha hb => ?_⟩
        match i, ha, hb with
        | 0, ha, hb => cases ha; cases hb; exact VRel.s_iff.2 ⟨rfl, rfl⟩
        | 1, ha, hb => cases ha; cases hb; exact VRel.s_iff.2 ⟨rfl, rfl⟩
        | 2, ha, hb => cases ha; cases hb; exact VRel.s_iff.2 ⟨rfl, rfl⟩
        | i + 3, ha, hb => simp at ha
      · cases hv
    · cases hv
  · cases hv
theorem pair_rel {σ : Sg} {W : World} {a b : V} {x y : Value} (h : VRel σ W a x) (k : VRel σ W b y) : VRel σ W (.tup [a, b]) (.tuple #[x, y]) := by
  refine VRel.tup_iff.2 ⟨_, rfl, rfl, fun i c d hc hd => ?_⟩
  match i, hc, hd with
  | 0, hc, hd => cases hc; cases hd; exact h
  | 1, hc, hd => cases hc; cases hd; exact k
  | i + 2, hc, hd => simp at hc
theorem p174 : PrimOk 174 (pParse 249) := by
  refine ⟨enters (fn := Tryz.f174) (by rfl) (by rfl) (by decide), ?_⟩
  intro args v hv h σ W xs hx I hg
  unfold pParse at hv
  split at hv
  · rename_i s
    split at hv
    · rename_i hn
      obtain ⟨x, y, z, rfl, h1, h2, h3⟩ := three_of hx
      obtain rfl := str_of h1
      obtain ⟨rfl, _⟩ := VRel.s_iff.1 h2
      obtain ⟨rfl, _⟩ := VRel.s_iff.1 h3
      have hp := parsed_eq _ hn.1
      split at hv
      · rename_i hb
        cases hv
        rw [if_pos hb] at hp
        refine (Tryz.strconv_ParseInt_10_at64_ok s (by have := hn.2; omega) _ hp W).mono ?_
        rintro e W' ⟨rfl, hw⟩
        refine back I ?_ (pair_rel (VRel.s_iff.2 ⟨rfl, rfl⟩) (VRel.s_iff.2 ⟨rfl, rfl⟩))
        rcases hw with rfl | ⟨t, rfl⟩
        · exact .refl _ _
        · exact Lib.bytesWorld_below W _ t
      · rename_i hb
        cases hv
        rw [if_neg hb] at hp
        obtain ⟨vs, ⟨t, q, rfl⟩, hm⟩ := (hg.2 (3, fun vs => ∃ t p, vs = [.iface t p]) (by simp [cx])).cell
        refine (Tryz.strconv_ParseInt_10_at64_range s hn.2 hp _ W (hm 0 _ rfl) (.inr ⟨_, _, rfl⟩)).mono ?_
        rintro e W' ⟨N, rfl, _, _, hw⟩
        refine back I hw ?_
        rw [sat_eq _ hn.1]
        exact pair_rel (VRel.s_iff.2 ⟨rfl, rfl⟩) (VRel.ifc_iff.2 ⟨_, rfl, .undef⟩)
    · cases hv
  · cases hv
/-- Texts in a row. -/
theorem texts_row : ∀ {l : List V} {ts : List (List UInt8)}, texts l = some ts → ∃ bs : List ByteArray, l = bs.map (fun b => V.s (.string b)) ∧ ts = bs.map (·.data.toList)
  | [], ts, h => by cases h; exact ⟨[], rfl, rfl⟩
  | a :: r, ts, h => by
    unfold texts at h
    split at h
    · rename_i e; cases e
    · rename_i b r' e
      cases e
      obtain ⟨ts', h1, rfl⟩ := Option.map_eq_some_iff.1 h
      obtain ⟨bs, rfl, rfl⟩ := texts_row h1
      exact ⟨b :: bs, rfl, rfl⟩
    · cases h
theorem strs_flat : ∀ bs : List ByteArray, (bs.map fun b => V.s (.string b)).flatMap cellsOf = bs.map fun b => V.s (.string b)
  | [] => rfl
  | b :: bs => by rw [List.map_cons, List.flatMap_cons, strs_flat bs]; rfl
theorem p114 : PrimOk 114 pJoin := by
  refine ⟨enters (fn := Tryz.f114) (by rfl) (by rfl) (by decide), ?_⟩
  intro args v hv h σ W xs hx I hg
  unfold pJoin at hv
  split at hv
  · rename_i tk w l sep
    obtain ⟨ts, hts, hv⟩ := Option.bind_eq_some_iff.1 hv
    split at hv
    · rename_i hb
      cases hv
      obtain ⟨x, y, rfl, h1, h2⟩ := two_of hx
      obtain rfl := str_of h2
      obtain ⟨bs, rfl, rfl⟩ := texts_row hts
      obtain ⟨base, cap, rfl, _, _, hcap, _, _, hne⟩ := VRel.vsl_iff.1 h1
      by_cases h0 : bs = []
      · subst h0
        refine (Tryz.strings_Join_none base cap sep W).mono ?_
        rintro e W' ⟨rfl, rfl⟩
        exact back I (.refl _ _) (VRel.s_iff.2 ⟨rfl, rfl⟩)
      · obtain ⟨c, o, hh, rfl, hw, hlen, hreg, _, hcl, _⟩ := hne (by simpa using h0)
        have hfl := strs_flat bs
        rw [hfl] at hcl
        have hlen2 : (bs.map fun b => V.s (.string b)).length = bs.length := List.length_map ..
        rw [hlen2] at hcap ⊢
        refine (Tryz.strings_Join c o cap bs sep W (fun j x hj => ?_) ?_ (by simpa using hb.1) hcap (by simpa using hb.2)).mono ?_
        · obtain ⟨y, hy, hr⟩ := hcl j (.s (.string x)) (by simp [hj])
          rw [str_of hr.2] at hy
          exact hy
        · obtain ⟨arr, t, fz, h3, _⟩ := I.rsz c _ hreg
          exact (Array.getElem?_eq_some_iff.1 h3).1
        · rintro e W' ⟨rfl, hbl⟩
          exact back I hbl (VRel.s_iff.2 ⟨rfl, rfl⟩)
    · cases hv
  · cases hv
end ZD
open Go Go.AM Go.Proofs Go.AM.Pl Go.RowKit
set_option maxRecDepth 100000
set_option maxHeartbeats 4000000
namespace ZD
theorem split_length (sep : ByteArray) (h1 : 1 ≤ sep.size) (n : Nat) : ∀ s : ByteArray, s.size ≤ n → (Lib.splitB sep 0 (Lib.countB s sep) s).length = Lib.countB s sep + 1 := by
  induction n with
  | zero =>
    intro s hs
    rcases Lib.indexB_cases s sep with h | ⟨i, h, hi⟩
    · rw [Lib.countB_miss s sep h]; rfl
    · omega
  | succ n ih =>
    intro s hs
    rcases Lib.indexB_cases s sep with h | ⟨i, h, hi⟩
    · rw [Lib.countB_miss s sep h]; rfl
    · rw [Lib.countB_hit s sep i h1 h, Nat.add_comm 1, Lib.splitB_hit sep 0 _ s i h, List.length_cons, ih _ (by rw [ByteArray.size_extract]; omega)]
theorem split_eq (c : UInt8) (n : Nat) : ∀ s : ByteArray, s.size ≤ n → Lib.splitB ⟨#[c]⟩ 0 (Lib.countB s ⟨#[c]⟩) s = (splitL c s.data.toList).map bs := by
  induction n with
  | zero =>
    intro s hs
    have h0 : s.data.toList = [] := List.eq_nil_of_length_eq_zero (by rw [← Lib.size_eq]; omega)
    rcases index_cases s.data.toList c with ⟨h, hn⟩ | ⟨p, q, h, e, hp⟩
    · rw [Lib.countB_miss s _ h, Lib.splitB_zero, splitL_none hn]; rfl
    · rw [h0] at e; cases p <;> cases e
  | succ n ih =>
    intro s hs
    rcases index_cases s.data.toList c with ⟨h, hn⟩ | ⟨p, q, h, e, hp⟩
    · rw [Lib.countB_miss s _ h, Lib.splitB_zero, splitL_none hn]; rfl
    · have hl : s.size = p.length + 1 + q.length := by rw [Lib.size_eq, e]; simp; omega
      have h1 : s.extract (p.length + (⟨#[c]⟩ : ByteArray).size) s.size = bs q := by
        rw [Lib.Pa.extract_from, e]
        show bs (List.drop (p.length + 1) (p ++ c :: q)) = _
        simp
      have h2 : s.extract 0 (p.length + 0) = bs p := by
        rw [Lib.Pa.extract_upto, e]
        show bs (List.take (p.length + 0) (p ++ c :: q)) = _
        simp
      rw [Lib.countB_hit s ⟨#[c]⟩ p.length (Nat.le_refl 1) h, Nat.add_comm 1, Lib.splitB_hit ⟨#[c]⟩ 0 _ s p.length h, h1, h2, ih (bs q) (by rw [bs_size]; omega), e, splitL_hit q hp]
      rfl
theorem p123 : PrimOk 123 pSplit := by
  refine ⟨enters (fn := Tryz.f123) (by rfl) (by rfl) (by decide), ?_⟩
  intro args v hv h σ W xs hx I hg
  unfold pSplit at hv
  split at hv
  · rename_i s sep
    split at hv
    · rename_i c hc
      split at hv
      · rename_i hs
        cases hv
        obtain ⟨x, y, rfl, h1, h2⟩ := two_of hx
        obtain rfl := str_of h1
        obtain rfl := str_of h2
        have hsep : sep = ⟨#[c]⟩ := by
          have : sep.data = #[c] := by rw [← Array.toList_inj, hc]
          cases sep; simp at this; rw [this]
        subst hsep
        obtain ⟨vs, ⟨m, h0⟩, hm⟩ := (hg.2 (0, fun vs => ∃ m, vs[0]? = some (.int .i64 m)) (by simp [cx])).cell
        refine (Tryz.strings_Split s ⟨#[c]⟩ m W hs (hm 0 _ h0) (Nat.le_refl 1)).mono ?_
        rintro e W' ⟨rfl, rfl⟩
        have hlen := split_length ⟨#[c]⟩ (Nat.le_refl 1) s.size s (Nat.le_refl _)
        rw [split_eq c s.size s (Nat.le_refl _)] at hlen ⊢
        rw [← hlen]
        obtain ⟨L, hL⟩ : ∃ L, splitL c s.data.toList = L := ⟨_, rfl⟩
        have hne := splitL_ne c s.data.toList
        rw [hL] at hne ⊢
        have hfl : (L.map V.t).flatMap cellsOf = L.map V.t := by
          clear hL hne hlen
          induction L with
          | nil => rfl
          | cons a l ih => rw [List.map_cons, List.flatMap_cons, ih]; rfl
        obtain ⟨I2, s2, r2⟩ := new_row (st := { env := [], lb := [], h := h }) I (L.map V.t) 1 ((List.map Value.string (L.map bs)).toArray) 9 (by omega) (fun x hx => by obtain ⟨a, _, rfl⟩ := List.mem_map.1 hx; rfl) (by simp) (fun i v hv => by
          rw [hfl, List.getElem?_map] at hv
          obtain ⟨a, ha, rfl⟩ := Option.map_eq_some_iff.1 hv
          exact ⟨.string (bs a), by simp [ha], rfl, VRel.s_iff.2 ⟨rfl, rfl⟩⟩) false L.length (by simp) (by simp) (fun _ => by simp)
        refine ⟨_, _, rfl, ?_, I2, s2⟩
        simp only [List.length_map] at r2 ⊢
        have hv : AM.vs .dead 1 (L.map V.t) = .vsl .dead 1 (L.map V.t) := by unfold AM.vs; rw [if_neg (by simpa using hne)]
        rw [hv]
        obtain ⟨base, cap, e1, e2, e3, e4, e5, e6, e7⟩ := VRel.vsl_iff.1 r2
        refine VRel.vsl_iff.2 ⟨base, cap, by simpa using e1, e2, fun h => (by cases h), e4, fun h => (by cases h), fun _ id hid => (by cases hid), fun hl => ?_⟩
        obtain ⟨c', o', h', a1, a2, a3, a4, a5, a6, _⟩ := e7 hl
        exact ⟨c', o', h', a1, a2, a3, a4, a5, a6, fun id hid => (by cases hid)⟩
      · cases hv
    · cases hv
  · cases hv
end ZD
open Go Go.AM Go.Proofs Go.AM.Pl Go.RowKit Go.Shelf
set_option maxRecDepth 100000
set_option maxHeartbeats 4000000
namespace ZD
def renB : Go.Shelf.Ren := ⟨fun | 166 => 58 | 240 => 113 | 276 => 152 | 169 => 63 | n => n, fun | 3 => 3 | 4 => 4 | 5 => 5 | 9 => 9 | 20 => 20 | 37 => 102 | 70 => 101 | 72 => 104 | 75 => 106 | 80 => 114 | 127 => 169 | 164 => 199 | n => n, fun | n => n⟩
theorem laysWrite : Go.Proofs.Lays.n166 Tryz.prog renB := {
  mixed := by kernel_rfl
  f166 := Tryz.func58.trans (congrArg some (by kernel_rfl))
  f240 := Tryz.func113.trans (congrArg some (by kernel_rfl))
  f276 := Tryz.func152.trans (congrArg some (by kernel_rfl))
  t0 := Tryz.underlying0
  a0 := Tryz.isAgg0
  z0 := Tryz.sizeOf0
  v0 := Tryz.zeroValue0
  t3 := Tryz.underlying3
  a3 := Tryz.isAgg3
  z3 := Tryz.sizeOf3
  v3 := Tryz.zeroValue3
  t4 := Tryz.underlying4
  a4 := Tryz.isAgg4
  z4 := Tryz.sizeOf4
  v4 := Tryz.zeroValue4
  t9 := Tryz.underlying9
  a9 := Tryz.isAgg9
  z9 := Tryz.sizeOf9
  v9 := Tryz.zeroValue9
  t20 := Tryz.underlying20
  a20 := Tryz.isAgg20
  z20 := Tryz.sizeOf20
  v20 := Tryz.zeroValue20
  t37 := Tryz.underlying102
  a37 := Tryz.isAgg102
  z37 := Tryz.sizeOf102
  v37 := Tryz.zeroValue102
  t70 := Tryz.underlying101
  a70 := Tryz.isAgg101
  z70 := Tryz.sizeOf101
  v70 := Tryz.zeroValue101
  t72 := Tryz.underlying104
  a72 := Tryz.isAgg104
  z72 := Tryz.sizeOf104
  v72 := Tryz.zeroValue104
  t75 := Tryz.underlying106
  a75 := Tryz.isAgg106
  z75 := Tryz.sizeOf106
  v75 := Tryz.zeroValue106
  t164 := Tryz.underlying199
  a164 := Tryz.isAgg199
  z164 := Tryz.sizeOf199
  v164 := Tryz.zeroValue199 }
theorem laysString : Go.Proofs.Lays.n169 Tryz.prog renB := {
  mixed := by kernel_rfl
  f169 := Tryz.func63.trans (congrArg some (by kernel_rfl))
  t0 := Tryz.underlying0
  a0 := Tryz.isAgg0
  z0 := Tryz.sizeOf0
  v0 := Tryz.zeroValue0
  t3 := Tryz.underlying3
  a3 := Tryz.isAgg3
  z3 := Tryz.sizeOf3
  v3 := Tryz.zeroValue3
  t9 := Tryz.underlying9
  a9 := Tryz.isAgg9
  z9 := Tryz.sizeOf9
  v9 := Tryz.zeroValue9
  t37 := Tryz.underlying102
  a37 := Tryz.isAgg102
  z37 := Tryz.sizeOf102
  v37 := Tryz.zeroValue102
  t70 := Tryz.underlying101
  a70 := Tryz.isAgg101
  z70 := Tryz.sizeOf101
  v70 := Tryz.zeroValue101
  t72 := Tryz.underlying104
  a72 := Tryz.isAgg104
  z72 := Tryz.sizeOf104
  v72 := Tryz.zeroValue104
  t127 := Tryz.underlying169
  a127 := Tryz.isAgg169
  z127 := Tryz.sizeOf169
  v127 := Tryz.zeroValue169 }
theorem extraB : Builder.Extra Tryz.prog renB := {
  sizeBuilder := by kernel_rfl
  liesBuilder := by kernel_rfl
  t5 := Tryz.underlying5
  a5 := Tryz.isAgg5
  z5 := Tryz.sizeOf5
  v5 := Tryz.zeroValue5
  infoByte := by kernel_rfl
  cellsByte := by kernel_rfl
  sizeByte := by kernel_rfl
  neB5 := by decide }
section

theorem wpList_append_run {P : Program} {w w' : World} {ops : Array Oper} {rest : List Oper} {o : Oper} {a : Act} {Q : Exit → Act → World → Prop} (hgd : o.guard = none) (sl x : Operand) (t u : TypeId)
    (ho : o.op = .call { callee := .builtin .append, args := #[sl, x], argTypes := #[t, u] }) (v xv v' : Value) (hs : a.eval sl = v) (hx : a.eval x = xv)
    (hr : (Builtin.append_ #[t, u] o.type #[v, xv]).run P w = .ok v' w') (h : wpList P ops Q rest (a.put o.dst v') w') : wpList P ops Q (o :: rest) a w := by
  refine wpList_plain hgd fun K hK => ?_
  unfold Oper.wp execOp
  simp only [ho, resolve, invoke, builtin, Sem.run_bind, Sem.run_pure, Result.andThen_ok, List.map_toArray, List.map_cons, List.map_nil, hs, hx, hr]
  exact hK _ _ h
end
theorem write_run {B n' cap' : Nat} {ao : Option Addr} {v : Value} {s : ByteArray} {W W1 W2 : World}
    (hcc : Calls Tryz.prog (renB.f 240) #[.pointer (some ⟨B, 0, none⟩)] W (fun e w' => e = .returned (.tuple #[]) ∧ w' = W1))
    (hb1 : W1.heap[B]? = some (.cells #[.pointer (some ⟨B, 0, none⟩), v] (renB.t 72) (0, 0)))
    (happ : (Builtin.append_ #[renB.t 37, renB.t 9] (renB.t 37) #[v, .string s]).run Tryz.prog W1 = .ok (.slice ao n' cap') W2)
    (hb2 : W2.heap[B]? = some (.cells #[.pointer (some ⟨B, 0, none⟩), v] (renB.t 72) (0, 0))) :
    Calls Tryz.prog (renB.f 166) #[.pointer (some ⟨B, 0, none⟩), .string s] W fun e w' => e = .returned (.tuple #[.int .i64 s.size, .nilIface]) ∧ w' = W2.setCell ⟨B, 1, none⟩ (.slice ao n' cap') := by
  have L := laysWrite
  have X := extraB
  have mixed := L.mixed
  have t72 := L.t72; have a72 := L.a72; have z72 := L.z72; have v72 := L.v72; have u72 := run_underlying L.t72
  have t70 := L.t70; have a70 := L.a70; have z70 := L.z70; have v70 := L.v70; have u70 := run_underlying L.t70
  have t37 := L.t37; have a37 := L.a37; have z37 := L.z37; have v37 := L.v37; have u37 := run_underlying L.t37
  have t3 := L.t3; have a3 := L.a3; have z3 := L.z3; have v3 := L.v3; have u3 := run_underlying L.t3
  have t9 := L.t9; have a9 := L.a9; have z9 := L.z9; have v9 := L.v9; have u9 := run_underlying L.t9
  have t4 := L.t4; have a4 := L.a4; have z4 := L.z4; have v4 := L.v4; have u4 := run_underlying L.t4
  have t164 := L.t164; have a164 := L.a164; have z164 := L.z164; have v164 := L.v164; have u164 := run_underlying L.t164
  have t5 := X.t5; have a5 := X.a5; have z5 := X.z5; have v5 := X.v5; have u5 := run_underlying X.t5
  have e240 : ∀ args w, (callFunc (renB.f 240) args).run Tryz.prog w = .ok (.enter (renB.f 240) args) w := enters_of L.f240 (by kernel_rfl) rfl
  obtain ⟨ρ, hρ⟩ : ∃ ρ, renB = ρ := ⟨_, rfl⟩
  obtain ⟨P, hP⟩ : ∃ P, Tryz.prog = P := ⟨_, rfl⟩
  simp only [hρ, hP] at *
  go_enter L.f166, Body.n166_ntmps ρ
  go_wp2_with (go_at_fn (ρ.f 240); refine hcc.mono ?_)
  rintro e w1 ⟨rfl, rfl⟩
  have c0 : w1.cell? ⟨B, 0, none⟩ = some (.pointer (some ⟨B, 0, none⟩)) := by rw [Lib.cell_of_heap hb1]; rfl
  have c1 : w1.cell? ⟨B, 1, none⟩ = some v := by rw [Lib.cell_of_heap hb1]; rfl
  have d0 : W2.cell? ⟨B, 0, none⟩ = some (.pointer (some ⟨B, 0, none⟩)) := by rw [Lib.cell_of_heap hb2]; rfl
  have d1 : W2.cell? ⟨B, 1, none⟩ = some v := by rw [Lib.cell_of_heap hb2]; rfl
  have f1 : W2.frozen? ⟨B, 1, none⟩ = false := Lib.frozen_of_heap hb2 1
  go_wp2_with (at_builtin; refine wpList_append_run rfl _ _ (ρ.t 37) (ρ.t 9) rfl _ _ _ rfl rfl happ ?_)
  go_wp2
  go_ret2
  exact ⟨rfl, rfl⟩
end ZD
open Go Go.AM Go.Proofs Go.AM.Pl Go.RowKit Go.Shelf
set_option maxRecDepth 100000
set_option maxHeartbeats 4000000
namespace ZD
theorem fc_str {P : Program} {W' : World} (s : ByteArray) : (Builtin.firstCells 1 s.size (.string s)).run P W' = .ok (s.data.toList.map fun b => Value.int .u8 (b.toNat : Int)).toArray W' := by
  simp only [Builtin.firstCells]
  have : (s.extract 0 s.size).data = s.data := by
    rw [ByteArray.data_extract]; apply Array.ext'; simp only [Array.toList_extract]; simp; exact List.take_of_length_le (Nat.le_of_eq rfl)
  rw [this]
  simp only [Sem.run_pure]
  congr 1; apply Array.ext'; simp
theorem fc_str' {P : Program} {W' : World} {s : ByteArray} : (Builtin.firstCells 1 s.size (.string s)).run P W' = .ok (s.data.toList.map fun b => Value.int .u8 (b.toNat : Int)).toArray W' := fc_str s
theorem cc_run {σ : Sg} {h : H} {W : World} {b B : Nat} {r : Option (Nat × Nat)} {p v : Value} (I : Inv σ h W) (hb : h[b]? = some (.bld 104 r)) (hl : σ.loc b = some (B, 0)) (hB : W.heap[B]? = some (.cells #[p, v] 104 (0, 0))) (hp : p = .pointer none ∨ p = .pointer (some ⟨B, 0, none⟩)) :
    ∃ W1, Calls Tryz.prog 113 #[.pointer (some ⟨B, 0, none⟩)] W (fun e w' => e = .returned (.tuple #[]) ∧ w' = W1) ∧ W1.heap[B]? = some (.cells #[.pointer (some ⟨B, 0, none⟩), v] 104 (0, 0)) ∧ Inv σ h W1 ∧ Step σ h W σ h W1 := by
  have L : Lays.n240 Tryz.prog renB := { laysWrite with }
  rcases hp with rfl | rfl
  · refine ⟨W.setCell ⟨B, 0, none⟩ (.pointer (some ⟨B, 0, none⟩)), Any.Builder_copyCheck_fresh L extraB.toX72 B W (by rw [Lib.cell_of_heap hB]; rfl) (by simp [World.shape?, hB]; rfl) (Lib.frozen_of_heap hB 0), ?_⟩
    rw [setCell_upd hB]
    have e1 : (#[Value.pointer none, v] : Array Value).setIfInBounds 0 (.pointer (some ⟨B, 0, none⟩)) = #[.pointer (some ⟨B, 0, none⟩), v] := rfl
    rw [e1]
    have hat := upd_at (o := Obj.cells #[.pointer (some ⟨B, 0, none⟩), v] 104 (0, 0)) (lt_of_heap hB)
    exact ⟨hat, bld_touch I hb hl hB rfl rfl rfl (by simp [upd]) hat (fun c hc => upd_ne hc)⟩
  · exact ⟨W, Any.Builder_copyCheck_used L extraB.toX72 B W (by rw [Lib.cell_of_heap hB]; rfl), hB, I, Step.refl _ _ _⟩
def HPrimOk' (f : FuncId) (g : HP) : Prop := (∀ xs W, (callFunc f xs).run cx.P W = .ok (.enter f xs) W) ∧ ∀ args h v s n, g args h = some (v, s, n) → ∀ σ W (xs : Array Value), L2 (VRel σ W) args xs.toList → Inv σ h W → GlobOk cx σ W →
    Calls cx.P f xs W (fun e W' => ∃ z σ', e = .returned z ∧ VRel σ' W' v z ∧ Inv σ' ((s.foldl (fun h p => h.set p.1 p.2) h) ++ n) W' ∧ Step σ h W σ' ((s.foldl (fun h p => h.set p.1 p.2) h) ++ n) W')
/-- Nothing is written. -/
theorem wr_none {W1 : World} {B n cap : Nat} {base : Option Addr} {s : ByteArray} (hB : W1.heap[B]? = some (.cells #[.pointer (some ⟨B, 0, none⟩), .slice base n cap] 104 (0, 0))) (hs : s.size = 0) (hc : n ≤ cap) :
    (Builtin.append_ #[102, 9] 102 #[.slice base n cap, .string s]).run Tryz.prog W1 = .ok (.slice base n cap) W1 ∧ W1.setCell ⟨B, 1, none⟩ (.slice base n cap) = W1 := by
  have he : (Builtin.firstCells 1 0 (.string s)).run cx.P W1 = .ok ([] : List Value).toArray W1 := by
    have := fc_str (P := cx.P) (W' := W1) s
    rw [hs] at this
    have e : s.data.toList = [] := by
      have : s.data.toList.length = 0 := by simpa using hs
      exact List.length_eq_zero_iff.1 this
    rw [e] at this; exact this
  constructor
  · exact append_fits (c := cx) (W := W1) (W' := W1) (ts := #[102, 9]) (ty := 102) (t := 102) (e := 5) (w := 1) (n := 0) (ln := n) (cap := cap) (base := base) (y' := .string s) (new := []) (by rfl) (by rfl) (by rfl) (by rfl)
      (by simp [Builtin.lenOf, hs]) (by omega) he (fun p hp => by simp [storeCells]) (fun _ => rfl)
  · rw [setCell_upd hB]; exact upd_self hB
/-- There is room for all. -/
theorem wr_fits {W1 : World} {n cap g : Nat} {s : ByteArray} {arr : Array Value} {fz : Nat × Nat} (hg : W1.heap[g]? = some (.cells arr 5 fz)) (hc : n + s.size ≤ cap) (hca : cap ≤ arr.size) (hf : fz.2 ≤ n) :
    (Builtin.append_ #[102, 9] 102 #[.slice (some ⟨g, 0, none⟩) n cap, .string s]).run Tryz.prog W1 = .ok (.slice (some ⟨g, 0, none⟩) (n + s.size) cap) (upd W1 g (.cells (putA arr n (s.data.toList.map fun b => Value.int .u8 (b.toNat : Int))) 5 fz)) := by
  have hlen : (s.data.toList.map fun b => Value.int .u8 (b.toNat : Int)).length = s.size := by simp
  exact append_fits (c := cx) (W := W1) (ts := #[102, 9]) (ty := 102) (t := 102) (e := 5) (w := 1) (n := s.size) (ln := n) (cap := cap) (base := some ⟨g, 0, none⟩) (y' := .string s) (by rfl) (by rfl) (by rfl) (by rfl)
      (by simp [Builtin.lenOf]) hc fc_str' (fun p hp => by
        cases hp
        have := run_storeCells (P := cx.P) g 5 fz (s.data.toList.map fun b => Value.int .u8 (b.toNat : Int)) n arr W1 hg (by rw [hlen]; omega) (by intro o ho; simp; omega) (by intro v hv; obtain ⟨b, _, rfl⟩ := List.mem_map.1 hv; rfl) (0 + n * 1) 0 (by omega)
        have e : (⟨g, 0, none⟩ : Addr).add (n * 1) = ⟨g, 0 + n * 1, none⟩ := by
          unfold Addr.add
          by_cases h0 : n * 1 = 0
          · simp [h0]
          · have h1 : n ≠ 0 := by omega
            simp [h1]
        rw [e]; exact this) (fun h => by cases h)
/-- There is none. -/
theorem wr_grows {W1 : World} {n cap : Nat} {base : Option Addr} {s : ByteArray} {old : List Value} (hc : cap < n + s.size) (hbig : n + s.size ≤ 2000000000000) (ho : ∀ W', W'.heap = W1.heap → (Builtin.firstCells 1 n (.slice base n cap)).run Tryz.prog W' = .ok old.toArray W') (hol : old.length = n) :
    ∃ nc arr, (Builtin.append_ #[102, 9] 102 #[.slice base n cap, .string s]).run Tryz.prog W1 = .ok (.slice (some ⟨W1.heap.size, 0, none⟩) (n + s.size) nc) (psh (drw W1) (.cells arr 5)) ∧ (n + s.size ≤ nc ∧ nc ≤ maxLen) ∧ nc ≤ arr.size ∧ (∀ i, i < n + s.size → arr[i]? = (old ++ s.data.toList.map fun b => Value.int .u8 (b.toNat : Int))[i]?) := by
  obtain ⟨nc, arr, h1, h2, h3, h4⟩ := append_grows (c := cx) (W := W1) (ts := #[102, 9]) (ty := 102) (t := 102) (e := 5) (w := 1) (by_ := 1) (z := .s (.int .u8 0)) (n := s.size) (ln := n) (cap := cap) (base := base) (y' := .string s) (old := old) (new := s.data.toList.map fun b => Value.int .u8 (b.toNat : Int))
    (by rfl) (by rfl) (by rfl) (by rfl) (by rfl) (by omega) (by rfl) (by rfl) (by simp [Builtin.lenOf]) hc (by simp only [mostLen]; omega) ho (fun W' _ => fc_str s) (by omega) (by simp)
  exact ⟨nc, arr, h1, h2, by omega, fun i hi => h4 i (by omega)⟩
/-- Behind a writing the builder stands as it is told. -/
theorem wr_end {σ : Sg} {h : H} {W W1 W2 : World} {b B n' cap' g' : Nat} {r : Option (Nat × Nat)} {jo : Option Nat} {l' : List UInt8} {arr' : Array Value} {fz' : Nat × Nat} {v : Value} {s : ByteArray}
    (I : Inv σ h W1) (S1 : Step σ h W σ h W1) (hb : h[b]? = some (.bld 104 r)) (hl : σ.loc b = some (B, 0)) (hj : ∀ j, jo = some j → j ≠ b ∧ ∃ t l, h[j]? = some (.buf t l))
    (hB1 : W1.heap[B]? = some (.cells #[.pointer (some ⟨B, 0, none⟩), v] 104 (0, 0)))
    (hcc : Calls Tryz.prog 113 #[.pointer (some ⟨B, 0, none⟩)] W (fun e w' => e = .returned (.tuple #[]) ∧ w' = W1))
    (happ : (Builtin.append_ #[102, 9] 102 #[v, .string s]).run Tryz.prog W1 = .ok (.slice (some ⟨g', 0, none⟩) n' cap') W2)
    (hos : W2.os = W1.os) (htp : W2.tape = W1.tape) (hou : W2.output = W1.output) (hsz : W1.heap.size ≤ W2.heap.size)
    (hg' : W2.heap[g']? = some (.cells arr' 5 fz')) (hn : l'.length = n') (hn0 : 0 < n') (hnc : n' ≤ cap') (hcm : cap' ≤ maxLen) (hca : cap' ≤ arr'.size) (hfz : fz'.2 ≤ n')
    (hcell : ∀ (i : Nat) c, l'[i]? = some c → arr'[i]? = some (.int .u8 (c.toNat : Int)))
    (hgg : g' < W1.heap.size → ∃ j, jo = some j ∧ σ.loc j = some (g', 0)) (hgB : g' ≠ B)
    (hfr : ∀ c, c < W1.heap.size → c ≠ g' → W2.heap[c]? = W1.heap[c]?) (hbs : bsize W1 g' ≤ bsize W2 g') :
    Calls cx.P 58 #[.pointer (some ⟨B, 0, none⟩), .string s] W (fun e W' => ∃ z σ', e = .returned z ∧ VRel σ' W' (.tup [.i s.size, .s .nilIface]) z ∧ Inv σ' (wroteH h jo b 104 n' 5 l') W' ∧ Step σ h W σ' (wroteH h jo b 104 n' 5 l') W') := by
  have hBl := lt_of_heap hB1
  have hB2 : W2.heap[B]? = some (.cells #[.pointer (some ⟨B, 0, none⟩), v] 104 (0, 0)) := by rw [hfr B hBl (Ne.symm hgB)]; exact hB1
  refine (write_run (s := s) hcc hB1 happ hB2).mono ?_
  rintro e W' ⟨rfl, rfl⟩
  rw [setCell_upd hB2]
  have e1 : (#[Value.pointer (some ⟨B, 0, none⟩), v] : Array Value).setIfInBounds 1 (.slice (some ⟨g', 0, none⟩) n' cap') = #[.pointer (some ⟨B, 0, none⟩), .slice (some ⟨g', 0, none⟩) n' cap'] := rfl
  rw [e1]
  have hg2 : g' ≠ B := hgB
  obtain ⟨I2, S2⟩ := bld_wrote (W' := upd W2 B (.cells #[.pointer (some ⟨B, 0, none⟩), .slice (some ⟨g', 0, none⟩) n' cap'] 104 (0, 0))) (t8 := 5) (l' := l') I hb hl hj hos htp hou (by simpa [upd] using hsz) (upd_at (lt_of_heap hB2)) ⟨_, hB1, rfl⟩ (.inr rfl) (by rw [upd_ne hg2]; exact hg') hn hn0 hnc hcm hca hfz hcell hgg hgB
    (fun c hc h1 h2 => by rw [upd_ne h1]; exact hfr c hc h2) (by rw [bsize_congr (upd_ne hg2)]; exact hbs)
  refine ⟨_, _, rfl, ?_, I2, S1.trans S2⟩
  refine VRel.tup_iff.2 ⟨_, rfl, by simp [L2], fun i a c ha hc => ?_⟩
  match i with
  | 0 => simp at ha hc; subst ha; subst hc; exact VRel.s_iff.2 ⟨rfl, rfl⟩
  | 1 => simp at ha hc; subst ha; subst hc; exact VRel.s_iff.2 ⟨rfl, rfl⟩
  | k + 2 => simp at ha
theorem h58 : HPrimOk' 58 (pWriteT 104 5) := by
  refine ⟨enters (fn := Tryz.f58) (by rfl) (by rfl) (by decide), ?_⟩
  intro args h v s n hv σ W xs hx I hg
  obtain ⟨H0, hH0⟩ : ∃ H0, H0 = h := ⟨_, rfl⟩
  unfold pWriteT at hv
  split at hv
  case h_2 => cases hv
  rename_i h0 b x
  split at hv
  case h_2 => cases hv
  rename_i t r hb
  split at hv
  case isFalse => cases hv
  rename_i ht
  subst ht
  unfold pWrite at hv
  split at hv
  case h_2 => cases hv
  rename_i h1 b1 str heq
  simp only [List.cons.injEq, V.ptr.injEq, and_true] at heq
  obtain ⟨rfl, rfl⟩ := heq
  split at hv
  case isFalse => cases hv
  rename_i hsize
  obtain ⟨x1, y1, rfl, r1, r2⟩ := two_of hx
  obtain ⟨B, d, hl, rfl⟩ := VRel.ptr_iff.1 r1
  obtain ⟨rfl, _⟩ := VRel.s_iff.1 r2
  obtain ⟨_, ob, hob, hop⟩ := I.map _ _ B d hb rfl hl
  cases ob with
  | cells arr t' fz =>
    obtain ⟨rfl, rfl, rfl, p, val, rfl, hp, hval⟩ := hop
    obtain ⟨W1, hcc, hB1, I1, S1⟩ := cc_run I hb hl hob hp
    cases r with
    | none =>
      simp only at hval
      subst hval
      rw [hb] at hv
      simp only at hv
      by_cases h0 : str.size = 0
      · rw [if_pos h0] at hv
        cases hv
        obtain ⟨ha, hk⟩ := wr_none (s := str) hB1 h0 (Nat.le_refl 0)
        refine (write_run (s := str) hcc hB1 ha hB1).mono ?_
        rintro e W' ⟨rfl, rfl⟩
        rw [hk]
        refine ⟨_, σ, rfl, ?_, by simpa using I1, by simpa using S1⟩
        refine VRel.tup_iff.2 ⟨_, rfl, by simp [L2], fun i a c ha hc => ?_⟩
        match i with
        | 0 => simp at ha hc; subst ha; subst hc; exact VRel.s_iff.2 ⟨rfl, rfl⟩
        | 1 => simp at ha hc; subst ha; subst hc; exact VRel.s_iff.2 ⟨rfl, rfl⟩
        | k + 2 => simp at ha
      · rw [if_neg h0] at hv
        cases hv
        obtain ⟨nc, arr, k1, ⟨k2, k2'⟩, k3, k4⟩ := wr_grows (W1 := W1) (n := 0) (cap := 0) (base := none) (s := str) (old := []) (by omega) (by omega) (fun W' _ => by simp [Builtin.firstCells, loadCells, loadCellsFrom]) rfl
        have hlen : str.data.toList.length = str.size := by simp
        have := wr_end (s := str) (jo := none) (l' := str.data.toList) (arr' := arr) (fz' := (0, 0)) I1 S1 hb hl (fun j hj => by cases hj) hB1 hcc k1 rfl rfl rfl (by simp [psh, drw]) (by exact psh_new) (by simpa using hlen) (by omega) k2 k2' k3 (by simp) (fun i c hc => by
            have hi : i < str.size := by rw [← hlen]; exact (List.getElem?_eq_some_iff.1 hc).1
            rw [k4 i (by omega)]; simp [hc]) (fun hlt => by omega) (by have := lt_of_heap hB1; omega) (fun c hc h1 => by exact psh_old hc) (by
            have : W1.heap[W1.heap.size]? = none := Array.getElem?_eq_none (by omega)
            unfold bsize; rw [this]; simp)
        have e : wroteH H0 none b 104 (0 + str.size) 5 str.data.toList = ([(b, O.bld 104 (some (H0.length, str.size)))].foldl (fun h p => h.set p.1 p.2) H0) ++ [.buf 5 str.data.toList] := by simp [wroteH]
        subst hH0
        rw [e] at this
        exact this
    | some q =>
      obtain ⟨j, n⟩ := q
      obtain ⟨g, cap, c1, rfl, c2, c3, c4, c5⟩ := hval
      rw [hb] at hv
      simp only at hv
      split at hv
      case h_2 => cases hv
      rename_i t' l hjb
      split at hv
      case isFalse => cases hv
      rename_i hc
      obtain ⟨hn1, rfl, rfl⟩ := hc
      have hjb2 : j ≠ b := by rintro rfl; rw [hb] at hjb; cases hjb
      have hgB : g ≠ B := by rintro rfl; exact hjb2 (I.inj j b _ _ g 0 0 hjb rfl hb rfl c1 hl)
      obtain ⟨_, obg, hobg, hopg⟩ := I1.map j _ g 0 hjb rfl c1
      have c6 := Nat.le_trans c5 (S1.mo.bsz g)
      cases obg with
      | cells arrg tg fzg =>
        obtain ⟨rfl, _, d1, d2, d3⟩ := hopg
        rw [bsize_of hobg] at c6
        have hlen : str.data.toList.length = str.size := by simp
        by_cases h0 : str.size = 0
        · rw [if_pos h0] at hv
          cases hv
          obtain ⟨ha, hk⟩ := wr_none (s := str) hB1 h0 c3
          refine (write_run (s := str) hcc hB1 ha hB1).mono ?_
          rintro e W' ⟨rfl, rfl⟩
          rw [hk]
          refine ⟨_, σ, rfl, ?_, by simpa using I1, by simpa using S1⟩
          refine VRel.tup_iff.2 ⟨_, rfl, by simp [L2], fun i a c ha hc => ?_⟩
          match i with
          | 0 => simp at ha hc; subst ha; subst hc; exact VRel.s_iff.2 ⟨rfl, rfl⟩
          | 1 => simp at ha hc; subst ha; subst hc; exact VRel.s_iff.2 ⟨rfl, rfl⟩
          | k + 2 => simp at ha
        · rw [if_neg h0] at hv
          cases hv
          have fin := fun {W2 : World} {cap' g' : Nat} {arr' : Array Value} {fz' : Nat × Nat} => wr_end (s := str) (W2 := W2) (cap' := cap') (g' := g') (arr' := arr') (fz' := fz') (n' := l.length + str.size) (jo := some j) (l' := l ++ str.data.toList) I1 S1 hb hl (fun j' hj' => by cases hj'; exact ⟨hjb2, _, _, hjb⟩) hB1 hcc
          have e : wroteH H0 (some j) b 104 (l.length + str.size) 5 (l ++ str.data.toList) = ([(j, O.dead), (b, O.bld 104 (some (H0.length, l.length + str.size)))].foldl (fun h p => h.set p.1 p.2) H0) ++ [.buf 5 (l ++ str.data.toList)] := by simp [wroteH]
          subst hH0
          rw [← e]
          by_cases hfit : l.length + str.size ≤ cap
          · have hpl : l.length + (str.data.toList.map fun b => Value.int .u8 (b.toNat : Int)).length ≤ arrg.size := by simp; omega
            exact fin (wr_fits (s := str) hobg hfit c6 d2) rfl rfl rfl (by simp [upd]) (upd_at (lt_of_heap hobg)) (by simp) (by omega) hfit c4 (by rw [putA_size hpl]; exact c6) (by omega)
              (fun i c hc => by
                by_cases hi : i < l.length
                · rw [putA_lo hpl hi]; rw [List.getElem?_append_left hi] at hc; exact d3 i c hc
                · obtain ⟨q, rfl⟩ : ∃ q, i = l.length + q := ⟨i - l.length, by omega⟩
                  rw [List.getElem?_append_right (by omega), Nat.add_sub_cancel_left] at hc
                  rw [putA_in hpl (by simp; have := (List.getElem?_eq_some_iff.1 hc).1; simpa using this)]
                  simp [hc])
              (fun _ => ⟨j, rfl, c1⟩) hgB (fun c _ h1 => upd_ne h1) (by rw [bsize_of hobg, bsize_of (upd_at (lt_of_heap hobg)), putA_size hpl]; exact Nat.le_refl _)
          · obtain ⟨nc, arr, k1, ⟨k2, k2'⟩, k3, k4⟩ := wr_grows (W1 := W1) (n := l.length) (cap := cap) (base := some ⟨g, 0, none⟩) (s := str) (old := l.map fun b => Value.int .u8 (b.toNat : Int)) (by omega) (by omega) (fun W' hW' => by
              have := run_loadCells' (P := Tryz.prog) (w := W') (c := g) (o := 0) (ys := l.map fun b => Value.int .u8 (b.toNat : Int)) (fun i y hy => by
                simp only [List.getElem?_map] at hy
                obtain ⟨b', hb', rfl⟩ := Option.map_eq_some_iff.1 hy
                have e2 := d3 i b' hb'
                rw [Nat.zero_add, cellAt_congr (w := W1) (w' := W') (by rw [hW']), cellAt_of hobg]; exact e2)
              simp only [Builtin.firstCells]
              simpa using this) (by simp)
            exact fin k1 rfl rfl rfl (by simp [psh, drw]) psh_new (by simp) (by omega) k2 k2' k3 (by simp)
              (fun i c hc => by
                have hi : i < l.length + str.size := by have := (List.getElem?_eq_some_iff.1 hc).1; simpa using this
                rw [k4 i hi, ← List.map_append, List.getElem?_map, hc]; rfl)
              (fun hlt => by omega) (by have := lt_of_heap hB1; omega) (fun c hc h1 => psh_old hc) (by
                have : W1.heap[W1.heap.size]? = none := Array.getElem?_eq_none (by omega)
                unfold bsize; rw [this]; simp)
      | _ => exact hopg.elim
  | _ => exact hop.elim
end ZD
open Go Go.AM Go.Proofs Go.AM.Pl Go.RowKit Go.Shelf
set_option maxRecDepth 100000
set_option maxHeartbeats 4000000
namespace ZD
/-- String, of a builder that holds bytes: the world behind it. -/
theorem str_run {B g cap : Nat} {p : Value} {l : List UInt8} {w : World} {cur : Array Value} {fz : Nat × Nat} {T : TypeId}
    (hbk : w.heap[B]? = some (.cells #[p, .slice (some ⟨g, 0, none⟩) l.length cap] T (0, 0))) (hg : w.heap[g]? = some (.cells cur (renB.t 5) fz)) (h0 : l ≠ []) (hcl : l.length ≤ cur.size) (hlm : l.length ≤ 1000000000000000) (hnc : l.length ≤ cap)
    (hcells : ∀ (i : Nat) c, l[i]? = some c → cur[i]? = some (.int .u8 (c.toNat : Int))) :
    Calls Tryz.prog (renB.f 169) #[.pointer (some ⟨B, 0, none⟩)] w fun e w' => e = .returned (.string ⟨l.toArray⟩) ∧ w' = w.drew.freeze ⟨g, 0, none⟩ l.length := by
  have L := laysString
  have X := extraB
  have c1 : w.drew.cell? ⟨B, 1, none⟩ = some (.slice (some ⟨g, 0, none⟩) l.length cap) := by
    have : w.drew.heap[B]? = some (.cells #[p, .slice (some ⟨g, 0, none⟩) l.length cap] T (0, 0)) := hbk
    rw [Lib.cell_of_heap this]; rfl
  have hl0 : l.length ≠ 0 := by simpa using h0
  have hSD : (Builtin.unsafeSliceData_ #[(renB.t 37)] (renB.t 127) #[.slice (some ⟨g, 0, none⟩) l.length cap]).run Tryz.prog w.drew = .ok (.pointer (some ⟨g, 0, none⟩)) w.drew :=
    Lib.run_unsafeSliceData_row _ _ _ _ _ _ (by omega)
  have hUS : (Builtin.unsafeString_ #[(renB.t 127), (renB.t 3)] (renB.t 9) #[.pointer (some ⟨g, 0, none⟩), .int .i64 l.length]).run Tryz.prog w.drew = .ok (.string ⟨l.toArray⟩) (w.drew.freeze ⟨g, 0, none⟩ l.length) := by
    refine Lib.run_unsafeString_row w.drew (renB.t 127) (renB.t 3) (renB.t 9) (renB.t 5) L.t127 X.cellsByte g cur.size (by have hg' : w.drew.heap[g]? = some (.cells cur (renB.t 5) fz) := hg; simp [World.shape?, hg']) l h0 (by omega) (by omega) ?_
    intro j x hx
    have hg' : w.drew.heap[g]? = some (.cells cur (renB.t 5) fz) := hg
    have e : (⟨g, 0, none⟩ : Addr).add j = ⟨g, j, none⟩ := by
      unfold Addr.add
      by_cases h0 : j = 0 <;> simp [h0]
    rw [e, Lib.cell_of_heap hg']
    exact hcells j x hx
  have mixed := L.mixed
  have t72 := L.t72; have a72 := L.a72; have z72 := L.z72; have v72 := L.v72; have u72 := run_underlying L.t72
  have t70 := L.t70; have a70 := L.a70; have z70 := L.z70; have v70 := L.v70; have u70 := run_underlying L.t70
  have t37 := L.t37; have a37 := L.a37; have z37 := L.z37; have v37 := L.v37; have u37 := run_underlying L.t37
  have t127 := L.t127; have a127 := L.a127; have z127 := L.z127; have v127 := L.v127; have u127 := run_underlying L.t127
  have t3 := L.t3; have a3 := L.a3; have z3 := L.z3; have v3 := L.v3; have u3 := run_underlying L.t3
  have t9 := L.t9; have a9 := L.a9; have z9 := L.z9; have v9 := L.v9; have u9 := run_underlying L.t9
  have t5 := X.t5; have a5 := X.a5; have z5 := X.z5; have v5 := X.v5; have u5 := run_underlying X.t5
  obtain ⟨ρ, hρ⟩ : ∃ ρ, renB = ρ := ⟨_, rfl⟩
  obtain ⟨P, hP⟩ : ∃ P, Tryz.prog = P := ⟨_, rfl⟩
  simp only [hρ, hP] at *
  go_enter L.f169, Body.n169_ntmps ρ
  go_wp2
  go_region_o
  all_goals (go_wp2; go_ret; exact ⟨rfl, rfl⟩)
theorem str_none {B : Nat} {p : Value} {w : World} {T : TypeId} (hbk : w.heap[B]? = some (.cells #[p, .slice none 0 0] T (0, 0))) :
    Calls Tryz.prog (renB.f 169) #[.pointer (some ⟨B, 0, none⟩)] w fun e w' => e = .returned (.string ⟨#[]⟩) ∧ w' = w.drew := by
  have L := laysString
  have X := extraB
  have hUS := Any.unsafeString_none L X
  have c1 : w.drew.cell? ⟨B, 1, none⟩ = some (.slice none 0 0) := by
    have : w.drew.heap[B]? = some (.cells #[p, .slice none 0 0] T (0, 0)) := hbk
    rw [Lib.cell_of_heap this]; rfl
  have hSD : (Builtin.unsafeSliceData_ #[(renB.t 37)] (renB.t 127) #[.slice none 0 0]).run Tryz.prog w.drew = .ok (.pointer none) w.drew := rfl
  have mixed := L.mixed
  have t72 := L.t72; have a72 := L.a72; have z72 := L.z72; have v72 := L.v72; have u72 := run_underlying L.t72
  have t70 := L.t70; have a70 := L.a70; have z70 := L.z70; have v70 := L.v70; have u70 := run_underlying L.t70
  have t37 := L.t37; have a37 := L.a37; have z37 := L.z37; have v37 := L.v37; have u37 := run_underlying L.t37
  have t127 := L.t127; have a127 := L.a127; have z127 := L.z127; have v127 := L.v127; have u127 := run_underlying L.t127
  have t3 := L.t3; have a3 := L.a3; have z3 := L.z3; have v3 := L.v3; have u3 := run_underlying L.t3
  have t9 := L.t9; have a9 := L.a9; have z9 := L.z9; have v9 := L.v9; have u9 := run_underlying L.t9
  have t5 := X.t5; have a5 := X.a5; have z5 := X.z5; have v5 := X.v5; have u5 := run_underlying X.t5
  obtain ⟨ρ, hρ⟩ : ∃ ρ, renB = ρ := ⟨_, rfl⟩
  obtain ⟨P, hP⟩ : ∃ P, Tryz.prog = P := ⟨_, rfl⟩
  simp only [hρ, hP] at *
  go_enter L.f169, Body.n169_ntmps ρ
  go_wp2
  go_region_o
  all_goals (go_wp2; go_ret; exact ⟨rfl, rfl⟩)
end ZD
namespace Go.AM
/-- A builder's bytes are frozen. -/
theorem buf_froze {σ : Sg} {h : H} {W W' : World} (I : Inv σ h W) {j g T : Nat} {l : List UInt8} {arr : Array Value} {fz fz' : Nat × Nat}
    (hb : h[j]? = some (.buf T l)) (hl : σ.loc j = some (g, 0)) (hB : W.heap[g]? = some (.cells arr T fz))
    (hos : W'.os = W.os) (htp : W'.tape = W.tape) (hou : W'.output = W.output) (hsz : W'.heap.size = W.heap.size)
    (hB' : W'.heap[g]? = some (.cells arr T fz')) (hfz : fz'.2 ≤ l.length)
    (hfr : ∀ c, c ≠ g → W'.heap[c]? = W.heap[c]?) : Inv σ h W' ∧ Step σ h W σ h W' := by
  obtain ⟨hrB, ob, hob, hop⟩ := I.map j _ g 0 hb rfl hl
  rw [hB] at hob; cases hob
  have hreg : ∀ c n, σ.reg c = some n → W'.heap[c]? = W.heap[c]? := by
    intro c n hc
    refine hfr c ?_
    rintro rfl; rw [hrB] at hc; cases hc
  have M : Mo σ W σ W' := {
    loc := fun i q hq => hq
    reg := fun c n hc => ⟨n, hc, Nat.le_refl _⟩
    cel := fun c n o hc ho => cellAt_congr (hreg c n hc)
    bsz := fun c => by
      by_cases h1 : c = g
      · subst h1; rw [bsize_of hB, bsize_of hB']; exact Nat.le_refl _
      · rw [bsize_congr (hfr c h1)]; exact Nat.le_refl _
    bse := fun c n hc => bsize_congr (hreg c n hc) }
  have other : ∀ {i o cc dd}, h[i]? = some o → o.live = true → σ.loc i = some (cc, dd) → i ≠ j → cc ≠ g := by
    rintro i o cc dd h1 h2 h3 h4 rfl
    exact h4 (I.inj i j o _ cc dd 0 h1 h2 hb rfl h3 hl)
  refine ⟨?_, ⟨M, hos, htp, hou, by omega, Nat.le_refl _, fun c hc hn => ⟨hfr c ?_, rfl⟩, fun c hc hh => hh, fun i q hq hi => hq⟩⟩
  · constructor
    · intro i cs cc dd ho hl'
      have hi : i ≠ j := by rintro rfl; rw [hb] at ho; cases ho
      obtain ⟨arr, e, a1, a2, a3, a4⟩ := I.box i cs cc dd ho hl'
      exact ⟨arr, e, by rw [hfr cc (other ho rfl hl' hi)]; exact a1, a2, fun j v hv => let ⟨y, hy, r⟩ := a3 j v hv; ⟨y, hy, r.mono M⟩, a4⟩
    · intro i cc dd ho hl'
      have hi : i ≠ j := by rintro rfl; rw [hb] at ho; cases ho
      obtain ⟨a1, arr, e, fz, a2, a3⟩ := I.tip i cc dd ho hl'
      exact ⟨a1, arr, e, fz, by rw [hfr cc (other ho rfl hl' hi)]; exact a2, a3⟩
    · intro i o cc dd ho hq hl'
      by_cases hi : i = j
      · subst hi
        rw [hb] at ho; cases ho
        rw [hl] at hl'; cases hl'
        obtain ⟨h1, h2, h3, h4, h5⟩ := hop
        exact ⟨hrB, _, hB', rfl, rfl, h3, hfz, h5⟩
      · obtain ⟨a1, ob, a2, a3⟩ := I.map i o cc dd ho hq hl'
        exact ⟨a1, ob, by rw [hfr cc (other ho (O.opq_live hq) hl' hi)]; exact a2, a3.mono M⟩
    · exact I.inj
    · intro c n hc
      obtain ⟨arr, e, fz, a1, a2⟩ := I.rsz c n hc
      exact ⟨arr, e, fz, by rw [hreg c n hc]; exact a1, a2⟩
    · intro i cc dd hl'
      obtain ⟨a1, a2⟩ := I.lsz i cc dd hl'
      exact ⟨by omega, a2⟩
  · rintro rfl; exact hn ⟨j, _, 0, hb, rfl, hl⟩
theorem freeze_upd {w : World} {g n : Nat} {arr : Array Value} {T : TypeId} {fz : Nat × Nat} (hg : w.heap[g]? = some (.cells arr T fz)) (hn : n ≠ 0) : ∃ fz', w.freeze ⟨g, 0, none⟩ n = upd w g (.cells arr T fz') ∧ (fz.2 ≤ n → fz'.2 ≤ n) := by
  have hlt := (Array.getElem?_eq_some_iff.1 hg).1
  obtain ⟨lo, hi⟩ := fz
  refine ⟨if lo == hi then (0, 0 + n) else (min lo 0, max hi (0 + n)), ?_, fun h => ?_⟩
  · unfold World.freeze
    rw [if_neg hn]
    unfold upd
    congr 1
    apply Array.ext'
    rw [Array.toList_modify, Array.toList_setIfInBounds]
    have hg2 : w.heap.toList[g]? = some (.cells arr T (lo, hi)) := by rw [Array.getElem?_toList]; exact hg
    apply List.ext_getElem?
    intro i
    rw [List.getElem?_modify, List.getElem?_set]
    have hge : w.heap[g] = .cells arr T (lo, hi) := (Array.getElem?_eq_some_iff.1 hg).2
    by_cases hi' : g = i
    · subst hi'; simp [hg2, hlt, hge]
    · simp [hi']
  · split
    · simp
    · simp at h ⊢; omega
end Go.AM
namespace ZD
theorem h63 : HPrimOk' 63 (pStringT 104 5) := by
  refine ⟨enters (fn := Tryz.f63) (by rfl) (by rfl) (by decide), ?_⟩
  intro args h v s n hv σ W xs hx I hg
  obtain ⟨H0, hH0⟩ : ∃ H0, H0 = h := ⟨_, rfl⟩
  unfold pStringT at hv
  split at hv
  case h_2 => cases hv
  rename_i h0 b
  have one : ∃ x1, xs = #[x1] ∧ VRel σ W (.ptr b 0) x1 := by
    obtain ⟨l⟩ := xs
    match l, hx with
    | [x], hx => exact ⟨x, rfl, hx.2 0 _ x rfl rfl⟩
  obtain ⟨x1, rfl, r1⟩ := one
  obtain ⟨B, d, hl, rfl⟩ := VRel.ptr_iff.1 r1
  split at hv
  · rename_i t hb
    split at hv
    case isFalse => cases hv
    rename_i ht
    subst ht
    cases hv
    obtain ⟨_, ob, hob, hop⟩ := I.map _ _ B d hb rfl hl
    cases ob with
    | cells arr t' fz =>
      obtain ⟨rfl, rfl, rfl, p, val, rfl, hp, hval⟩ := hop
      simp only at hval
      subst hval
      refine (str_none hob).mono ?_
      rintro e W' ⟨rfl, rfl⟩
      have hd : W.drew = drw W := rfl
      rw [hd]
      exact ⟨_, σ, rfl, VRel.s_iff.2 ⟨rfl, rfl⟩, by simpa using I.drw, by simpa using Step.drw⟩
    | _ => exact hop.elim
  · rename_i t j n hb
    split at hv
    case h_2 => cases hv
    rename_i t' l hjb
    split at hv
    case isFalse => cases hv
    rename_i hc
    obtain ⟨rfl, rfl, rfl, hlen⟩ := hc
    cases hv
    obtain ⟨_, ob, hob, hop⟩ := I.map _ _ B d hb rfl hl
    cases ob with
    | cells arr t' fz =>
      obtain ⟨rfl, rfl, rfl, p, val, rfl, hp, hval⟩ := hop
      obtain ⟨g, cap, c1, rfl, c2, c3, c4, c5⟩ := hval
      obtain ⟨_, obg, hobg, hopg⟩ := I.map j _ g 0 hjb rfl c1
      cases obg with
      | cells arrg tg fzg =>
        obtain ⟨rfl, _, d1, d2, d3⟩ := hopg
        have hne : l ≠ [] := by rintro rfl; simp at c2
        refine (str_run hob hobg hne d1 hlen c3 d3).mono ?_
        rintro e W' ⟨rfl, rfl⟩
        have hgd : W.drew.heap[g]? = some (.cells arrg 5 fzg) := hobg
        obtain ⟨fz', f1, f2⟩ := freeze_upd (n := l.length) hgd (by omega)
        rw [f1]
        obtain ⟨I2, S2⟩ := buf_froze (W' := upd W.drew g (.cells arrg 5 fz')) (I.drw (W := W)) hjb c1 hgd rfl rfl rfl (by simp [upd]; rfl) (upd_at (lt_of_heap hgd)) (f2 d2) (fun c hc => upd_ne hc)
        exact ⟨_, σ, rfl, VRel.s_iff.2 ⟨rfl, rfl⟩, by simpa using I2, by simpa using Step.drw.trans S2⟩
      | _ => exact hopg.elim
    | _ => exact hop.elim
  · cases hv
end ZD
open Go Go.AM Go.Proofs Go.AM.Pl Go.RowKit
set_option maxRecDepth 100000
set_option maxHeartbeats 4000000
namespace ZD
def renG : Go.Shelf.Ren := ⟨fun | 4 => 99 | n => n, fun | 0 => 0 | 3 => 3 | 4 => 4 | 9 => 9 | 20 => 20 | 22 => 26 | 25 => 3 | n => n, fun n => n⟩
theorem laysG : Go.Proofs.Lays8.n4 Tryz.prog renG := {
  mixed := by kernel_rfl
  f4 := ⟨ "slices.Grow[[]int,int]", by decide, Tryz.func99.trans (congrArg some (by kernel_rfl))⟩
  t0 := Tryz.underlying0
  a0 := Tryz.isAgg0
  z0 := Tryz.sizeOf0
  v0 := Tryz.zeroValue0
  t3 := Tryz.underlying3
  a3 := Tryz.isAgg3
  z3 := Tryz.sizeOf3
  v3 := Tryz.zeroValue3
  t4 := Tryz.underlying4
  a4 := Tryz.isAgg4
  z4 := Tryz.sizeOf4
  v4 := Tryz.zeroValue4
  t9 := Tryz.underlying9
  a9 := Tryz.isAgg9
  z9 := Tryz.sizeOf9
  v9 := Tryz.zeroValue9
  t20 := Tryz.underlying20
  a20 := Tryz.isAgg20
  z20 := Tryz.sizeOf20
  v20 := Tryz.zeroValue20
  t22 := Tryz.underlying26
  a22 := Tryz.isAgg26
  z22 := Tryz.sizeOf26
  v22 := Tryz.zeroValue26 }
theorem info3 : ∃ i0, Tryz.prog.info? 3 = some i0 ∧ i0.zero = some (.int .i64 0) ∧ i0.size = 1 ∧ i0.bytes = 8 := by
  have h : ((Tryz.prog.info? 3).map fun i => (i.zero, i.size, i.bytes)) = some (some (.int .i64 0), 1, 8) := by kernel_rfl
  obtain ⟨i, h1, h2⟩ := Option.map_eq_some_iff.1 h
  simp only [Prod.mk.injEq] at h2
  exact ⟨i, h1, h2.1, h2.2.1, h2.2.2⟩
theorem h99 : HPrimOk' 99 (pGrow 1) := by
  refine ⟨enters (fn := Tryz.f99) (by rfl) (by rfl) (by decide), ?_⟩
  intro args h v s n hv σ W xs hx I hg
  unfold pGrow at hv
  split at hv
  · rename_i h0 w0 m
    obtain ⟨x, y, rfl, h1, h2⟩ := two_of hx
    obtain ⟨rfl, _⟩ := VRel.s_iff.1 h2
    obtain ⟨base, cap, rfl, n0, n1, _⟩ := VRel.vsl_iff.1 h1
    have hb := n1 rfl
    have hc := n0 hb
    subst hb; subst hc
    split at hv
    · rename_i hm
      subst hm
      cases hv
      refine (Any8.slices_Grow_room laysG none 0 0 0 W (by omega) (by omega) (by omega) (by omega)).mono ?_
      rintro e W' ⟨rfl, rfl⟩
      refine ⟨_, σ, rfl, (VRel.vs_iff (fun _ => rfl)).2 (VRel.vsl_iff.2 ⟨none, 0, rfl, fun _ => rfl, fun _ => rfl, Nat.le_refl _, (fun _ => rfl), (fun _ id hid => by cases hid), fun hne => (hne rfl).elim⟩), by simpa using I, by simpa using Step.refl σ h W'⟩
    · split at hv
      · rename_i hm0 hm
        cases hv
        obtain ⟨k, rfl⟩ : ∃ k : Nat, m = k := ⟨m.toNat, by omega⟩
        obtain ⟨i0, hi, hz, hs1, hs2⟩ : ∃ i0, Tryz.prog.info? 3 = some i0 ∧ i0.zero = some (.int .i64 0) ∧ i0.size = 1 ∧ i0.bytes = 8 := info3
        refine (Any8.slices_Grow_grow laysG i0 (.int .i64 0) hi hz (by omega) none 0 0 k [] W (by omega) (by omega) (by rw [hs2]; omega) (by omega) (by simp) (fun _ => rfl) (fun a ha => by cases ha)).mono ?_
        rintro e W' ⟨rfl, rfl⟩
        obtain ⟨G, hG⟩ : ∃ G, grownCap W (0 + k) 0 (renG.t 25) = G := ⟨_, rfl⟩
        have hle := grownCap_ge W (0 + k) 0 (renG.t 25)
        rw [hG] at hle ⊢
        have hsz : ∀ (z : Array Value) n, z.size = 1 → (Builtin.zeroCells z n).size = n := by
          intro z n hz; simp [Builtin.zeroCells, hz]
        obtain ⟨I2, s2, r2⟩ := new_row (st := { env := [], lb := [], h := h }) I.drw [] 1 (#[] ++ Builtin.zeroCells (Value.int .i64 0).cells (0 + k - 0) ++ Builtin.zeroCells (Value.int .i64 0).cells (G - (0 + k))) 3 (by omega) (fun _ h => by cases h) (by simp) (fun i v hv => by simp at hv) true G (by simp) (by
          rw [Array.size_append, Array.size_append, hsz _ _ rfl, hsz _ _ rfl]; simp; omega) (fun h => by cases h)
        exact ⟨_, _, rfl, r2, I2, Step.drw.trans s2⟩
      · cases hv
  · cases hv
theorem good : Good cx where
  mixed := mixed
  wf := by
    intro f fn code hf hb
    have h := List.all_eq_true.1 wf_all fn (by rw [← Array.getElem?_toList] at hf; exact List.mem_of_getElem? hf)
    unfold wfF at h
    rw [hb] at h
    simp only [Bool.and_eq_true, bne_iff_ne, ne_eq] at h
    exact h
  prim := by
    intro f g h
    simp only [cx] at h
    repeat' split at h
    · rename_i e; cases h; subst e; exact p114
    · rename_i e; cases h; subst e; exact p143
    · rename_i e; cases h; subst e; exact p148
    · rename_i e; cases h; subst e; exact p149
    · rename_i e; cases h; subst e; exact p174
    · rename_i e; cases h; subst e; exact p123
    · cases h
  hprim := by
    intro f g h
    simp only [cx] at h
    repeat' split at h
    · rename_i e; cases h; subst e; exact h99
    · rename_i e; cases h; subst e; exact h58
    · rename_i e; cases h; subst e; exact h63
    · cases h
end ZD

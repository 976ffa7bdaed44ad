/- The contracts of the library functions, and that the program is one of which the abstract machine speaks. No condition. -/
import Derived.Test.YtieenbjncimikaaGreatDoorCx
import Derived.Test.YtieenbjncimikaaGreatDoorAmD
import Derived.Test.YtieenbjncimikaaGreatDoorAmF
import Derived.Shelf.Strconv.Itoa3
import Derived.Test.YtieenbjncimikaaGreatDoorShelf
import Derived.Test.YtieenbjncimikaaGreatDoorAmB
import Derived.Lib.Split
import Derived.Shelf.Strings.Split
set_option linter.all false
open Go Go.AM Go.Proofs
namespace ZD
def wfF (fn : Func) : Bool := match fn.body with
  | some code => wfC fn.ntmps code && fn.name != "runtime.NumGoroutine"
  | none => true
theorem wf_all : Tryz.prog.funcs.toList.all wfF = true := by decide +kernel
theorem mixed : Tryz.prog.follows .mixedOrders = true := by decide +kernel
end ZD
open Go Go.AM Go.Proofs Go.AM.Pl Go.RowKit
set_option maxRecDepth 100000
set_option maxHeartbeats 4000000
namespace ZD
/-- What is asked of a primitive. -/
def PrimOk (f : FuncId) (g : List V → Option V) : Prop := (∀ xs W, (callFunc f xs).run cx.P W = .ok (.enter f xs) W) ∧ ∀ args v, g args = some v → ∀ (h : H) σ W (xs : Array Value), L2 (VRel σ W) args xs.toList → Inv σ h W → GlobOk cx σ W →
    Calls cx.P f xs W (fun e W' => ∃ z σ', e = .returned z ∧ VRel σ' W' v z ∧ Inv σ' h W' ∧ Step σ h W σ' h W')
theorem enters {f : FuncId} {fn : Func} {code : Code} (hf : cx.P.funcs[f]? = some fn) (hc : fn.body = some code) (hn : fn.name ≠ "runtime.NumGoroutine") : ∀ xs W, (callFunc f xs).run cx.P W = .ok (.enter f xs) W := by
  intro xs W
  simp only [callFunc, Sem.run_bind, run_program, Result.andThen_ok, hf]
  rw [if_neg (by simpa using hn)]
  simp [hc]
theorem str_of {σ : Sg} {W : World} {b : ByteArray} {x : Value} (h : VRel σ W (.s (.string b)) x) : x = .string b := (VRel.s_iff.1 h).1
theorem one_of {σ : Sg} {W : World} {a : V} {xs : Array Value} (h : L2 (VRel σ W) [a] xs.toList) : ∃ x, xs = #[x] ∧ VRel σ W a x := by
  obtain ⟨l⟩ := xs
  match l, h with
  | [x], h => exact ⟨x, rfl, h.2 0 a x rfl rfl⟩
theorem two_of {σ : Sg} {W : World} {a b : V} {xs : Array Value} (h : L2 (VRel σ W) [a, b] xs.toList) : ∃ x y, xs = #[x, y] ∧ VRel σ W a x ∧ VRel σ W b y := by
  obtain ⟨l⟩ := xs
  match l, h with
  | [x, y], h => exact ⟨x, y, rfl, h.2 0 a x rfl rfl, h.2 1 b y rfl rfl⟩
theorem three_of {σ : Sg} {W : World} {a b c : V} {xs : Array Value} (h : L2 (VRel σ W) [a, b, c] xs.toList) : ∃ x y z, xs = #[x, y, z] ∧ VRel σ W a x ∧ VRel σ W b y ∧ VRel σ W c z := by
  obtain ⟨l⟩ := xs
  match l, h with
  | [x, y, z], h => exact ⟨x, y, z, rfl, h.2 0 a x rfl rfl, h.2 1 b y rfl rfl, h.2 2 c z rfl rfl⟩
theorem back {σ : Sg} {h : H} {W W' : World} {v : V} {z : Value} (I : Inv σ h W) (b : RowKit.Below W.heap.size W W') (r : VRel σ W v z) : ∃ z' σ', Ending.returned z = .returned z' ∧ VRel σ' W' v z' ∧ Inv σ' h W' ∧ Step σ h W σ' h W' :=
  ⟨z, σ, rfl, r.mono (Mo.below I b), I.below b, .below I b⟩
theorem below_drewN (W : World) (n : Nat) : Below W.heap.size W (W.drewN n) := ⟨rfl, rfl, rfl, Nat.le_refl _, fun _ _ => rfl⟩
theorem below_grow (W : World) (n : Nat) (os : Array Obj) : Below W.heap.size W (Go.Sort.grow (W.drewN n) os) := ⟨rfl, rfl, rfl, by simp [Go.Sort.grow, World.drewN], fun k hk => by
  show (W.heap ++ os)[k]? = _
  rw [Array.getElem?_append_left hk]⟩
theorem p148 : PrimOk 148 pIndexByte := by
  refine ⟨enters (fn := Tryz.f148) (by rfl) (by rfl) (by decide), ?_⟩
  intro args v hv h σ W xs hx I hg
  unfold pIndexByte at hv
  split at hv
  · rename_i s c
    split at hv
    · cases hv
      obtain ⟨x, y, rfl, h1, h2⟩ := two_of hx
      obtain rfl := str_of h1
      obtain ⟨rfl, _⟩ := VRel.s_iff.1 h2
      refine (Tryz.strings_IndexByte s c W).mono ?_
      rintro e W' ⟨rfl, rfl⟩
      exact back I (.refl _ _) (VRel.s_iff.2 ⟨rfl, rfl⟩)
    · cases hv
  · cases hv
theorem tabIs {σ : Sg} {W : World} (hg : GlobOk cx σ W) : Lib.TabIs Tryz.prog W "internal/strconv.uint64pow10" .u64 Lib.pow10Tab := by
  obtain ⟨vs, rfl, hb⟩ := (hg.2 (1, fun vs => vs = Lib.pow10Tab.map fun z => Value.int .u64 z) (by simp [cx])).block
  obtain ⟨t, fz, hb⟩ := hb (by decide)
  unfold Lib.TabIs World.var?
  rw [show Tryz.prog.globalNamed "internal/strconv.uint64pow10" = some 1 by kernel_rfl]
  simp only [Option.bind_some, hb]
theorem p143 : PrimOk 143 pItoa := by
  refine ⟨enters (fn := Tryz.f143) (by rfl) (by rfl) (by decide), ?_⟩
  intro args v hv h σ W xs hx I hg
  unfold pItoa at hv
  split at hv
  · rename_i n
    split at hv
    · rename_i hn
      cases hv
      obtain ⟨x, rfl, h1⟩ := one_of hx
      obtain ⟨rfl, _⟩ := VRel.s_iff.1 h1
      refine (Tryz.strconv_Itoa n hn.1 hn.2 W (tabIs hg)).mono ?_
      rintro e W' ⟨rfl, k, os, rfl⟩
      exact back I (below_grow W k os) (VRel.s_iff.2 ⟨rfl, rfl⟩)
    · cases hv
  · cases hv
theorem p149 : PrimOk 149 pCut := by
  refine ⟨enters (fn := Tryz.f149) (by rfl) (by rfl) (by decide), ?_⟩
  intro args v hv h σ W xs hx I hg
  unfold pCut at hv
  split at hv
  · rename_i s sep
    split at hv
    · rename_i c hc
      split at hv
      · rename_i hs
        cases hv
        obtain ⟨x, y, rfl, h1, h2⟩ := two_of hx
        obtain rfl := str_of h1
        obtain rfl := str_of h2
        obtain ⟨vs, ⟨m, h0⟩, hm⟩ := (hg.2 (0, fun vs => ∃ m, vs[0]? = some (.int .i64 m)) (by simp [cx])).cell
        refine (Tryz.strings_Cut s sep m W hs (hm 0 _ h0)).mono ?_
        rintro e W' ⟨rfl, n, rfl⟩
        refine back I (below_drewN W n) ?_
        rw [hc, cut_one]
        refine VRel.tup_iff.2 ⟨_, rfl, rfl, fun i a b ha hb => ?_⟩
        match i, ha, hb with
        | 0, ha, hb => cases ha; cases hb; exact VRel.s_iff.2 ⟨rfl, rfl⟩
        | 1, ha, hb => cases ha; cases hb; exact VRel.s_iff.2 ⟨rfl, rfl⟩
        | 2, ha, hb => cases ha; cases hb; exact VRel.s_iff.2 ⟨rfl, rfl⟩
        | i + 3, ha, hb => simp at ha
      · cases hv
    · cases hv
  · cases hv
theorem pair_rel {σ : Sg} {W : World} {a b : V} {x y : Value} (h : VRel σ W a x) (k : VRel σ W b y) : VRel σ W (.tup [a, b]) (.tuple #[x, y]) := by
  refine VRel.tup_iff.2 ⟨_, rfl, rfl, fun i c d hc hd => ?_⟩
  match i, hc, hd with
  | 0, hc, hd => cases hc; cases hd; exact h
  | 1, hc, hd => cases hc; cases hd; exact k
  | i + 2, hc, hd => simp at hc
theorem p174 : PrimOk 174 (pParse 249) := by
  refine ⟨enters (fn := Tryz.f174) (by rfl) (by rfl) (by decide), ?_⟩
  intro args v hv h σ W xs hx I hg
  unfold pParse at hv
  split at hv
  · rename_i s
    split at hv
    · rename_i hn
      obtain ⟨x, y, z, rfl, h1, h2, h3⟩ := three_of hx
      obtain rfl := str_of h1
      obtain ⟨rfl, _⟩ := VRel.s_iff.1 h2
      obtain ⟨rfl, _⟩ := VRel.s_iff.1 h3
      have hp := parsed_eq _ hn.1
      split at hv
      · rename_i hb
        cases hv
        rw [if_pos hb] at hp
        refine (Tryz.strconv_ParseInt_10_at64_ok s (by have := hn.2; omega) _ hp W).mono ?_
        rintro e W' ⟨rfl, hw⟩
        refine back I ?_ (pair_rel (VRel.s_iff.2 ⟨rfl, rfl⟩) (VRel.s_iff.2 ⟨rfl, rfl⟩))
        rcases hw with rfl | ⟨t, rfl⟩
        · exact .refl _ _
        · exact Lib.bytesWorld_below W _ t
      · rename_i hb
        cases hv
        rw [if_neg hb] at hp
        obtain ⟨vs, ⟨t, q, rfl⟩, hm⟩ := (hg.2 (3, fun vs => ∃ t p, vs = [.iface t p]) (by simp [cx])).cell
        refine (Tryz.strconv_ParseInt_10_at64_range s hn.2 hp _ W (hm 0 _ rfl) (.inr ⟨_, _, rfl⟩)).mono ?_
        rintro e W' ⟨N, rfl, _, _, hw⟩
        refine back I hw ?_
        rw [sat_eq _ hn.1]
        exact pair_rel (VRel.s_iff.2 ⟨rfl, rfl⟩) (VRel.ifc_iff.2 ⟨_, rfl, .undef⟩)
    · cases hv
  · cases hv
end ZD
open Go Go.AM Go.Proofs Go.AM.Pl Go.RowKit
set_option maxRecDepth 100000
set_option maxHeartbeats 4000000
namespace ZD
theorem split_length (sep : ByteArray) (h1 : 1 ≤ sep.size) (n : Nat) : ∀ s : ByteArray, s.size ≤ n → (Lib.splitB sep 0 (Lib.countB s sep) s).length = Lib.countB s sep + 1 := by
  induction n with
  | zero =>
    intro s hs
    rcases Lib.indexB_cases s sep with h | ⟨i, h, hi⟩
    · rw [Lib.countB_miss s sep h]; rfl
    · omega
  | succ n ih =>
    intro s hs
    rcases Lib.indexB_cases s sep with h | ⟨i, h, hi⟩
    · rw [Lib.countB_miss s sep h]; rfl
    · rw [Lib.countB_hit s sep i h1 h, Nat.add_comm 1, Lib.splitB_hit sep 0 _ s i h, List.length_cons, ih _ (by rw [ByteArray.size_extract]; omega)]
theorem split_eq (c : UInt8) (n : Nat) : ∀ s : ByteArray, s.size ≤ n → Lib.splitB ⟨#[c]⟩ 0 (Lib.countB s ⟨#[c]⟩) s = (splitL c s.data.toList).map bs := by
  induction n with
  | zero =>
    intro s hs
    have h0 : s.data.toList = [] := List.eq_nil_of_length_eq_zero (by rw [← Lib.size_eq]; omega)
    rcases index_cases s.data.toList c with ⟨h, hn⟩ | ⟨p, q, h, e, hp⟩
    · rw [Lib.countB_miss s _ h, Lib.splitB_zero, splitL_none hn]; rfl
    · rw [h0] at e; cases p <;> cases e
  | succ n ih =>
    intro s hs
    rcases index_cases s.data.toList c with ⟨h, hn⟩ | ⟨p, q, h, e, hp⟩
    · rw [Lib.countB_miss s _ h, Lib.splitB_zero, splitL_none hn]; rfl
    · have hl : s.size = p.length + 1 + q.length := by rw [Lib.size_eq, e]; simp; omega
      have h1 : s.extract (p.length + (⟨#[c]⟩ : ByteArray).size) s.size = bs q := by
        rw [Lib.Pa.extract_from, e]
        show bs (List.drop (p.length + 1) (p ++ c :: q)) = _
        simp
      have h2 : s.extract 0 (p.length + 0) = bs p := by
        rw [Lib.Pa.extract_upto, e]
        show bs (List.take (p.length + 0) (p ++ c :: q)) = _
        simp
      rw [Lib.countB_hit s ⟨#[c]⟩ p.length (Nat.le_refl 1) h, Nat.add_comm 1, Lib.splitB_hit ⟨#[c]⟩ 0 _ s p.length h, h1, h2, ih (bs q) (by rw [bs_size]; omega), e, splitL_hit q hp]
      rfl
theorem p123 : PrimOk 123 pSplit := by
  refine ⟨enters (fn := Tryz.f123) (by rfl) (by rfl) (by decide), ?_⟩
  intro args v hv h σ W xs hx I hg
  unfold pSplit at hv
  split at hv
  · rename_i s sep
    split at hv
    · rename_i c hc
      split at hv
      · rename_i hs
        cases hv
        obtain ⟨x, y, rfl, h1, h2⟩ := two_of hx
        obtain rfl := str_of h1
        obtain rfl := str_of h2
        have hsep : sep = ⟨#[c]⟩ := by
          have : sep.data = #[c] := by rw [← Array.toList_inj, hc]
          cases sep; simp at this; rw [this]
        subst hsep
        obtain ⟨vs, ⟨m, h0⟩, hm⟩ := (hg.2 (0, fun vs => ∃ m, vs[0]? = some (.int .i64 m)) (by simp [cx])).cell
        refine (Tryz.strings_Split s ⟨#[c]⟩ m W hs (hm 0 _ h0) (Nat.le_refl 1)).mono ?_
        rintro e W' ⟨rfl, rfl⟩
        have hlen := split_length ⟨#[c]⟩ (Nat.le_refl 1) s.size s (Nat.le_refl _)
        rw [split_eq c s.size s (Nat.le_refl _)] at hlen ⊢
        rw [← hlen]
        obtain ⟨L, hL⟩ : ∃ L, splitL c s.data.toList = L := ⟨_, rfl⟩
        have hne := splitL_ne c s.data.toList
        rw [hL] at hne ⊢
        have hfl : (L.map V.t).flatMap cellsOf = L.map V.t := by
          clear hL hne hlen
          induction L with
          | nil => rfl
          | cons a l ih => rw [List.map_cons, List.flatMap_cons, ih]; rfl
        obtain ⟨I2, s2, r2⟩ := new_row (st := { env := [], lb := [], h := h }) I (L.map V.t) 1 ((List.map Value.string (L.map bs)).toArray) 9 (by omega) (fun x hx => by obtain ⟨a, _, rfl⟩ := List.mem_map.1 hx; rfl) (by simp) (fun i v hv => by
          rw [hfl, List.getElem?_map] at hv
          obtain ⟨a, ha, rfl⟩ := Option.map_eq_some_iff.1 hv
          exact ⟨.string (bs a), by simp [ha], rfl, VRel.s_iff.2 ⟨rfl, rfl⟩⟩) false L.length (by simp) (by simp) (fun _ => by simp)
        refine ⟨_, _, rfl, ?_, I2, s2⟩
        simp only [List.length_map] at r2 ⊢
        have hv : AM.vs .dead 1 (L.map V.t) = .vsl .dead 1 (L.map V.t) := by unfold AM.vs; rw [if_neg (by simpa using hne)]
        rw [hv]
        obtain ⟨base, cap, e1, e2, e3, e4, e5, e6, e7⟩ := VRel.vsl_iff.1 r2
        refine VRel.vsl_iff.2 ⟨base, cap, by simpa using e1, e2, fun h => (by cases h), e4, fun h => (by cases h), fun _ id hid => (by cases hid), fun hl => ?_⟩
        obtain ⟨c', o', h', a1, a2, a3, a4, a5, a6, _⟩ := e7 hl
        exact ⟨c', o', h', a1, a2, a3, a4, a5, a6, fun id hid => (by cases hid)⟩
      · cases hv
    · cases hv
  · cases hv
end ZD
open Go Go.AM Go.Proofs Go.AM.Pl Go.RowKit
set_option maxRecDepth 100000
set_option maxHeartbeats 4000000
namespace ZD
/-- The program at hand is one of which the abstract machine speaks; no library function that turns objects is reached. -/
theorem good : Good cx where
  mixed := mixed
  wf := by
    intro f fn code hf hb
    have h := List.all_eq_true.1 wf_all fn (by rw [← Array.getElem?_toList] at hf; exact List.mem_of_getElem? hf)
    unfold wfF at h
    rw [hb] at h
    simp only [Bool.and_eq_true, bne_iff_ne, ne_eq] at h
    exact h
  prim := by
    intro f g h
    simp only [cx] at h
    repeat' split at h
    · rename_i e; cases h; subst e; exact p143
    · rename_i e; cases h; subst e; exact p148
    · rename_i e; cases h; subst e; exact p149
    · rename_i e; cases h; subst e; exact p174
    · rename_i e; cases h; subst e; exact p123
    · cases h
  hprim := by
    intro f g h
    simp only [cx] at h
    cases h
end ZD

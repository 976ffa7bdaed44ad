/- From what is handed in to abstract values; a calculus for the abstract machine's runs. No condition. -/
import Derived.Test.YtieenbjncimikaaGreatDoorBAmD
import Derived.Deep.Slices
import Derived.ChangeArms
import Derived.ChangeShapes
import Derived.WideShapes
import Derived.DataReads
import Derived.Test.YtieenbjncimikaaGreatDoorBAmA
set_option linter.all false
namespace Go.AM
open Go.ChangeShapes Go.WideShapes Go.Deep Go.RowKit

/-- The world as it is handed in: each row may be read, none is written to. -/
def sg0 (W : World) : Sg where
  loc := fun _ => none
  reg := fun c => match W.heap[c]? with
    | some (.cells a _ _) => some a.size
    | _ => none

theorem inv0 (W : World) : Inv (sg0 W) [] W where
  box := fun _ _ _ _ h => by simp at h
  tip := fun _ _ _ h => by simp at h
  map := fun _ _ _ _ h => by simp at h
  inj := fun _ _ _ _ _ _ _ h => by simp at h
  rsz := fun c n h => by
    simp only [sg0] at h
    split at h
    · rename_i a e fz he; cases h; exact ⟨a, e, fz, he, Nat.le_refl _⟩
    · cases h
  lsz := fun _ _ _ h => by cases h

/-- What a law tells of what it leaves. -/
theorem join {c : Cx} (G : Good c) {k lo g : Nat} {args : List V} {h' : H} {W : World} {xs : Array Value} (h : denK c k lo g args [] = some (.s (.bool true), h')) (hx : L2 (VRel (sg0 W) W) args xs.toList) (hg : GlobOk c (sg0 W) W) :
    Calls c.P g xs W (fun e W' => e = .returned (.bool true) ∧ Below W.heap.size W W') := by
  refine ((den_sound G k lo g args [] _ h' h).2 _ W xs hx (inv0 W) hg).mono ?_
  rintro e W' ⟨z, σ', rfl, hz, _, s⟩
  obtain ⟨rfl, _⟩ := VRel.s_iff.1 hz
  refine ⟨rfl, s.os, s.tape, s.output, s.wsz, fun k hk => (s.frm k hk ?_).1⟩
  rintro ⟨id, o, d, h1, _⟩
  simp at h1

/-- An element of a row: a struct is one thing. -/
def mkV (P : Program) (t : TypeId) (vs : List V) : V := match P.underlying t with
  | some (.struct _) => .agg vs
  | _ => vs.getD 0 .undef

/-- Cells of a type, without pointers. -/
def TV (P : Program) : Nat → TypeId → List V → Prop
  | 0, _, _ => False
  | m + 1, t, vs =>
    match P.underlying t with
    | some .bool => ∃ b, vs = [.s (.bool b)]
    | some (.int k) => ∃ n, vs = [.s (.int k n)] ∧ (Lit.int k n).wf = true
    | some .string => ∃ s : ByteArray, vs = [.s (.string s)] ∧ s.size ≤ maxLen
    | some (.struct fs) => vs.length = P.cellsOf t ∧ ∀ f ∈ fs.toList, TV P m f.type ((vs.drop f.offset).take (P.cellsOf f.type))
    | some (.slice e) => ∃ l, vs = [AM.vs .dead (P.cellsOf e) l] ∧ l.length ≤ maxLen ∧ ∀ v ∈ l, ∃ us, v = mkV P e us ∧ us.length = P.cellsOf e ∧ TV P m e us
    | _ => False

/-- Fields lie one behind the other. -/
def tiles (P : Program) : List Field → Nat → Nat → Bool
  | [], o, n => o == n
  | f :: fs, o, n => f.offset == o && tiles P fs (o + P.cellsOf f.type) n

/-- A type of which TV speaks. -/
def plainT (P : Program) : Nat → TypeId → Bool
  | 0, _ => false
  | m + 1, t =>
    match P.underlying t with
    | some .bool | some (.int _) | some .string => true
    | some (.struct fs) => tiles P fs.toList 0 (P.cellsOf t) && fs.toList.all fun f => plainT P m f.type
    | some (.slice e) => decide (0 < P.cellsOf e) && plainT P m e
    | _ => false

section
variable {H : Type} {enc : TypeId × Value → H} {P : Program} {W : World} {sp : Nat → Bool} {held : Bool}

theorem cellsOf_mk {t : TypeId} {us : List V} (h : (∃ fs, P.underlying t = some (.struct fs)) ∨ ∃ u, us = [u] ∧ okc u = true ∧ ∀ fs, P.underlying t ≠ some (.struct fs)) : cellsOf (mkV P t us) = us := by
  rcases h with ⟨fs, h⟩ | ⟨u, rfl, hu, hn⟩
  · simp [mkV, h, cellsOf]
  · have : mkV P t [u] = u := by
      unfold mkV; split
      · rename_i fs e; exact absurd e (hn fs)
      · rfl
    rw [this]
    cases u <;> first | rfl | simp [okc] at hu

theorem TV.cells : ∀ {m : Nat} {t : TypeId} {us : List V}, TV P m t us → cellsOf (mkV P t us) = us
  | 0, _, _, h => h.elim
  | m + 1, t, us, h => by
    simp only [TV] at h
    split at h
    · rename_i e; obtain ⟨b, rfl⟩ := h; exact cellsOf_mk (.inr ⟨_, rfl, rfl, fun fs e' => by rw [e] at e'; cases e'⟩)
    · rename_i e; obtain ⟨n, rfl, _⟩ := h; exact cellsOf_mk (.inr ⟨_, rfl, rfl, fun fs e' => by rw [e] at e'; cases e'⟩)
    · rename_i e; obtain ⟨n, rfl, _⟩ := h; exact cellsOf_mk (.inr ⟨_, rfl, rfl, fun fs e' => by rw [e] at e'; cases e'⟩)
    · rename_i fs e; exact cellsOf_mk (.inl ⟨fs, e⟩)
    · rename_i e
      obtain ⟨l, rfl, _⟩ := h; exact cellsOf_mk (.inr ⟨_, rfl, rfl, fun fs e' => by rw [e] at e'; cases e'⟩)
    · exact h.elim

theorem trod_tv : ∀ (m : Nat) {t : TypeId} {fuel : Nat} {cs : List Value} {x : DataW H × List MemPlace}, plainT P m t = true → DataW.trod enc P W 0 sp held fuel t cs = some x →
    ∃ vs : List V, L2 (Ck (VRel (sg0 W) W)) vs cs ∧ TV P m t vs
  | 0, _, _, _, _, h, _ => by simp [plainT] at h
  | m + 1, t, fuel, cs, x, hp, h => by
    have one : ∀ {v : V} {y : Value}, okc v = true → VRel (sg0 W) W v y → L2 (Ck (VRel (sg0 W) W)) [v] [y] := by
      intro v y h1 h2
      refine ⟨rfl, fun i a b ha hb => ?_⟩
      cases i with
      | zero => simp at ha hb; subst ha; subst hb; exact ⟨h1, h2⟩
      | succ i => simp at ha
    simp only [plainT] at hp
    split at hp
    · rename_i e
      obtain ⟨b, rfl, _⟩ := DataW.trod_bool e h
      exact ⟨[.s (.bool b)], one rfl (VRel.s_iff.2 ⟨rfl, rfl⟩), by simp only [TV, e]; exact ⟨b, rfl⟩⟩
    · rename_i k e
      obtain ⟨n, rfl, _, hw⟩ := DataW.trod_int e h
      exact ⟨[.s (.int k n)], one rfl (VRel.s_iff.2 ⟨rfl, rfl⟩), by simp only [TV, e]; exact ⟨n, rfl, hw⟩⟩
    · rename_i e
      obtain ⟨s, rfl, _, hs⟩ := DataW.trod_string e h
      exact ⟨[.s (.string s)], one rfl (VRel.s_iff.2 ⟨rfl, rfl⟩), by simp only [TV, e]; exact ⟨s, rfl, hs⟩⟩
    · rename_i fs e
      simp only [Bool.and_eq_true, List.all_eq_true] at hp
      obtain ⟨xs, n, _, _, hlen, hxl, hg⟩ := DataW.trod_struct e h
      have key : ∀ (l : List Field) (o : Nat) (us : List V), (∀ f ∈ l, f ∈ fs.toList) → tiles P l o (P.cellsOf t) = true → us.length = o → L2 (Ck (VRel (sg0 W) W)) us (cs.take o) →
          ∃ vs, vs.take o = us ∧ vs.length = P.cellsOf t ∧ L2 (Ck (VRel (sg0 W) W)) vs cs ∧ ∀ f ∈ l, TV P m f.type ((vs.drop f.offset).take (P.cellsOf f.type)) := by
        intro l
        induction l with
        | nil =>
          intro o us _ ht hl hr
          have ho : o = P.cellsOf t := by simpa [tiles] using ht
          refine ⟨us, by rw [← hl, List.take_length], by rw [hl, ho], ?_, fun f hf => by cases hf⟩
          rw [List.take_of_length_le (by omega)] at hr
          exact hr
        | cons f l ih =>
          intro o us hm ht hl hr
          simp only [tiles, Bool.and_eq_true, beq_iff_eq] at ht
          obtain ⟨i, hi, hfi⟩ := List.getElem_of_mem (hm f (by simp))
          have hfi' : fs[i]? = some f := by rw [← Array.getElem?_toList, List.getElem?_eq_getElem hi, hfi]
          have hgi := hg i f hfi'
          have hix : i < xs.length := by rw [hxl]; simpa using hi
          rw [List.getElem?_eq_getElem hix] at hgi
          obtain ⟨vf, r1, r2⟩ := trod_tv m (hp.2 f (hm f (by simp))) hgi
          have hr' : L2 (Ck (VRel (sg0 W) W)) (us ++ vf) (cs.take (o + P.cellsOf f.type)) := by
            rw [List.take_add, ← ht.1]
            rw [← ht.1] at hr
            exact hr.append r1
          have hle : o + P.cellsOf f.type ≤ P.cellsOf t := by
            have : ∀ (l : List Field) a b, tiles P l a b = true → a ≤ b := by
              intro l
              induction l with
              | nil => intro a b h; simp [tiles] at h; omega
              | cons f l ih => intro a b h; simp only [tiles, Bool.and_eq_true] at h; have := ih _ _ h.2; omega
            exact this l _ _ ht.2
          have hvl : vf.length = P.cellsOf f.type := by
            have := r1.1
            rw [List.length_take, List.length_drop, hlen, ht.1] at this
            omega
          obtain ⟨vs, v1, v2, v3, v4⟩ := ih (o + P.cellsOf f.type) (us ++ vf) (fun g hg => hm g (by simp [hg])) ht.2 (by simp [hl, hvl]) hr'
          refine ⟨vs, ?_, v2, v3, fun g hg => ?_⟩
          · have h5 := congrArg (List.take o) v1
            rw [List.take_take, Nat.min_eq_left (by omega), List.take_append_of_le_length (by omega)] at h5
            rw [h5, List.take_of_length_le (by omega)]
          · rcases List.mem_cons.1 hg with rfl | hg
            · have : (vs.drop g.offset).take (P.cellsOf g.type) = vf := by
                have h5 : (vs.take (o + P.cellsOf g.type)).drop o = vf := by rw [v1, ← hl, List.drop_left]
                rw [List.drop_take, Nat.add_sub_cancel_left] at h5
                rw [ht.1]; exact h5
              rw [this]; exact r2
            · exact v4 g hg
      obtain ⟨vs, _, v2, v3, v4⟩ := key fs.toList 0 [] (fun f h => h) hp.1 rfl (by simp [L2])
      exact ⟨vs, v3, by simp only [TV, e]; exact ⟨v2, v4⟩⟩
    · rename_i e te
      simp only [Bool.and_eq_true, decide_eq_true_eq] at hp
      rcases open_slice te h with ⟨rfl, _⟩ | ⟨a, len, cap, mm, n, D, Pl, rfl, _, hlc, hcm, hmm, _, hx⟩
      · exact ⟨[AM.vs .dead (P.cellsOf e) []], one rfl ((VRel.vs_iff (fun _ => rfl)).2 (VRel.vsl_iff.2 ⟨none, 0, rfl, fun _ => rfl, fun h => (by cases h), Nat.le_refl _, (fun h => by cases h), (fun _ id h => by cases h), fun hne => (hne rfl).elim⟩)), by simp only [TV, te]; exact ⟨[], rfl, Nat.zero_le _, fun _ h => by cases h⟩⟩
      · have hml : len ≤ mm := by rw [hmm]; split <;> omega
        have el : ∀ i, i < len → ∃ us : List V, TV P m e us ∧ us.length = P.cellsOf e ∧ ∀ j u, us[j]? = some u → ∃ y, W.cell? (a.add (i * P.cellsOf e + j)) = some y ∧ Ck (VRel (sg0 W) W) u y := by
          intro i hi
          obtain ⟨cs', hc, htr⟩ := hx i (by omega)
          obtain ⟨_, hcl, hat⟩ := World.cells?_some hc
          obtain ⟨us, r1, r2⟩ := trod_tv m hp.2 htr
          refine ⟨us, r2, by rw [r1.1, hcl], fun j u hu => ?_⟩
          have hj : j < cs'.length := by rw [← r1.1]; exact (List.getElem?_eq_some_iff.1 hu).1
          refine ⟨cs'[j], ?_, r1.2 j u _ hu (List.getElem?_eq_getElem hj)⟩
          rw [← Go.Deep.add_add, hat j (by omega), List.getElem?_eq_getElem hj]
        have key : ∀ k, k ≤ len → ∃ l : List V, l.length = k ∧ (∀ v ∈ l, (∃ us, v = mkV P e us ∧ us.length = P.cellsOf e ∧ TV P m e us)) ∧ (l.flatMap cellsOf).length = k * P.cellsOf e ∧
            ∀ j u, (l.flatMap cellsOf)[j]? = some u → ∃ y, W.cell? (a.add j) = some y ∧ Ck (VRel (sg0 W) W) u y := by
          intro k
          induction k with
          | zero => exact fun _ => ⟨[], rfl, (fun _ h => by cases h), by simp, (fun _ _ h => by simp at h)⟩
          | succ k ih =>
            intro hk
            obtain ⟨l, l1, l2, l3, l4⟩ := ih (by omega)
            obtain ⟨us, u1, u2, u3⟩ := el k (by omega)
            refine ⟨l ++ [mkV P e us], by simp [l1], fun v hv => ?_, ?_, fun j u hu => ?_⟩
            · rcases List.mem_append.1 hv with hv | hv
              · exact l2 v hv
              · rw [List.mem_singleton.1 hv]; exact ⟨us, rfl, u2, u1⟩
            · rw [List.flatMap_append, List.length_append, l3]; simp [u1.cells, u2, Nat.add_mul]
            · rw [List.flatMap_append] at hu
              by_cases hj : j < k * P.cellsOf e
              · rw [List.getElem?_append_left (by omega)] at hu; exact l4 j u hu
              · rw [List.getElem?_append_right (by omega), l3] at hu
                simp only [List.flatMap_cons, List.flatMap_nil, List.append_nil, u1.cells] at hu
                obtain ⟨y, h1, h2⟩ := u3 _ u hu
                exact ⟨y, by rw [← h1]; congr 2; omega, h2⟩
        obtain ⟨l, l1, l2, l3, l4⟩ := key len (Nat.le_refl _)
        obtain ⟨ab, ao, as_⟩ := a
        refine ⟨[AM.vs .dead (P.cellsOf e) l], one rfl ((VRel.vs_iff (fun _ => rfl)).2 (VRel.vsl_iff.2 ⟨some ⟨ab, ao, as_⟩, cap, by rw [l1], fun h => (by cases h), fun h => (by cases h), by rw [l1]; exact hlc, (fun h => by cases h), (fun _ id h => by cases h), fun hne => ?_⟩)), ?_⟩
        · have hl0 : 0 < len := by rw [← l1]; exact List.length_pos_iff.2 hne
          have hlast : 0 < len * P.cellsOf e := Nat.mul_pos hl0 hp.1
          have get : ∀ j, j < len * P.cellsOf e → ∃ u y, (l.flatMap cellsOf)[j]? = some u ∧ W.cell? (Addr.add ⟨ab, ao, as_⟩ j) = some y ∧ Ck (VRel (sg0 W) W) u y := by
            intro j hj
            obtain ⟨y, h1, h2⟩ := l4 j _ (List.getElem?_eq_getElem (by rw [l3]; exact hj))
            exact ⟨_, y, List.getElem?_eq_getElem (by rw [l3]; exact hj), h1, h2⟩
          have at_ : ∀ j y, W.cell? (Addr.add ⟨ab, ao, as_⟩ j) = some y → ∃ arr te fz, W.heap[ab]? = some (.cells arr te fz) ∧ ao + j < arr.size ∧ (j = 0 → as_ = none) := by
            intro j y hy
            have hbl : (Addr.add ⟨ab, ao, as_⟩ j).block = ab := by unfold Addr.add; split <;> rfl
            have hof : (Addr.add ⟨ab, ao, as_⟩ j).off = ao + j := by unfold Addr.add; split <;> simp_all
            unfold World.cell? at hy
            rw [hbl, hof] at hy
            split at hy
            · rename_i arr te fz he
              split at hy
              · cases hy
              · rename_i hs
                refine ⟨arr, te, fz, he, (Array.getElem?_eq_some_iff.1 hy).1, fun hj => ?_⟩
                subst hj
                unfold Addr.add at hs
                cases as_ <;> simp_all
            · cases hy
          obtain ⟨_, y, _, hy, _⟩ := get (len * P.cellsOf e - 1) (by omega)
          obtain ⟨_, y0, _, hy0, _⟩ := get 0 hlast
          obtain ⟨_, _, _, _, _, hs⟩ := at_ _ _ hy0
          obtain ⟨arr, te', fz, h1, h3, _⟩ := at_ _ _ hy
          have hs := hs rfl
          subst hs
          refine ⟨ab, ao, arr.size, rfl, hp.1, fun v hv => ?_, by simp only [sg0, h1], by rw [l1]; omega, fun i v hv => ?_, (fun id h => by cases h)⟩
          · obtain ⟨us, rfl, u2, u3⟩ := l2 v hv
            rw [u3.cells, u2]
          · obtain ⟨y, y1, y2⟩ := l4 i v hv
            refine ⟨y, ?_, y2⟩
            rw [← y1]
            unfold cellAt Addr.add
            split
            · rename_i h0; rw [h0]; rfl
            · rfl
        · simp only [TV, te]
          exact ⟨l, rfl, by omega, l2⟩
    · cases hp

/-- What is handed in, as one thing. -/
def TArg (P : Program) (m : Nat) (t : TypeId) (v : V) : Prop := ∃ us, v = mkV P t us ∧ TV P m t us

theorem arg_rel {m : Nat} {t : TypeId} {v : Value} {d : DataW H} {p : List MemPlace} {b0 : Nat} {r : Reach} (hp : plainT P m t = true) (hv : Value.okWide P W r b0 t v) (h : DataW.Trod enc P W 0 sp held t v d p) :
    ∃ u, VRel (sg0 W) W u v ∧ TArg P m t u := by
  obtain ⟨fuel, h⟩ := h
  obtain ⟨us, h1, h2⟩ := trod_tv m hp h
  refine ⟨mkV P t us, ?_, us, rfl, h2⟩
  cases m with
  | zero => exact h2.elim
  | succ m =>
    have single : ∀ y, v.cells.toList = [y] → v = y → (∀ fs, P.underlying t ≠ some (.struct fs)) → VRel (sg0 W) W (mkV P t us) v := by
      rintro y hy rfl hn
      rw [hy] at h1
      obtain ⟨u, rfl⟩ : ∃ u, us = [u] := by
        match us, h1.1 with
        | [u], _ => exact ⟨u, rfl⟩
      have : mkV P t [u] = u := by
        unfold mkV; split
        · rename_i fs e; exact absurd e (hn fs)
        · rfl
      rw [this]
      exact (h1.2 0 u _ rfl rfl).2
    simp only [plainT] at hp
    split at hp
    · rename_i e
      obtain ⟨b, hb, _⟩ := DataW.trod_bool e h
      refine single _ hb ?_ (fun fs e' => by rw [e] at e'; cases e')
      cases v <;> simp_all [Value.cells, Value.okWide, Cell.okWide, Cell.ok]
    · rename_i k e
      obtain ⟨n, rfl⟩ := okWide_int e hv
      exact single _ rfl rfl (fun fs e' => by rw [e] at e'; cases e')
    · rename_i e
      obtain ⟨s, rfl⟩ := okWide_string e hv
      exact single _ rfl rfl (fun fs e' => by rw [e] at e'; cases e')
    · rename_i fs e
      obtain ⟨cs, rfl, _⟩ := okWide_struct e hv
      have : mkV P t us = .agg us := by unfold mkV; rw [e]
      rw [this]
      exact VRel.agg_iff.2 ⟨cs, rfl, h1⟩
    · rename_i e' e
      obtain ⟨a, len, cap, rfl⟩ := okWide_slice e hv
      exact single _ rfl rfl (fun fs e' => by rw [e] at e'; cases e')
    · cases hp
end
end Go.AM
namespace Go.AM

/-- More is told. -/
def Le {α : Type} (a b : Option α) : Prop := ∀ r, a = some r → b = some r
theorem Le.rfl' {α : Type} {a : Option α} : Le a a := fun _ h => h
theorem Le.bind {α β : Type} {a b : Option α} {g g' : α → Option β} (h : Le a b) (hg : ∀ x, Le (g x) (g' x)) : Le (a.bind g) (b.bind g') := by
  intro r hr
  obtain ⟨x, hx, hr⟩ := Option.bind_eq_some_iff.1 hr
  exact Option.bind_eq_some_iff.2 ⟨x, h x hx, hg x r hr⟩
theorem Le.map {α β : Type} {a b : Option α} {g : α → β} (h : Le a b) : Le (a.map g) (b.map g) := by
  intro r hr
  obtain ⟨x, hx, hr⟩ := Option.map_eq_some_iff.1 hr
  exact Option.map_eq_some_iff.2 ⟨x, h x hx, hr⟩

section
variable {c : Cx} {call call' : Nat → FuncId → List V → H → Option (V × H)} {f lo : Nat} {ops : Array Oper}

theorem opV_le (h : ∀ g args h, Le (call lo g args h) (call' lo g args h)) (dst : Option Nat) (st : St) (o : Op) : Le (opV c call f lo dst st o) (opV c call' f lo dst st o) := by
  cases o with
  | call k =>
    obtain ⟨callee, args, ty⟩ := k
    cases callee with
    | builtin b => cases b <;> exact Le.rfl'
    | value g =>
      simp only [opV]
      refine Le.bind Le.rfl' fun u => Le.bind Le.rfl' fun l => Le.bind Le.rfl' fun q => Le.bind (h _ _ _) fun _ => Le.rfl'
    | invoke q m =>
      simp only [opV]
      refine Le.bind Le.rfl' fun u => ?_
      split
      · exact Le.bind Le.rfl' fun u => Le.bind Le.rfl' fun l => Le.bind (h _ _ _) fun _ => Le.rfl'
      · exact Le.rfl'
  | makeMap t k => cases k <;> exact Le.rfl'
  | _ => exact Le.rfl'

theorem opsV_le (h : ∀ g args h, Le (call lo g args h) (call' lo g args h)) : ∀ (l : List Oper) (st : St), Le (opsV c call f lo ops l st) (opsV c call' f lo ops l st) ∧ ∀ r, opsV c call f lo ops l st = some r → footV c call f lo ops l st = footV c call' f lo ops l st
  | [], st => ⟨Le.rfl', fun _ _ => rfl⟩
  | o :: l, st => by
    simp only [opsV, footV]
    cases hg : guardV ops st o.guard with
    | none => exact ⟨Le.rfl', fun r hr => by cases hr⟩
    | some b =>
      cases b with
      | false =>
        obtain ⟨h1, h2⟩ := opsV_le h l (put st o.dst (.v (.tup [])))
        exact ⟨h1, fun r hr => by rw [h2 r hr]⟩
      | true =>
        simp only
        cases ho : opV c call f lo o.dst st o.op with
        | none => exact ⟨(fun r hr => by cases hr), (fun r hr => by cases hr)⟩
        | some p =>
          obtain ⟨x, s'⟩ := p
          rw [opV_le h _ _ _ _ ho]
          obtain ⟨h1, h2⟩ := opsV_le h l (put s' o.dst x)
          exact ⟨h1, fun r hr => by simp only at hr ⊢; rw [h2 r hr]⟩

theorem loopV_le {b b' : St → Option (X × St)} (h : ∀ st, Le (b st) (b' st)) (cr : List Nat × List Nat × List Nat) : ∀ (k k' : Nat) (st : St), k ≤ k' → Le (loopV b cr k st) (loopV b' cr k' st)
  | 0, k', st, _ => fun r hr => by cases hr
  | k + 1, 0, st, hk => by omega
  | k + 1, k' + 1, st, hk => by
    intro r hr
    simp only [loopV] at hr ⊢
    cases hb : b st with
    | none => rw [hb] at hr; cases hr
    | some p =>
      obtain ⟨x, s⟩ := p
      rw [hb] at hr
      rw [h st _ hb]
      cases x with
      | normal => exact loopV_le h cr k k' _ (by omega) r hr
      | exit i => exact hr
      | ret => exact hr

theorem region_le (h : ∀ g args h, Le (call lo g args h) (call' lo g args h)) (st : St) :
    Le (if indep (Region.before ops) st.env (footV c call f lo ops ops.toList st) then (opsV c call f lo ops ops.toList st).map (X.normal, ·) else none)
      (if indep (Region.before ops) st.env (footV c call' f lo ops ops.toList st) then (opsV c call' f lo ops ops.toList st).map (X.normal, ·) else none) := by
  intro r hr
  obtain ⟨h1, h2⟩ := opsV_le (c := c) (f := f) (ops := ops) h ops.toList st
  split at hr
  · rename_i hi
    obtain ⟨s, hs, rfl⟩ := Option.map_eq_some_iff.1 hr
    rw [← h2 s hs, if_pos hi, h1 s hs]; rfl
  · cases hr

theorem exec_le (h : ∀ g args h, Le (call lo g args h) (call' lo g args h)) {k k' : Nat} (hk : k ≤ k') : ∀ (code : Code) (blk : Nat) (st : St), Le (exec c call f lo k blk code st) (exec c call' f lo k' blk code st)
  | .skip, blk, st => Le.rfl'
  | .region _ ops true, blk, st => by simp only [exec]; exact region_le h st
  | .region _ ops false, blk, st => by simp only [exec]; exact ((opsV_le h _ _).1).map
  | .seq a b, blk, st => by
    intro r hr
    simp only [exec] at hr ⊢
    cases ha : exec c call f lo k blk a st with
    | none => rw [ha] at hr; cases hr
    | some p =>
      obtain ⟨x, s⟩ := p
      rw [ha] at hr
      rw [exec_le h hk a blk st _ ha]
      cases x with
      | normal => exact exec_le h hk b blk s r hr
      | exit i => exact hr
      | ret => exact hr
  | .cond x a b, blk, st => by
    intro r hr
    simp only [exec] at hr ⊢
    split at hr
    · rename_i p hp
      split at hr
      · rename_i hp2; rw [if_pos hp2]; exact exec_le h hk a blk st r hr
      · rename_i hp2; rw [if_neg hp2]; exact exec_le h hk b blk st r hr
    · cases hr
  | .block id a, blk, st => by
    intro r hr
    simp only [exec] at hr ⊢
    cases ha : exec c call f lo k id a st with
    | none => rw [ha] at hr; cases hr
    | some p =>
      rw [ha] at hr
      rw [exec_le h hk a id st _ ha]
      exact hr
  | .loop a, blk, st => by simp only [exec]; exact loopV_le (fun st => exec_le h hk a blk st) _ _ _ _ hk
  | .scope a, blk, st => by simp only [exec]; exact exec_le h hk a blk st
  | .exit id, blk, st => Le.rfl'
  | .ret, blk, st => Le.rfl'
  | .label l, blk, st => Le.rfl'
  | .goto l, blk, st => fun r hr => by simp [exec] at hr
  | .refuse s, blk, st => fun r hr => by simp [exec] at hr
  | .rangeFunc .., blk, st => fun r hr => by simp [exec] at hr
end

theorem denK_succ {c : Cx} {k lo f : Nat} {args : List V} {h : H} : denK c (k + 1) lo f args h = frzV c f (fun lo args h => bodyV c (fun lo f code st => exec c (denK c k) f lo k 0 code st) lo f args h) lo args h := rfl
theorem frzV_no {c : Cx} {f lo : Nat} {args : List V} {h : H} {B : Nat → List V → H → Option (V × H)} (hz : c.frz f = false) : frzV c f B lo args h = B lo args h := by
  unfold frzV; rw [if_neg (by rw [hz]; simp)]
theorem frzV_le {c : Cx} {f lo : Nat} {args : List V} {h : H} {B B' : Nat → List V → H → Option (V × H)} (hB : ∀ lo args h, Le (B lo args h) (B' lo args h)) : Le (frzV c f B lo args h) (frzV c f B' lo args h) := by
  intro r hr
  unfold frzV at hr ⊢
  split at hr
  · rename_i hz
    rw [if_pos hz]
    split at hr
    · split at hr
      · rename_i v _ e
        rw [hB _ _ _ _ e]; exact hr
      · cases hr
    · cases hr
  · rename_i hz
    rw [if_neg hz]; exact hB _ _ _ _ hr

theorem bodyV_le {c : Cx} {ex ex' : Nat → FuncId → Code → St → Option (X × St)} {lo f : Nat} {args : List V} {h : H} (hx : ∀ lo f code st, Le (ex lo f code st) (ex' lo f code st)) : Le (bodyV c ex lo f args h) (bodyV c ex' lo f args h) := by
  intro r hr
  unfold bodyV at hr ⊢
  split at hr
  · exact hr
  split at hr
  · exact hr
  · split at hr
    · split at hr
      · split at hr
        · cases hr
        · rename_i hl
          rw [if_neg hl]
          split at hr
          · cases hr
          · cases hr
          · rename_i x st hne he
            rw [hx _ _ _ _ _ he]
            cases x with
            | exit i => exact absurd rfl (hne i)
            | normal => exact hr
            | ret => exact hr
      · cases hr
    · cases hr

theorem denK_le {c : Cx} : ∀ (k k' : Nat) (lo f : Nat) (args : List V) (h : H), k ≤ k' → Le (denK c k lo f args h) (denK c k' lo f args h)
  | 0, _, _, _, _, _, _ => fun r hr => by cases hr
  | k + 1, 0, _, _, _, _, hk => by omega
  | k + 1, k' + 1, lo, f, args, h, hk => by
    rw [denK_succ, denK_succ]
    exact frzV_le fun lo args h => bodyV_le fun lo f code st => exec_le (fun g args h => denK_le k k' lo g args h (by omega)) (by omega) code 0 st

open Classical in
/-- What is told at last. -/
noncomputable def lim {α : Type} (g : Nat → Option α) : Option α := if h : ∃ k r, g k = some r then g h.choose else none

theorem lim_iff {α : Type} {g : Nat → Option α} (hg : ∀ k k', k ≤ k' → Le (g k) (g k')) {r : α} : lim g = some r ↔ ∃ k, g k = some r := by
  unfold lim
  constructor
  · intro h
    split at h
    · exact ⟨_, h⟩
    · cases h
  · rintro ⟨k, hk⟩
    have hex : ∃ k r, g k = some r := ⟨k, r, hk⟩
    rw [dif_pos hex]
    obtain ⟨r', hr'⟩ := hex.choose_spec
    rw [hr']
    have h1 := hg _ _ (Nat.le_max_left k hex.choose) r hk
    have h2 := hg _ _ (Nat.le_max_right k hex.choose) r' hr'
    rw [h1] at h2
    exact h2.symm

/-- What a call tells, with as many rounds as it takes. -/
noncomputable def den (c : Cx) (lo : Nat) (f : FuncId) (args : List V) (h : H) : Option (V × H) := lim fun k => denK c k lo f args h
theorem den_iff {c : Cx} {lo f : Nat} {args : List V} {h : H} {r : V × H} : den c lo f args h = some r ↔ ∃ k, denK c k lo f args h = some r := lim_iff fun k k' hk => denK_le k k' lo f args h hk

noncomputable def loopD (body : St → Option (X × St)) (cr : List Nat × List Nat × List Nat) (st : St) : Option (X × St) := lim fun k => loopV body cr k st
theorem loopD_iff {body : St → Option (X × St)} {cr : List Nat × List Nat × List Nat} {st : St} {r : X × St} : loopD body cr st = some r ↔ ∃ k, loopV body cr k st = some r := lim_iff fun k k' hk => loopV_le (fun _ => Le.rfl') cr k k' st hk

theorem loopD_more {body : St → Option (X × St)} {cr : List Nat × List Nat × List Nat} {st st1 : St} {r : X × St} (h : body st = some (.normal, st1)) (h1 : loopD body cr (headSt cr st1) = some r) : loopD body cr st = some r := by
  obtain ⟨k, hk⟩ := loopD_iff.1 h1
  exact loopD_iff.2 ⟨k + 1, by simp only [loopV, h]; exact hk⟩
theorem loopD_exit {body : St → Option (X × St)} {cr : List Nat × List Nat × List Nat} {st st1 : St} {i : Nat} (h : body st = some (.exit i, st1)) : loopD body cr st = some (.exit i, st1) := loopD_iff.2 ⟨1, by simp only [loopV, h]⟩
theorem loopD_ret {body : St → Option (X × St)} {cr : List Nat × List Nat × List Nat} {st st1 : St} (h : body st = some (.ret, st1)) : loopD body cr st = some (.ret, st1) := loopD_iff.2 ⟨1, by simp only [loopV, h]⟩

section
variable (c : Cx) (call : Nat → FuncId → List V → H → Option (V × H)) (f lo : Nat)
/-- Code, with as many rounds as it takes. -/
noncomputable def run : Nat → Code → St → Option (X × St)
  | _, .skip, st => some (.normal, st)
  | _, .region _ ops false, st => (opsV c call f lo ops ops.toList st).map (X.normal, ·)
  | _, .region _ ops true, st =>
    if indep (Region.before ops) st.env (footV c call f lo ops ops.toList st) then (opsV c call f lo ops ops.toList st).map (X.normal, ·) else none
  | blk, .seq a b, st => match run blk a st with
    | some (.normal, st) => run blk b st
    | r => r
  | blk, .cond x a b, st => match evalE c st x with
    | .v (.s (.bool p)) => if p then run blk a st else run blk b st
    | _ => none
  | _, .block id a, st => match run id a st with
    | some (.exit j, st) => if j = id then some (.normal, st) else some (.exit j, st)
    | r => r
  | blk, .loop a, st => loopD (run blk a) (c.carry f blk) (headSt (c.carry f blk) st)
  | _, .exit id, st => some (.exit id, st)
  | _, .ret, st => some (.ret, st)
  | _, .label _, st => some (.normal, st)
  | blk, .scope a, st => run blk a st
  | _, _, _ => none
end

section
variable {c : Cx} {f lo : Nat} {ops : Array Oper}
theorem opV_at {dst : Option Nat} {st : St} {o : Op} {r : Ent × St} (h : opV c (den c) f lo dst st o = some r) : ∃ k, opV c (denK c k) f lo dst st o = some r := by
  cases o with
  | call k =>
    obtain ⟨callee, args, ty⟩ := k
    cases callee with
    | builtin b => cases b <;> exact ⟨0, h⟩
    | value g =>
      simp only [opV, Option.bind_eq_bind] at h ⊢
      obtain ⟨u, hu, h⟩ := Option.bind_eq_some_iff.1 h
      obtain ⟨l, hl, h⟩ := Option.bind_eq_some_iff.1 h
      obtain ⟨q, hq, h⟩ := Option.bind_eq_some_iff.1 h
      obtain ⟨p, hp, h⟩ := Option.bind_eq_some_iff.1 h
      obtain ⟨k, hk⟩ := den_iff.1 hp
      exact ⟨k, by simp only [hu, hl, hq, hk, Option.bind_some]; exact h⟩
    | invoke q m =>
      simp only [opV, Option.bind_eq_bind] at h ⊢
      obtain ⟨u, hu, h⟩ := Option.bind_eq_some_iff.1 h
      cases u with
      | ifc t v =>
        simp only at h
        obtain ⟨g, hg, h⟩ := Option.bind_eq_some_iff.1 h
        obtain ⟨l, hl, h⟩ := Option.bind_eq_some_iff.1 h
        obtain ⟨p, hp, h⟩ := Option.bind_eq_some_iff.1 h
        obtain ⟨k, hk⟩ := den_iff.1 hp
        exact ⟨k, by simp only [hu, hl, hg, hk, Option.bind_some]; exact h⟩
      | _ => cases h
  | makeMap t k => cases k <;> exact ⟨0, h⟩
  | _ => exact ⟨0, h⟩

theorem opsV_at : ∀ {l : List Oper} {st r : St}, opsV c (den c) f lo ops l st = some r → ∃ k, opsV c (denK c k) f lo ops l st = some r
  | [], st, r, h => ⟨0, h⟩
  | o :: l, st, r, h => by
    simp only [opsV] at h ⊢
    cases hg : guardV ops st o.guard with
    | none => rw [hg] at h; cases h
    | some b =>
      rw [hg] at h
      cases b with
      | false => exact opsV_at (l := l) h
      | true =>
        simp only at h ⊢
        cases ho : opV c (den c) f lo o.dst st o.op with
        | none => rw [ho] at h; cases h
        | some p =>
          obtain ⟨x, s⟩ := p
          rw [ho] at h
          obtain ⟨k1, h1⟩ := opV_at ho
          obtain ⟨k2, h2⟩ := opsV_at (l := l) h
          refine ⟨max k1 k2, ?_⟩
          rw [opV_le (fun g args h => denK_le _ _ _ g args h (Nat.le_max_left k1 k2)) _ _ _ _ h1]
          exact (opsV_le (fun g args h => denK_le _ _ _ g args h (Nat.le_max_right k1 k2)) _ _).1 _ h2

theorem loop_at {code : Code} {blk : Nat} {cr : List Nat × List Nat × List Nat} (hb : ∀ st r, run c (den c) f lo blk code st = some r → ∃ k, exec c (denK c k) f lo k blk code st = some r) : ∀ (n : Nat) (st : St) (r : X × St), loopV (run c (den c) f lo blk code) cr n st = some r →
    ∃ k, loopV (exec c (denK c k) f lo k blk code) cr k st = some r
  | 0, st, r, h => by cases h
  | n + 1, st, r, h => by
    simp only [loopV] at h
    cases hs : run c (den c) f lo blk code st with
    | none => rw [hs] at h; cases h
    | some p =>
      obtain ⟨x, s⟩ := p
      rw [hs] at h
      obtain ⟨k1, h1⟩ := hb st _ hs
      have up : ∀ k, k1 ≤ k → exec c (denK c k) f lo k blk code st = some (x, s) := fun k hk => exec_le (fun g args h => denK_le _ _ _ g args h hk) hk code blk st _ h1
      cases x with
      | normal =>
        obtain ⟨k2, h2⟩ := loop_at hb n _ r h
        refine ⟨max k1 k2 + 1, ?_⟩
        simp only [loopV, up (max k1 k2 + 1) (by omega)]
        exact loopV_le (fun st => exec_le (fun g args h => denK_le _ _ _ g args h (by omega)) (by omega) code blk st) cr k2 _ _ (by omega) r h2
      | exit i => exact ⟨k1 + 1, by simp only [loopV, up (k1 + 1) (by omega)]; exact h⟩
      | ret => exact ⟨k1 + 1, by simp only [loopV, up (k1 + 1) (by omega)]; exact h⟩

theorem run_at : ∀ (code : Code) (blk : Nat) (st : St) (r : X × St), run c (den c) f lo blk code st = some r → ∃ k, exec c (denK c k) f lo k blk code st = some r
  | .skip, blk, st, r, h => ⟨0, h⟩
  | .region _ ops true, blk, st, r, h => by
    simp only [run] at h
    split at h
    · rename_i hi
      obtain ⟨s, hs, rfl⟩ := Option.map_eq_some_iff.1 h
      obtain ⟨k, hk⟩ := opsV_at hs
      refine ⟨k, ?_⟩
      have hf := (opsV_le (c := c) (f := f) (ops := ops) (lo := lo) (call := denK c k) (call' := den c) (fun g args h r hr => den_iff.2 ⟨k, hr⟩) ops.toList st).2 s hk
      simp only [exec, hf, if_pos hi, hk, Option.map_some]
    · cases h
  | .region _ ops false, blk, st, r, h => by
    simp only [run] at h
    obtain ⟨s, hs, rfl⟩ := Option.map_eq_some_iff.1 h
    obtain ⟨k, hk⟩ := opsV_at hs
    exact ⟨k, by simp only [exec, hk, Option.map_some]⟩
  | .seq a b, blk, st, r, h => by
    simp only [run] at h
    cases ha : run c (den c) f lo blk a st with
    | none => rw [ha] at h; cases h
    | some p =>
      obtain ⟨x, s⟩ := p
      rw [ha] at h
      obtain ⟨k1, h1⟩ := run_at a blk st _ ha
      have up : ∀ k, k1 ≤ k → exec c (denK c k) f lo k blk a st = some (x, s) := fun k hk => exec_le (fun g args h => denK_le _ _ _ g args h hk) hk a blk st _ h1
      cases x with
      | normal =>
        obtain ⟨k2, h2⟩ := run_at b blk s r h
        refine ⟨max k1 k2, ?_⟩
        simp only [exec, up _ (Nat.le_max_left k1 k2)]
        exact exec_le (fun g args h => denK_le _ _ _ g args h (Nat.le_max_right k1 k2)) (Nat.le_max_right k1 k2) b blk s r h2
      | exit i => exact ⟨k1, by simp only [exec, h1]; exact h⟩
      | ret => exact ⟨k1, by simp only [exec, h1]; exact h⟩
  | .cond x a b, blk, st, r, h => by
    simp only [run] at h
    simp only [exec]
    split at h
    · rename_i p hp
      split at h
      · rename_i hp2; obtain ⟨k, hk⟩ := run_at a blk st r h; exact ⟨k, by rw [hp]; simp only [if_pos hp2]; exact hk⟩
      · rename_i hp2; obtain ⟨k, hk⟩ := run_at b blk st r h; exact ⟨k, by rw [hp]; simp only [if_neg hp2]; exact hk⟩
    · cases h
  | .block id a, blk, st, r, h => by
    simp only [run] at h
    cases ha : run c (den c) f lo id a st with
    | none => rw [ha] at h; cases h
    | some p =>
      rw [ha] at h
      obtain ⟨k1, h1⟩ := run_at a id st _ ha
      exact ⟨k1, by simp only [exec, h1]; exact h⟩
  | .loop a, blk, st, r, h => by
    simp only [run] at h
    obtain ⟨n, hn⟩ := loopD_iff.1 h
    obtain ⟨k, hk⟩ := loop_at (fun st r h => run_at a blk st r h) n _ r hn
    exact ⟨k, by simp only [exec]; exact hk⟩
  | .scope a, blk, st, r, h => by
    simp only [run] at h
    obtain ⟨k, hk⟩ := run_at a blk st r h
    exact ⟨k, by simp only [exec]; exact hk⟩
  | .exit id, blk, st, r, h => ⟨0, h⟩
  | .ret, blk, st, r, h => ⟨0, h⟩
  | .label l, blk, st, r, h => ⟨0, h⟩
  | .goto l, blk, st, r, h => by simp [run] at h
  | .refuse s, blk, st, r, h => by simp [run] at h
  | .rangeFunc .., blk, st, r, h => by simp [run] at h

/-- A function tells what its body does. -/
theorem den_body {lo f : Nat} {args : List V} {h : H} {r : V × H} (hz : c.frz f = false) (hr : bodyV c (fun lo f code st => run c (den c) f lo 0 code st) lo f args h = some r) : den c lo f args h = some r := by
  refine den_iff.2 ?_
  unfold bodyV at hr
  split at hr
  · rename_i g hg
    exact ⟨1, by rw [denK_succ, frzV_no hz]; unfold bodyV; rw [hg]; exact hr⟩
  rename_i hg
  split at hr
  · rename_i g hq
    exact ⟨1, by rw [denK_succ, frzV_no hz]; unfold bodyV; rw [hg, hq]; exact hr⟩
  · rename_i hq
    split at hr
    · rename_i fn hfn
      split at hr
      · rename_i code hcode
        split at hr
        · cases hr
        · rename_i hl
          split at hr
          · cases hr
          · cases hr
          · rename_i x st hne he
            obtain ⟨k, hk⟩ := run_at _ _ _ _ he
            refine ⟨k + 1, ?_⟩
            rw [denK_succ, frzV_no hz]; unfold bodyV
            rw [hg, hq, hfn]
            simp only [hcode]
            rw [if_neg hl]
            simp only [hk]
            cases x with
            | exit i => exact absurd rfl (hne i)
            | normal => exact hr
            | ret => exact hr
      · cases hr
    · cases hr
end
end Go.AM
namespace Go.AM
section
variable {c : Cx} {f lo blk : Nat} {st : St} {Q : X → St → Prop}

/-- Code runs, and behind it Q holds. -/
def Wp (c : Cx) (f lo blk : Nat) (code : Code) (st : St) (Q : X → St → Prop) : Prop := ∃ x st', run c (den c) f lo blk code st = some (x, st') ∧ Q x st'

theorem Wp.mono {code : Code} {R : X → St → Prop} (h : Wp c f lo blk code st Q) (k : ∀ x s, Q x s → R x s) : Wp c f lo blk code st R := let ⟨x, s, h1, h2⟩ := h; ⟨x, s, h1, k x s h2⟩
theorem Wp.skip (h : Q .normal st) : Wp c f lo blk .skip st Q := ⟨_, _, rfl, h⟩
theorem Wp.exit {id : Nat} (h : Q (.exit id) st) : Wp c f lo blk (.exit id) st Q := ⟨_, _, rfl, h⟩
theorem Wp.ret (h : Q .ret st) : Wp c f lo blk .ret st Q := ⟨_, _, rfl, h⟩
theorem Wp.scope {a : Code} (h : Wp c f lo blk a st Q) : Wp c f lo blk (.scope a) st Q := by
  obtain ⟨x, s, h1, h2⟩ := h; exact ⟨x, s, by simp only [run]; exact h1, h2⟩
theorem Wp.seq {a b : Code} (h : Wp c f lo blk a st fun x s => match x with | .normal => Wp c f lo blk b s Q | x => Q x s) : Wp c f lo blk (.seq a b) st Q := by
  obtain ⟨x, s, h1, h2⟩ := h
  cases x with
  | normal =>
    obtain ⟨y, s', h3, h4⟩ := h2
    exact ⟨y, s', by simp only [run, h1]; exact h3, h4⟩
  | exit i => exact ⟨_, _, by simp only [run, h1], h2⟩
  | ret => exact ⟨_, _, by simp only [run, h1], h2⟩
theorem Wp.block {id : Nat} {a : Code} (h : Wp c f lo id a st fun x s => match x with | .exit j => if j = id then Q .normal s else Q (.exit j) s | x => Q x s) : Wp c f lo blk (.block id a) st Q := by
  obtain ⟨x, s, h1, h2⟩ := h
  cases x with
  | normal => exact ⟨_, _, by simp only [run, h1], h2⟩
  | exit j =>
    by_cases hj : j = id
    · simp only [if_pos hj] at h2; exact ⟨_, _, by simp only [run, h1, if_pos hj], h2⟩
    · simp only [if_neg hj] at h2; exact ⟨_, _, by simp only [run, h1, if_neg hj], h2⟩
  | ret => exact ⟨_, _, by simp only [run, h1], h2⟩
theorem Wp.region {id : Nat} {ops : Array Oper} {s : St} (h : opsV c (den c) f lo ops ops.toList st = some s) (hq : Q .normal s) : Wp c f lo blk (.region id ops false) st Q :=
  ⟨_, _, by simp only [run, h, Option.map_some], hq⟩
theorem Wp.cond {y : Operand} {a b : Code} {p : Bool} (he : evalE c st y = .v (.s (.bool p))) (h1 : p = true → Wp c f lo blk a st Q) (h2 : p = false → Wp c f lo blk b st Q) : Wp c f lo blk (.cond y a b) st Q := by
  cases p with
  | true => obtain ⟨x, s, h3, h4⟩ := h1 rfl; exact ⟨x, s, by simp only [run, he, if_true]; exact h3, h4⟩
  | false => obtain ⟨x, s, h3, h4⟩ := h2 rfl; exact ⟨x, s, by simp only [run, he, Bool.false_eq_true, if_false]; exact h3, h4⟩
/-- A loop, with what holds at its head and a number that falls. -/
theorem Wp.loop {a : Code} (I : Nat → St → Prop) {n : Nat} (h0 : I n (headSt (c.carry f blk) st)) (step : ∀ n s, I n s → Wp c f lo blk a s fun x s' => match x with | .normal => ∃ m, m < n ∧ I m (headSt (c.carry f blk) s') | x => Q x s') : Wp c f lo blk (.loop a) st Q := by
  have key : ∀ n s, I n s → ∃ x s', loopD (run c (den c) f lo blk a) (c.carry f blk) s = some (x, s') ∧ Q x s' := by
    intro n
    induction n using Nat.strongRecOn with
    | ind n ih =>
      intro s hI
      obtain ⟨x, s1, h1, h2⟩ := step n s hI
      cases x with
      | normal =>
        obtain ⟨m, hm, h3⟩ := h2
        obtain ⟨y, s2, h4, h5⟩ := ih m hm _ h3
        exact ⟨y, s2, loopD_more h1 h4, h5⟩
      | exit i => exact ⟨_, _, loopD_exit h1, h2⟩
      | ret => exact ⟨_, _, loopD_ret h1, h2⟩
  obtain ⟨x, s, h1, h2⟩ := key n _ h0
  exact ⟨x, s, by simp only [run]; exact h1, h2⟩

/-- What a pure function hands back, closed. -/
def Cl1 (h : H) (n : Nat) (v : V) : Option V := (sealV h n sealDepth v).map fg
def Out1 (c : Cx) (rs : List ResultVar) (n : Nat) (s : St) : Option V := (resultsV c s rs).bind (Cl1 s.h n)

/-- A pure function, by its body. -/
theorem den_pure {fn : Func} {code : Code} {args : List V} {h : H} {v : V} (hp : c.prim f = none) (hu : c.pur f = true) (hf : c.P.funcs[f]? = some fn) (hb : fn.body = some code) (hl : args.length ≤ fn.ntmps) (hg : fgL args = args)
    (hw : Wp c f h.length 0 code { env := argsE args, lb := [], h := h } fun x s => (x = .normal ∨ x = .ret) ∧ Out1 c fn.results.toList h.length s = some v) (hq : c.hprim f = none := by rfl) (hz : c.frz f = false := by rfl) : den c lo f args h = some (v, h) := by
  obtain ⟨x, s, h1, hx, hw⟩ := hw
  obtain ⟨u, h2, h3⟩ := Option.bind_eq_some_iff.1 hw
  unfold Cl1 at h3
  refine den_body hz ?_
  unfold bodyV
  rw [hp, hq, hf]
  simp only [hb]
  rw [if_neg (by omega)]
  obtain ⟨w, h4, rfl⟩ := Option.map_eq_some_iff.1 h3
  simp only [hu, if_true, hg, h1]
  rcases hx with rfl | rfl <;> simp [h2, h4]
/-- A function that may change objects, by its body. -/
theorem den_open {fn : Func} {code : Code} {args : List V} {h h' : H} {v : V} (hp : c.prim f = none) (hu : c.pur f = false) (hf : c.P.funcs[f]? = some fn) (hb : fn.body = some code) (hl : args.length ≤ fn.ntmps)
    (hw : Wp c f lo 0 code { env := argsE args, lb := [], h := h } fun x s => (x = .normal ∨ x = .ret) ∧ resultsV c s fn.results.toList = some v ∧ s.h = h') (hq : c.hprim f = none := by rfl) (hz : c.frz f = false := by rfl) : den c lo f args h = some (v, h') := by
  obtain ⟨x, s, h1, hx, h2, rfl⟩ := hw
  refine den_body hz ?_
  unfold bodyV
  rw [hp, hq, hf]
  simp only [hb]
  rw [if_neg (by omega)]
  simp only [hu, Bool.false_eq_true, if_false, h1]
  rcases hx with rfl | rfl <;> simp [h2]
end
end Go.AM
namespace Go.AM
section
variable {c : Cx} {call : Nat → FuncId → List V → H → Option (V × H)} {f lo blk : Nat} {st : St} {Q : X → St → Prop} {ops : Array Oper}
/-- Behind a first piece of code. -/
def Sq (c : Cx) (f lo blk : Nat) (b : Code) (Q : X → St → Prop) (x : X) (s : St) : Prop := match x with
  | .normal => Wp c f lo blk b s Q
  | .exit j => Q (.exit j) s
  | .ret => Q .ret s
/-- Behind a block. -/
def Bk (id : Nat) (Q : X → St → Prop) (x : X) (s : St) : Prop := match x with
  | .normal => Q .normal s
  | .exit j => if j = id then Q .normal s else Q (.exit j) s
  | .ret => Q .ret s
/-- Behind a region. -/
def Rg (o : Option St) (Q : X → St → Prop) : Prop := match o with
  | some s => Q .normal s
  | none => False
/-- Behind a test. -/
def Cd (c : Cx) (f lo blk : Nat) (e : Ent) (a b : Code) (st : St) (Q : X → St → Prop) : Prop := match e with
  | .v (.s (.bool p)) => if p = true then Wp c f lo blk a st Q else Wp c f lo blk b st Q
  | _ => False
/-- Behind an operation. -/
def Ot (c : Cx) (call : Nat → FuncId → List V → H → Option (V × H)) (f lo : Nat) (ops : Array Oper) (dst : Option Nat) (rest : List Oper) (o : Option (Ent × St)) : Option St := match o with
  | some (x, s) => opsV c call f lo ops rest (put s dst x)
  | none => none
/-- Behind a guard. -/
def Gd (c : Cx) (call : Nat → FuncId → List V → H → Option (V × H)) (f lo : Nat) (ops : Array Oper) (o : Oper) (rest : List Oper) (st : St) (g : Option Bool) : Option St := match g with
  | some true => Ot c call f lo ops o.dst rest (opV c call f lo o.dst st o.op)
  | some false => opsV c call f lo ops rest (put st o.dst (.v (.tup [])))
  | none => none
@[simp] theorem Sq_normal {b : Code} {s : St} : Sq c f lo blk b Q .normal s ↔ Wp c f lo blk b s Q := Iff.rfl
@[simp] theorem Sq_exit {b : Code} {j : Nat} {s : St} : Sq c f lo blk b Q (.exit j) s ↔ Q (.exit j) s := Iff.rfl
@[simp] theorem Sq_ret {b : Code} {s : St} : Sq c f lo blk b Q .ret s ↔ Q .ret s := Iff.rfl
@[simp] theorem Bk_normal {id : Nat} {s : St} : Bk id Q .normal s ↔ Q .normal s := Iff.rfl
@[simp] theorem Bk_exit {id j : Nat} {s : St} : Bk id Q (.exit j) s ↔ (if j = id then Q .normal s else Q (.exit j) s) := Iff.rfl
@[simp] theorem Bk_ret {id : Nat} {s : St} : Bk id Q .ret s ↔ Q .ret s := Iff.rfl
@[simp] theorem Rg_some {s : St} : Rg (some s) Q ↔ Q .normal s := Iff.rfl
@[simp] theorem Cd_bool {p : Bool} {a b : Code} : Cd c f lo blk (.v (.s (.bool p))) a b st Q ↔ if p = true then Wp c f lo blk a st Q else Wp c f lo blk b st Q := Iff.rfl
@[simp] theorem Ot_some {dst : Option Nat} {rest : List Oper} {x : Ent} {s : St} : Ot c call f lo ops dst rest (some (x, s)) = opsV c call f lo ops rest (put s dst x) := rfl
@[simp] theorem Gd_true {o : Oper} {rest : List Oper} : Gd c call f lo ops o rest st (some true) = Ot c call f lo ops o.dst rest (opV c call f lo o.dst st o.op) := rfl
@[simp] theorem Gd_false {o : Oper} {rest : List Oper} : Gd c call f lo ops o rest st (some false) = opsV c call f lo ops rest (put st o.dst (.v (.tup []))) := rfl
@[simp] theorem opsV_nil : opsV c call f lo ops [] st = some st := rfl
@[simp] theorem opsV_cons {o : Oper} {rest : List Oper} : opsV c call f lo ops (o :: rest) st = Gd c call f lo ops o rest st (guardV ops st o.guard) := by
  simp only [opsV]
  cases guardV ops st o.guard with
  | none => rfl
  | some b => cases b <;> simp only [Gd]; cases opV c call f lo o.dst st o.op <;> rfl
@[simp] theorem put_some {d : Nat} {x : Ent} : put st (some d) x = { st with env := (d, x) :: st.env } := rfl
@[simp] theorem put_none {x : Ent} : put st none x = st := rfl
@[simp] theorem getE_cons {k t : Nat} {x : Ent} {e : List (Nat × Ent)} : getE ((k, x) :: e) t = if k = t then x else getE e t := rfl
@[simp] theorem getE_nil {t : Nat} : getE [] t = .v .undef := rfl
@[simp] theorem getB_cons {k t : Nat} {x : List V} {e : List (Nat × List V)} : getB ((k, x) :: e) t = if k = t then some x else getB e t := rfl
@[simp] theorem guardV_none : guardV ops st none = some true := rfl
@[simp] theorem guardV_some {j : Nat} {w : Bool} : guardV ops st (some (j, w)) = match (ops[j]?).bind (·.dst) with
    | some t => (match getE st.env t with | .v (.s (.bool b)) => some (b == w) | .v (.tup _) => some false | _ => none)
    | none => none := rfl
@[simp] theorem evalE_tmp {t : Nat} : evalE c st (.tmp t) = getE st.env t := rfl
@[simp] theorem evalE_int {k : IntKind} {n : Int} : evalE c st (.const (.int k n)) = .v (.s (.int k n)) := rfl
@[simp] theorem evalE_bool {b : Bool} : evalE c st (.const (.bool b)) = .v (.s (.bool b)) := rfl
@[simp] theorem evalE_string {s : ByteArray} : evalE c st (.const (.string s)) = .v (.s (.string s)) := rfl
@[simp] theorem evalE_nilI : evalE c st (.const .nilIface) = .v (.s .nilIface) := rfl
@[simp] theorem evalE_nilP : evalE c st (.const (.pointer none)) = .v (.s (.pointer none)) := rfl
@[simp] theorem evalE_nilS : evalE c st (.const (.slice none 0 0)) = .v (vs .nil 0 []) := rfl
@[simp] theorem evalE_nilF : evalE c st (.const .nilFunc) = .v (.s .nilFunc) := rfl
@[simp] theorem evalE_agg {cs : Array Value} : evalE c st (.const (.agg cs)) = .v (ofValue (.agg cs)) := rfl
@[simp] theorem evalE_func {g : FuncId} : evalE c st (.func g) = .v (.fn (.func g) [] []) := rfl
@[simp] theorem evalV_eq {o : Operand} : evalV c st o = (evalE c st o).val := rfl
@[simp] theorem val_s {x : Value} : (Ent.v (.s x)).val = some (.s x) := rfl
@[simp] theorem val_agg {l : List V} : (Ent.v (.agg l)).val = some (.agg l) := rfl
@[simp] theorem val_tup {l : List V} : (Ent.v (.tup l)).val = some (.tup l) := rfl
@[simp] theorem val_ptr {b o : Nat} : (Ent.v (.ptr b o)).val = some (.ptr b o) := rfl
@[simp] theorem val_vptr {l : List V} : (Ent.v (.vptr l)).val = some (.vptr l) := rfl
@[simp] theorem val_vs {t : Tk} {w : Nat} {l : List V} : (Ent.v (vs t w l)).val = some (vs t w l) := rfl
@[simp] theorem val_vsl {t : Tk} {w : Nat} {l : List V} : (Ent.v (.vsl t w l)).val = some (.vsl t w l) := rfl
@[simp] theorem val_msl {b o n w : Nat} : (Ent.v (.msl b o n w)).val = some (.msl b o n w) := rfl
@[simp] theorem val_map {r : Nat} : (Ent.v (.map r)).val = some (.map r) := rfl
@[simp] theorem val_fn {g : Fn} {a b : List V} : (Ent.v (.fn g a b)).val = some (.fn g a b) := rfl
@[simp] theorem val_ifc {t : Nat} {v : V} : (Ent.v (.ifc t v)).val = some (.ifc t v) := rfl
@[simp] theorem evalL_nil : evalL c st [] = some [] := rfl
@[simp] theorem evalL_cons {o : Operand} {r : List Operand} : evalL c st (o :: r) = (evalV c st o).bind fun v => (evalL c st r).bind fun l => some (v :: l) := rfl
@[simp] theorem evalP_nil : evalP c st [] = some [] := rfl
@[simp] theorem evalP_cons {i : Nat} {o : Operand} {r : List (Nat × Operand)} : evalP c st ((i, o) :: r) = (evalV c st o).bind fun v => (evalP c st r).bind fun l => some ((i, v) :: l) := rfl
@[simp] theorem evalO_none : evalO c st none = some none := rfl
@[simp] theorem evalO_some {o : Operand} : evalO c st (some o) = (evalV c st o).map some := rfl

variable {dst : Option Nat}
@[simp] theorem op_move {x : Operand} : opV c call f lo dst st (.move x) = some (evalE c st x, st) := rfl
@[simp] theorem op_assign {x : Operand} : opV c call f lo dst st (.assign x) = some (evalE c st x, st) := rfl
@[simp] theorem op_pick {k a b : Operand} : opV c call f lo dst st (.pick k a b) = match evalE c st k with
    | .v (.s (.bool x)) => some (if x then evalE c st a else evalE c st b, st)
    | _ => none := rfl
@[simp] theorem op_load {t : TypeId} {a : Operand} : opV c call f lo dst st (.load t a) = (loadAt c st t (evalE c st a)).map fun v => (.v v, st) := rfl
@[simp] theorem op_store {t : TypeId} {a x : Operand} : opV c call f lo dst st (.store t a x) = (evalV c st x).bind fun v => (storeAt c lo st t (evalE c st a) v).map fun s => (.v .undef, s) := by
  simp only [opV]; cases evalV c st x <;> try rfl
  simp only [Option.bind_eq_bind, Option.bind_some]; cases storeAt c lo st t (evalE c st a) _ <;> rfl
def nilI2 (a b : V) : Bool := isNilI a && isNilI b
@[simp] theorem nilI2_s {x y : Value} : nilI2 (.s x) (.s y) = (match x, y with | .nilIface, .nilIface => true | _, _ => false) := by cases x <;> cases y <;> rfl
@[simp] theorem op_bin {o : BinOp} {t u : TypeId} {x y : Operand} : opV c call f lo dst st (.binOp o t x y u) = (evalV c st x).bind fun a => (evalV c st y).bind fun b => if (nilI2 a b && !(isC x || isC y)) = true then none else (binOpV c o t a b).map fun v => (.v v, st) := rfl
@[simp] theorem op_un {o : UnOp} {t : TypeId} {x : Operand} : opV c call f lo dst st (.unOp o t x) = (evalV c st x).bind fun a => (unV o a).map fun v => (.v v, st) := rfl
@[simp] theorem op_convert {t u : TypeId} {x : Operand} : opV c call f lo dst st (.convert t u x) = (evalV c st x).bind fun a => (convV c t u a).map fun v => (.v v, st) := rfl
@[simp] theorem op_extract {i : Nat} {t : Operand} : opV c call f lo dst st (.extract t i) = match evalE c st t with
    | .v (.tup vs) => (vs[i]?).map fun v => (.v v, st)
    | _ => none := rfl
@[simp] theorem op_fieldAddr {t : TypeId} {x : Operand} {i : Nat} : opV c call f lo dst st (.fieldAddr t x i) = (fieldAddrV c t i (evalE c st x)).map (·, st) := rfl
@[simp] theorem op_field {t : TypeId} {x : Operand} {i : Nat} : opV c call f lo dst st (.field t x i) = (evalV c st x).bind fun a => (fieldV c t i a).map fun v => (.v v, st) := rfl
@[simp] theorem op_indexAddr {t : TypeId} {x i : Operand} : opV c call f lo dst st (.indexAddr t x i) = (evalV c st i).bind fun a => (indexAddrV c t (evalE c st x) a).map (·, st) := rfl
@[simp] theorem op_index {t : TypeId} {x i : Operand} : opV c call f lo dst st (.index t x i) = (evalV c st x).bind fun a => (evalV c st i).bind fun b => (indexV c t a b).map fun v => (.v v, st) := rfl
@[simp] theorem op_slice {t : TypeId} {x : Operand} {l h m : Option Operand} : opV c call f lo dst st (.slice t x l h m) = (evalV c st x).bind fun a => (evalO c st l).bind fun b => (evalO c st h).bind fun d => (evalO c st m).bind fun e => (sliceW c st.h t a b d e).map fun v => (.v v, st) := rfl
@[simp] theorem sliceW_vsl {h : H} {t : TypeId} {tk : Tk} {w : Nat} {l : List V} {a b d : Option V} : sliceW c h t (.vsl tk w l) a b d = sliceV c t (.vsl tk w l) a b d := rfl
@[simp] theorem sliceW_vs {h : H} {t : TypeId} {tk : Tk} {w : Nat} {l : List V} {a b d : Option V} : sliceW c h t (vs tk w l) a b d = sliceV c t (vs tk w l) a b d := rfl
@[simp] theorem sliceW_s {h : H} {t : TypeId} {x : Value} {a b d : Option V} : sliceW c h t (.s x) a b d = sliceV c t (.s x) a b d := rfl
@[simp] theorem sliceW_msl {h : H} {t : TypeId} {b0 o n w : Nat} {a b d : Option V} : sliceW c h t (.msl b0 o n w) a b d = sliceV c t (.msl b0 o n w) a b d := rfl
@[simp] theorem sliceW_ptr {h : H} {t : TypeId} {b0 o : Nat} : sliceW c h t (.ptr b0 o) none none none = slicePV c h t b0 o := rfl
@[simp] theorem op_len {x : Operand} {t : TypeId} {r : List TypeId} : opV c call f lo dst st (.call ⟨.builtin .len, #[x], ⟨t :: r⟩⟩) = (evalV c st x).bind fun a => (lenV c t st.h a).map fun v => (.v v, st) := rfl
@[simp] theorem op_append {x y : Operand} {t u : TypeId} : opV c call f lo dst st (.call ⟨.builtin .append, #[x, y], #[t, u]⟩) = if plainArg c (some u) = true then (evalV c st x).bind fun a => (evalV c st y).bind fun b => (appendV c lo st (isRow c f dst) t a b).map fun p => (.v p.1, p.2) else none := by
  simp only [opV, List.getElem?_toArray, List.getElem?_cons_zero, List.getElem?_cons_succ]
  cases plainArg c (some u) <;> try rfl
  simp only [Bool.not_true, Bool.false_eq_true, if_false, if_true]
  cases evalV c st x <;> try rfl
  cases evalV c st y <;> try rfl
  simp only [Option.bind_eq_bind, Option.bind_some]
  cases appendV c lo st (isRow c f dst) t _ _ <;> rfl
/-- A call: what is handed to a pure function is closed. -/
def callV (c : Cx) (call : Nat → FuncId → List V → H → Option (V × H)) (lo : Nat) (st : St) (q : Option (FuncId × List V)) : Option (Ent × St) := match q with
  | some (g, args) => (call lo g args st.h).map fun p => (.v p.1, { st with h := p.2 })
  | none => none
/-- A function whose arguments are closed. -/
def shuts (c : Cx) (g : FuncId) : Bool := c.pur g || (c.prim g).isSome
theorem den_fg {g lo : Nat} {args : List V} {h : H} (hg : shuts c g = true) : den c lo g (fgL args) h = den c lo g args h := by
  have key : ∀ k, denK c k lo g (fgL args) h = denK c k lo g args h := by
    intro k
    cases k with
    | zero => rfl
    | succ k =>
      rw [denK_succ, denK_succ]
      unfold frzV
      rw [fgL_fgL]
      split
      · rfl
      unfold bodyV
      simp only []
      rw [fgL_fgL, fgL_len]
      cases hp : c.prim g with
      | some p => rfl
      | none =>
        have hu : c.pur g = true := by simpa [shuts, hp] using hg
        cases hq : c.hprim g with
        | some p => simp only [hpV, hu, if_true]
        | none => simp only [hu, if_true]
  unfold den
  simp only [key]
@[simp] theorem callV_some {q : FuncId × List V} : callV c (den c) lo st (some q) = (den c lo q.1 (if shuts c q.1 = true then fgL q.2 else q.2) st.h).map fun p => (.v p.1, { st with h := p.2 }) := by
  simp only [callV]
  by_cases h : shuts c q.1 = true
  · rw [if_pos h, den_fg h]
  · rw [if_neg h]
@[simp] theorem op_call {g : Operand} {args : List Operand} {ts : Array TypeId} : opV c call f lo dst st (.call ⟨.value g, ⟨args⟩, ts⟩) = (evalV c st g).bind fun u => (evalL c st args).bind fun l => callV c call lo st (target u l) := by
  simp only [opV]
  cases evalV c st g <;> try rfl
  cases evalL c st args <;> try rfl
  simp only [Option.bind_eq_bind, Option.bind_some]
  cases target _ _ <;> try rfl
  simp only [Option.bind_some, callV]
  cases call lo _ _ st.h <;> rfl
@[simp] theorem target_fn {g : FuncId} {a b l : List V} : target (.fn (.func g) a b) l = some (g, a ++ l ++ b) := rfl

theorem Wp_iff {code : Code} : Wp c f lo blk code st Q ↔ (match run c (den c) f lo blk code st with | some p => Q p.1 p.2 | none => False) := by
  unfold Wp
  cases h : run c (den c) f lo blk code st with
  | none => simp
  | some p =>
    obtain ⟨x, s⟩ := p
    exact ⟨fun ⟨y, s', e, q⟩ => by cases e; exact q, fun q => ⟨x, s, rfl, q⟩⟩

@[simp] theorem Wp_skip : Wp c f lo blk .skip st Q ↔ Q .normal st := by rw [Wp_iff]; rfl
@[simp] theorem Wp_exit {id : Nat} : Wp c f lo blk (.exit id) st Q ↔ Q (.exit id) st := by rw [Wp_iff]; rfl
@[simp] theorem Wp_ret : Wp c f lo blk .ret st Q ↔ Q .ret st := by rw [Wp_iff]; rfl
@[simp] theorem Wp_scope {a : Code} : Wp c f lo blk (.scope a) st Q ↔ Wp c f lo blk a st Q := by rw [Wp_iff, Wp_iff]; simp only [run]
@[simp] theorem Wp_seq {a b : Code} : Wp c f lo blk (.seq a b) st Q ↔ Wp c f lo blk a st (Sq c f lo blk b Q) := by
  rw [Wp_iff, Wp_iff]
  simp only [run]
  cases run c (den c) f lo blk a st with
  | none => rfl
  | some p => obtain ⟨x, s⟩ := p; cases x <;> simp [Wp_iff]
@[simp] theorem Wp_block {id : Nat} {a : Code} : Wp c f lo blk (.block id a) st Q ↔ Wp c f lo id a st (Bk id Q) := by
  rw [Wp_iff, Wp_iff]
  simp only [run]
  cases run c (den c) f lo id a st with
  | none => rfl
  | some p =>
    obtain ⟨x, s⟩ := p
    cases x with
    | exit j => simp only [Bk_exit]; by_cases hj : j = id <;> simp [hj]
    | normal => simp
    | ret => simp
@[simp] theorem Wp_region {id : Nat} {l : List Oper} : Wp c f lo blk (.region id ⟨l⟩ false) st Q ↔ Rg (opsV c (den c) f lo ⟨l⟩ l st) Q := by
  rw [Wp_iff]
  simp only [run]
  cases opsV c (den c) f lo ⟨l⟩ l st <;> rfl
/-- What is read and written, behind an operation and behind a guard. -/
def Of (c : Cx) (call : Nat → FuncId → List V → H → Option (V × H)) (f lo : Nat) (ops : Array Oper) (F : Ft) (dst : Option Nat) (rest : List Oper) (o : Option (Ent × St)) : List Ft := match o with
  | some (x, s) => F :: footV c call f lo ops rest (put s dst x)
  | none => []
def Gf (c : Cx) (call : Nat → FuncId → List V → H → Option (V × H)) (f lo : Nat) (ops : Array Oper) (o : Oper) (rest : List Oper) (st : St) (g : Option Bool) : List Ft := match g with
  | some true => Of c call f lo ops (foot c f ops o st) o.dst rest (opV c call f lo o.dst st o.op)
  | some false => ⟨(match o.guard with | some (j, _) => ((ops[j]?).bind (·.dst)).toList.map Loc.tmp | none => []), o.dst.toList.map Loc.tmp, none, none⟩ :: footV c call f lo ops rest (put st o.dst (.v (.tup [])))
  | none => []
@[simp] theorem Of_some {F : Ft} {dst : Option Nat} {rest : List Oper} {x : Ent} {s : St} : Of c call f lo ops F dst rest (some (x, s)) = F :: footV c call f lo ops rest (put s dst x) := rfl
@[simp] theorem Gf_true {o : Oper} {rest : List Oper} : Gf c call f lo ops o rest st (some true) = Of c call f lo ops (foot c f ops o st) o.dst rest (opV c call f lo o.dst st o.op) := rfl
@[simp] theorem Gf_false {o : Oper} {rest : List Oper} : Gf c call f lo ops o rest st (some false) = ⟨(match o.guard with | some (j, _) => ((ops[j]?).bind (·.dst)).toList.map Loc.tmp | none => []), o.dst.toList.map Loc.tmp, none, none⟩ :: footV c call f lo ops rest (put st o.dst (.v (.tup []))) := rfl
@[simp] theorem footV_nil : footV c call f lo ops [] st = [] := rfl
@[simp] theorem footV_cons {o : Oper} {rest : List Oper} : footV c call f lo ops (o :: rest) st = Gf c call f lo ops o rest st (guardV ops st o.guard) := by
  simp only [footV]
  cases guardV ops st o.guard with
  | none => rfl
  | some b =>
    cases b with
    | true => simp only [Gf_true]; cases opV c call f lo o.dst st o.op <;> rfl
    | false => rfl
@[simp] theorem Wp_draws {id : Nat} {l : List Oper} : Wp c f lo blk (.region id ⟨l⟩ true) st Q ↔ indep (Region.before ⟨l⟩) st.env (footV c (den c) f lo ⟨l⟩ l st) = true ∧ Rg (opsV c (den c) f lo ⟨l⟩ l st) Q := by
  rw [Wp_iff]
  simp only [run]
  by_cases h : indep (Region.before ⟨l⟩) st.env (footV c (den c) f lo ⟨l⟩ l st) = true
  · simp only [h, if_true, true_and]
    cases opsV c (den c) f lo ⟨l⟩ l st <;> rfl
  · simp [h]
@[simp] theorem Wp_cond {y : Operand} {a b : Code} : Wp c f lo blk (.cond y a b) st Q ↔ Cd c f lo blk (evalE c st y) a b st Q := by
  rw [Wp_iff]
  simp only [run]
  cases hy : evalE c st y with
  | lp t o => simp [Cd]
  | v v =>
    cases v with
    | s a =>
      cases a with
      | bool p => cases p <;> simp [Wp_iff]
      | _ => simp [Cd]
    | _ => simp [Cd]

@[simp] theorem Out1_tmp {n t : Nat} {s : St} : Out1 c [.tmp t] n s = ((getE s.env t).val).bind (Cl1 s.h n) := rfl
@[simp] theorem Out1_cell {n a t : Nat} {s : St} : Out1 c [.cell a t] n s = (loadAt c s t (getE s.env a)).bind (Cl1 s.h n) := rfl
@[simp] theorem Out1_two {n : Nat} {s : St} {a b : ResultVar} {r : List ResultVar} : Out1 c (a :: b :: r) n s = ((resL c s (a :: b :: r)).map V.tup).bind (Cl1 s.h n) := rfl
@[simp] theorem resL_nil {s : St} : resL c s [] = some [] := rfl
@[simp] theorem resL_tmp {s : St} {t : Nat} {r : List ResultVar} : resL c s (.tmp t :: r) = ((getE s.env t).val).bind fun v => (resL c s r).bind fun l => some (v :: l) := rfl
@[simp] theorem resL_cell {s : St} {a t : Nat} {r : List ResultVar} : resL c s (.cell a t :: r) = (loadAt c s t (getE s.env a)).bind fun v => (resL c s r).bind fun l => some (v :: l) := rfl
theorem seal_sk {h : H} {n k : Nat} {v : Value} : sealV h n (k + 1) (.s v) = some (.s v) := by simp only [sealV]
@[simp] theorem Cl1_s {h : H} {n : Nat} {v : Value} : Cl1 h n (.s v) = some (.s v) := congrArg (Option.map fg) (seal_sk (k := 11))
/-- A value that refers to no object, and is not deep. -/
def clo : Nat → V → Bool
  | 0, _ => false
  | k + 1, v => match v with
    | .s _ => true
    | .undef => true
    | .agg cs => cs.all (clo k)
    | .tup cs => cs.all (clo k)
    | .vptr cs => cs.all (clo k)
    | .vsl _ _ l => l.all (clo k)
    | .fn _ a b => a.all (clo k) && b.all (clo k)
    | .ifc _ v => clo k v
    | _ => false
theorem sealL_fg {s : V → Option V} : ∀ {l : List V}, (∀ v ∈ l, ∃ u, s v = some u ∧ fg u = fg v) → ∃ m, sealL s l = some m ∧ fgL m = fgL l
  | [], _ => ⟨[], rfl, rfl⟩
  | v :: l, h => by
    obtain ⟨u, h1, h2⟩ := h v (by simp)
    obtain ⟨m, h3, h4⟩ := sealL_fg (l := l) fun u hu => h u (by simp [hu])
    exact ⟨u :: m, by simp only [sealL, Option.bind_eq_bind, h1, h3, Option.bind_some]; rfl, by simp only [fgL, h2, h4]⟩
theorem clo_fg {h : H} {n : Nat} : ∀ {k : Nat} {v : V}, clo k v = true → ∃ u, sealV h n k v = some u ∧ fg u = fg v
  | 0, _, e => by simp [clo] at e
  | k + 1, v, e => by
    have hl : ∀ {l : List V}, l.all (clo k) = true → ∃ m, sealL (sealV h n k) l = some m ∧ fgL m = fgL l := fun h => sealL_fg fun v hv => clo_fg (List.all_eq_true.1 h v hv)
    cases v with
    | s a => exact ⟨_, rfl, rfl⟩
    | undef => exact ⟨_, rfl, rfl⟩
    | agg cs => simp only [clo] at e; obtain ⟨m, h1, h2⟩ := hl e; exact ⟨.agg m, by simp only [sealV, h1]; rfl, by simp only [fg, h2]⟩
    | tup cs => simp only [clo] at e; obtain ⟨m, h1, h2⟩ := hl e; exact ⟨.tup m, by simp only [sealV, h1]; rfl, by simp only [fg, h2]⟩
    | vptr cs => simp only [clo] at e; obtain ⟨m, h1, h2⟩ := hl e; exact ⟨.vptr m, by simp only [sealV, h1]; rfl, by simp only [fg, h2]⟩
    | vsl t w l =>
      simp only [clo] at e
      obtain ⟨m, h1, h2⟩ := hl e
      exact ⟨_, by simp only [sealV, h1]; rfl, by simp only [fg, h2]⟩
    | fn g a b =>
      simp only [clo, Bool.and_eq_true] at e
      obtain ⟨m, h1, h2⟩ := hl e.1
      obtain ⟨m', h3, h4⟩ := hl e.2
      exact ⟨.fn g m m', by simp only [sealV, h1, h3]; rfl, by simp only [fg, h2, h4]⟩
    | ifc t v =>
      simp only [clo] at e
      obtain ⟨u, h1, h2⟩ := clo_fg (h := h) (n := n) e
      exact ⟨.ifc t u, by simp only [sealV, h1]; rfl, by simp only [fg, h2]⟩
    | ptr b o => simp [clo] at e
    | msl b o l w => simp [clo] at e
    | map r => simp [clo] at e
theorem Cl1_clo {h : H} {n : Nat} {v : V} (e : clo sealDepth v = true) : Cl1 h n v = some (fg v) := by
  obtain ⟨u, h1, h2⟩ := clo_fg (h := h) (n := n) e
  unfold Cl1
  rw [h1, ← h2]; rfl
@[simp] theorem lss_int {t : TypeId} {k : IntKind} {a b : Int} : binOpV c .lss t (.s (.int k a)) (.s (.int k b)) = some (.s (.bool (decide (a < b)))) := by simp [binOpV, binS, bin]
@[simp] theorem gtr_int {t : TypeId} {k : IntKind} {a b : Int} : binOpV c .gtr t (.s (.int k a)) (.s (.int k b)) = some (.s (.bool (decide (b < a)))) := by simp [binOpV, binS, bin]
@[simp] theorem leq_int {t : TypeId} {k : IntKind} {a b : Int} : binOpV c .leq t (.s (.int k a)) (.s (.int k b)) = some (.s (.bool (decide (a ≤ b)))) := by simp [binOpV, binS, bin]
@[simp] theorem geq_int {t : TypeId} {k : IntKind} {a b : Int} : binOpV c .geq t (.s (.int k a)) (.s (.int k b)) = some (.s (.bool (decide (b ≤ a)))) := by simp [binOpV, binS, bin]
@[simp] theorem eql_int {t : TypeId} {k : IntKind} {a b : Int} : binOpV c .eql t (.s (.int k a)) (.s (.int k b)) = some (.s (.bool (decide (a = b)))) := by simp [binOpV, binS, bin]; by_cases h : a = b <;> simp [h]
@[simp] theorem neq_int {t : TypeId} {k : IntKind} {a b : Int} : binOpV c .neq t (.s (.int k a)) (.s (.int k b)) = some (.s (.bool (decide (a ≠ b)))) := by simp [binOpV, binS, bin]; by_cases h : a = b <;> simp [h]
theorem wrap64 {n : Int} (h1 : -9223372036854775808 ≤ n) (h2 : n ≤ 9223372036854775807) : IntKind.i64.wrap n = n := by
  have e : (2 : Int) ^ 64 = 18446744073709551616 := by decide
  have e2 : (2 : Int) ^ 63 = 9223372036854775808 := by decide
  simp only [IntKind.wrap, IntKind.bits, IntKind.signed, e, Bool.true_and, decide_eq_true_eq, Nat.reduceSub, e2]
  split <;> omega
@[simp] theorem add_int {t : TypeId} {k : IntKind} {a b : Int} : binOpV c .add t (.s (.int k a)) (.s (.int k b)) = some (.s (.int k (k.wrap (a + b)))) := by simp [binOpV, binS, bin]
@[simp] theorem sub_int {t : TypeId} {k : IntKind} {a b : Int} : binOpV c .sub t (.s (.int k a)) (.s (.int k b)) = some (.s (.int k (k.wrap (a - b)))) := by simp [binOpV, binS, bin]
@[simp] theorem mul_int {t : TypeId} {k : IntKind} {a b : Int} : binOpV c .mul t (.s (.int k a)) (.s (.int k b)) = some (.s (.int k (k.wrap (a * b)))) := by simp [binOpV, binS, bin]

theorem idx_nat {k : IntKind} {j n : Nat} (h : j < n) : idx (.s (.int k j)) n = some j := by
  simp [idx]; omega
theorem indexAddr_vs {t e : TypeId} {tk : Tk} {w j : Nat} {l : List V} {k : IntKind} (hu : c.P.underlying t = some (.slice e)) (hz : szOf c.P e = some w) (hj : j < l.length) :
    indexAddrV c t (.v (vs tk w l)) (.s (.int k j)) = some (.v (.vptr (cellsOf l[j]))) := by
  have hl : l ≠ [] := by rintro rfl; simp at hj
  simp [indexAddrV, vs, hu, hz, idx_nat hj, hj, hl]
theorem len_vs {t e : TypeId} {tk : Tk} {w : Nat} {l : List V} {h : H} (hu : c.P.underlying t = some (.slice e)) : lenV c t h (vs tk w l) = some (.i l.length) := by simp [lenV, vs, hu]
/-- Behind a round of a loop: what goes round again, and what stays. -/
def Again (cr : List Nat × List Nat × List Nat) (rest : List (Nat × Ent)) (I : Nat → List Ent → List (Nat × List V) → H → Prop) (n : Nat) (Q : X → St → Prop) (x : X) (s : St) : Prop := match x with
  | .normal => s.env.filter (fun p => !(cr.1 ++ cr.2.1).contains p.1) = rest ∧ ∃ m, m < n ∧ I m (cr.1.map (getE s.env)) (s.lb.filter fun p => !cr.2.2.contains p.1) s.h
  | .exit i => Q (.exit i) s
  | .ret => Q .ret s
@[simp] theorem Again_normal {cr : List Nat × List Nat × List Nat} {rest : List (Nat × Ent)} {I : Nat → List Ent → List (Nat × List V) → H → Prop} {n : Nat} {s : St} :
    Again cr rest I n Q .normal s ↔ (s.env.filter (fun p => !(cr.1 ++ cr.2.1).contains p.1) = rest ∧ ∃ m, m < n ∧ I m (cr.1.map (getE s.env)) (s.lb.filter fun p => !cr.2.2.contains p.1) s.h) := Iff.rfl
@[simp] theorem Again_exit {cr : List Nat × List Nat × List Nat} {rest : List (Nat × Ent)} {I : Nat → List Ent → List (Nat × List V) → H → Prop} {n i : Nat} {s : St} : Again cr rest I n Q (.exit i) s ↔ Q (.exit i) s := Iff.rfl
@[simp] theorem Again_ret {cr : List Nat × List Nat × List Nat} {rest : List (Nat × Ent)} {I : Nat → List Ent → List (Nat × List V) → H → Prop} {n : Nat} {s : St} : Again cr rest I n Q .ret s ↔ Q .ret s := Iff.rfl
/-- A loop, by what holds of what is carried. -/
theorem Wp.loopI {a : Code} (I : Nat → List Ent → List (Nat × List V) → H → Prop) {n : Nat}
    (h0 : I n ((c.carry f blk).1.map (getE st.env)) (st.lb.filter fun p => !(c.carry f blk).2.2.contains p.1) st.h)
    (step : ∀ n vs lb h, I n vs lb h → Wp c f lo blk a ⟨(c.carry f blk).1.zip vs ++ st.env.filter (fun p => !((c.carry f blk).1 ++ (c.carry f blk).2.1).contains p.1), lb, h⟩
      (Again (c.carry f blk) (st.env.filter (fun p => !((c.carry f blk).1 ++ (c.carry f blk).2.1).contains p.1)) I n Q)) : Wp c f lo blk (.loop a) st Q := by
  generalize hcr : c.carry f blk = cr at *
  have hz : ∀ e : List (Nat × Ent), cr.1.map (fun t => (t, getE e t)) = cr.1.zip (cr.1.map (getE e)) := by
    intro e; generalize cr.1 = l; induction l with
    | nil => rfl
    | cons t l ih => simp only [List.map_cons, List.zip_cons_cons, ih]
  refine Wp.loop (fun n s => ∃ vs lb h, I n vs lb h ∧ s = ⟨cr.1.zip vs ++ st.env.filter (fun p => !(cr.1 ++ cr.2.1).contains p.1), lb, h⟩) (n := n) ⟨_, _, _, h0, ?_⟩ ?_
  · rw [hcr]; unfold headSt; rw [hz]
  · rintro n s ⟨vs, lb, h, hI, rfl⟩
    refine (step n vs lb h hI).mono ?_
    intro x s hx
    cases x with
    | normal =>
      obtain ⟨e, m, hm, hI'⟩ := hx
      refine ⟨m, hm, _, _, _, hI', ?_⟩
      rw [hcr]; unfold headSt; rw [hz, e]
    | exit i => exact hx
    | ret => exact hx
end
end Go.AM

/- The contracts of slices.Clone and slices.SortFunc at findings: a sorted copy. -/
import Derived.Test.YtaaiamfolbcchaaDoorExtM
import Derived.Test.YtaaiamfolbcchaaDoorExtL
import Derived.Test.YtaaiamfolbcchaaDoorShelfG
namespace Go.Proofs.YtaaiamfolbcchaaDoor.Ext
set_option linter.unusedVariables false
set_option linter.unusedSimpArgs false
open Go.Sort (HoldsK SWO PermIn SortedIn)
open Go.RowKit Go.Proofs.YtaaiamfolbcchaaDoorW.PrintWords Go.Proofs.YtaaiamfolbcchaaDoorW.PrintLast Go.Proofs.YtaaiamfolbcchaaDoor.X5

def cmpI (a b : Int) : Int := if a < b then -1 else if a > b then 1 else 0
theorem Compare_tells (a b : Int) : cmp_Compare_int.f a b = some (cmpI a b) := by
  unfold cmp_Compare_int.f cmp_isNaN_int.f cmpI
  simp only [Option.bind_some, bne_self_eq_false, Bool.false_eq_true, if_false]
  split
  · rfl
  · split <;> rfl
def cfI (x y : SF) : Int := if cmpI x.f0 y.f0 = 0 then (if cmpI x.f1 y.f1 = 0 then cmpI x.f2 y.f2 else cmpI x.f1 y.f1) else cmpI x.f0 y.f0
theorem Or_tells (a b c : Int) : cmp_Or_int.f 5 [a, b, c] = some (if a = 0 then (if b = 0 then c else b) else a) := by
  have l3 : (([a, b, c] : List Int).length : Int) = 3 := rfl
  have r0 : rd [a, b, c] 0 = a := rfl
  have r1 : rd [a, b, c] 1 = b := rfl
  have r2 : rd [a, b, c] 2 = c := rfl
  have w1 : wrap64 (0 + 1) = 1 := by unfold wrap64; omega
  have w2 : wrap64 (1 + 1) = 2 := by unfold wrap64; omega
  have w3 : wrap64 (2 + 1) = 3 := by unfold wrap64; omega
  unfold cmp_Or_int.f
  simp only [cmp_Or_int.l0, l3, r0, r1, r2, w1, w2, w3, show ((0 : Int) < 3) = True by decide, show ((0 : Int) ≤ 0) = True by decide, show ((1 : Int) < 3) = True by decide, show ((0 : Int) ≤ 1) = True by decide, show ((2 : Int) < 3) = True by decide, show ((0 : Int) ≤ 2) = True by decide, show ((3 : Int) < 3) = False by decide, if_true, if_false]
  by_cases h0 : a = 0
  · simp only [h0, if_true]
    by_cases h1 : b = 0
    · simp only [h1, if_true]
      by_cases h2 : c = 0
      · simp only [h2, if_true]
      · simp only [h2, if_false]
    · simp only [h1, if_false]
  · simp only [h0, if_false]
theorem order_tells (x y : SF) : clause_order.f 5 x.f0 x.f1 x.f2 y.f0 y.f1 y.f2 = some (cfI x y) := by
  unfold clause_order.f cfI
  simp only [Compare_tells, Option.bind_some, Or_tells]
def ltF (x y : SF) : Prop := x.f0 < y.f0 ∨ (x.f0 = y.f0 ∧ (x.f1 < y.f1 ∨ (x.f1 = y.f1 ∧ x.f2 < y.f2)))
theorem lt_iff (x y : SF) : ltOf cfI x y = true ↔ ltF x y := by
  unfold ltOf cfI cmpI ltF
  rw [decide_eq_true_eq]
  repeat' split
  all_goals omega
theorem lt_not (x y : SF) : ltOf cfI x y = false ↔ ¬ ltF x y := by rw [← lt_iff]; simp
theorem swoF : SWO (ltOf cfI) where
  irrefl x := by rw [lt_not]; unfold ltF; omega
  trans x y z h1 h2 := by rw [lt_iff] at *; unfold ltF at *; omega
  ntrans x y z h1 h2 := by rw [lt_not] at *; unfold ltF at *; omega
theorem cmpLays (g n : Nat) (w : World) : CmpLays Tryd.prog 88 #[] enc3 3 cfI g 0 n w := fun m os dk _ x y =>
  clause_order.grown 5 x.f0 x.f1 x.f2 y.f0 y.f1 y.f2 (cfI x y) _ (order_tells x y)
def Asc (l : List SF) : Prop := l.Pairwise fun a b => ¬ ltF b a
theorem sortFunc_calls (w : World) (g n cap : Nat) (xs : List SF) (h : Rowed w g n cap xs) (hn : n < 4611686018427387904) :
    Calls Tryd.prog 87 #[.slice (some ⟨g, 0, none⟩) n cap, .func (.func 88) #[] #[]] w fun e w' => e = .returned (.tuple #[]) ∧
      ∃ ys, ys.Perm xs ∧ Asc ys ∧ Rowed w' g n cap ys ∧ ∀ B, B ≤ g → B ≤ w.heap.size → Below B w w' := by
  have hxn : xs.length = n := by obtain ⟨_, _, _, e, _⟩ := h; exact e
  have hlt : g < w.heap.size := by obtain ⟨cur, e, _⟩ := h; exact blk_lt e
  have eg : ∀ args w, (callFunc 88 args).run Tryd.prog w = .ok (.enter 88 args) w := enters_of Tryd.func88 (by kernel_rfl) rfl
  have hs : xs.toArray.size = n := by simpa using hxn
  have hcon := AnyQ.slices_SortFunc Tryd.laySort 3 Tryd.isAgg62 Tryd.sizeOf62 enc3 (fun _ => rfl) (fun x v hv => by simp [enc3] at hv; rcases hv with rfl | rfl | rfl <;> rfl) cfI swoF 88 #[] g 0 cap xs.toArray w eg (cmpLays g _ w) h.holds hlt (by rw [hs]; exact hn)
  rw [hs] at hcon
  refine hcon.mono ?_
  rintro e w' ⟨rfl, d', q, os, hp, hsrt, rfl⟩
  obtain ⟨p1, _, p3⟩ := hp
  rw [hs] at p1
  obtain ⟨h1, h2⟩ := after_sort h q d' os p1
  refine ⟨rfl, d'.toList, ?_, ?_, h1, h2⟩
  · rw [show d'.extract 0 n = d' by rw [← p1]; simp, show (xs.toArray).extract 0 n = xs.toArray by rw [← hs]; simp] at p3
    exact p3
  · unfold Asc
    rw [List.pairwise_iff_getElem]
    intro i j hi hj hij
    have hi' : i < d'.size := by simpa using hi
    have hj' : j < d'.size := by simpa using hj
    have := hsrt i j (Nat.zero_le _) hij (by rw [← p1]; exact hj')
    rw [getElem!_pos d' i hi', getElem!_pos d' j hj', lt_not] at this
    simpa using this
theorem plain_add (b o t : Nat) : (⟨b, o, none⟩ : Addr).add t = ⟨b, o + t, none⟩ := by
  unfold Addr.add
  by_cases h : t = 0
  · rw [if_pos h, h]; rfl
  · rw [if_neg h]
theorem clone_calls (w : World) (A : Option Addr) (c : Nat) (xs : List SF) (h0 : 0 < xs.length) (hn : xs.length ≤ 1000000) (hr : Kd.C k62 w A xs.length xs) :
    Calls Tryd.prog 86 #[.slice A xs.length c] w fun e w' => ∃ g cap, e = .returned (.slice (some ⟨g, 0, none⟩) xs.length cap) ∧ w.heap.size ≤ g ∧ cap ≤ maxLen ∧ Rowed w' g xs.length cap xs ∧ Below w.heap.size w w' := by
  obtain ⟨_, _, hc⟩ := hr
  obtain ⟨⟨bk, o, sp⟩, rfl, hcell⟩ := hc h0
  have one : ∀ i x, xs[i]? = some x → ∀ j u, (enc3 x)[j]? = some u → w.cell? ((⟨bk, o, sp⟩ : Addr).add (i * 3 + j)) = some u := by
    intro i x hx j u hu
    obtain ⟨cs, _, hK, hcc⟩ := hcell i x hx
    have hcs : cs = enc3 x := by
      obtain ⟨c1, c2, e1, e2, c3, c4, e3, e4, e5⟩ := hK
      simp only [Kd.int, Kd.scalar] at e2 e4 e5
      rw [e1, e3, e2, e4, e5]
      rfl
    rw [hcs] at hcc
    exact hcc j u hu
  have hsp : sp = none := by
    have hx := List.getElem?_eq_getElem h0
    have := one 0 _ hx 0 _ rfl
    rw [show (⟨bk, o, sp⟩ : Addr).add (0 * 3 + 0) = ⟨bk, o, sp⟩ from if_pos rfl] at this
    cases sp with
    | none => rfl
    | some s =>
      unfold World.cell? at this
      split at this <;> simp at this
  subst hsp
  obtain ⟨i0, hi0, hz0, hz1, hz2⟩ := info_parts info62
  refine (AnyE.slices_Clone Tryd.layClone i0 _ 3 24 hi0 hz0 hz1 hz2 rfl (by omega) Tryd.sizeOf62 bk o xs.length c (xs.flatMap enc3) w (flat_len xs) (by unfold maxLen; omega) (by omega) (fun t u hu => ?_) (fun u hu => ?_)).mono ?_
  · have ht : t < xs.length * 3 := by rw [← flat_len]; exact (List.getElem?_eq_some_iff.1 hu).1
    have e1 : t = t / 3 * 3 + t % 3 := by omega
    have hi : t / 3 < xs.length := by omega
    rw [e1, flat_get xs _ _ (Nat.mod_lt _ (by omega)), List.getElem?_eq_getElem hi] at hu
    have := one _ _ (List.getElem?_eq_getElem hi) _ _ hu
    rw [e1, ← plain_add bk o (t / 3 * 3 + t % 3)]
    exact this
  · obtain ⟨x, _, hx⟩ := List.mem_flatMap.1 hu
    simp [enc3] at hx
    rcases hx with rfl | rfl | rfl <;> rfl
  · rintro e w' ⟨v', rfl, ho, _, hb⟩
    obtain ⟨g, cap, rfl, h1, h2, h3⟩ := Rowed.of_own ho rfl h0
    exact ⟨g, cap, rfl, h1, h2, h3, hb⟩
end Go.Proofs.YtaaiamfolbcchaaDoor.Ext

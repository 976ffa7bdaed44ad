/- A row of structs of three ints in a block of its own: what its cells hold, and what a sort leaves in them. -/
import Derived.Test.YtaaiamfolbcchaaDoorX50
import Derived.Test.YtaaiamfolbcchaaDoorExtK
import Derived.Shelf.SlSortCmp.WholeK
import Derived.Shelf.SlicesE.Clone
namespace Go.Proofs.YtaaiamfolbcchaaDoor.Ext
set_option linter.unusedVariables false
set_option linter.unusedSimpArgs false
open Go.Sort (HoldsK flatK size_flatK get_flatK putCells onCells)
open Go.RowKit Go.Proofs.YtaaiamfolbcchaaDoorW.PrintWords Go.Proofs.YtaaiamfolbcchaaDoorW.PrintLast Go.Proofs.YtaaiamfolbcchaaDoor.X5

abbrev SF := S62
instance : Inhabited SF := ⟨⟨0, 0, 0⟩⟩
def enc3 (x : SF) : List Value := [.int .i64 x.f0, .int .i64 x.f1, .int .i64 x.f2]
def Rowed (w : World) (g n cap : Nat) (xs : List SF) : Prop := ∃ cur : Array Value, w.heap[g]? = some (.cells cur 62 (0, 0)) ∧ cur.size = cap * 3 ∧ xs.length = n ∧ n ≤ cap ∧ ∀ i x, xs[i]? = some x → ∀ j, j < 3 → cur[i * 3 + j]? = (enc3 x)[j]?
section
variable {w w' : World} {g n cap : Nat} {xs : List SF}
theorem Rowed.cells (h : Rowed w g n cap xs) {i : Nat} {x : SF} (hx : xs[i]? = some x) :
    (w.cell? ⟨g, i * 3, none⟩ = some (.int .i64 x.f0) ∧ w.cell? ⟨g, i * 3 + 1, none⟩ = some (.int .i64 x.f1) ∧ w.cell? ⟨g, i * 3 + 2, none⟩ = some (.int .i64 x.f2)) ∧
    w.frozen? ⟨g, i * 3, none⟩ = false ∧ w.frozen? ⟨g, i * 3 + 1, none⟩ = false ∧ w.frozen? ⟨g, i * 3 + 2, none⟩ = false := by
  obtain ⟨cur, h1, h2, h3, h4, h5⟩ := h
  have e := h5 i x hx
  exact ⟨⟨(blk_cell h1 _).trans (e 0 (by omega)), (blk_cell h1 _).trans (e 1 (by omega)), (blk_cell h1 _).trans (e 2 (by omega))⟩, blk_frozen h1 _, blk_frozen h1 _, blk_frozen h1 _⟩
theorem Rowed.put (h : Rowed w g n cap xs) {i : Nat} (hi : i < n) (x : SF) :
    Rowed (((w.setCell ⟨g, i * 3, none⟩ (.int .i64 x.f0)).setCell ⟨g, i * 3 + 1, none⟩ (.int .i64 x.f1)).setCell ⟨g, i * 3 + 2, none⟩ (.int .i64 x.f2)) g n cap (xs.set i x) := by
  obtain ⟨cur, h1, h2, h3, h4, h5⟩ := h
  refine ⟨_, blk_put (blk_put (blk_put h1 _ _ rfl) _ _ rfl) _ _ rfl, by simp [h2], by simp [h3], h4, fun k y hk j hj => ?_⟩
  have hs : i * 3 + 2 < cur.size := by rw [h2]; omega
  by_cases hki : k = i
  · subst hki
    rw [List.getElem?_set_self (by omega)] at hk
    cases hk
    have : j = 0 ∨ j = 1 ∨ j = 2 := by omega
    rcases this with rfl | rfl | rfl
    · rw [Array.getElem?_setIfInBounds_ne (by omega), Array.getElem?_setIfInBounds_ne (by omega), Nat.add_zero, Array.getElem?_setIfInBounds_self_of_lt (by omega)]; rfl
    · rw [Array.getElem?_setIfInBounds_ne (by omega), Array.getElem?_setIfInBounds_self_of_lt (by simp; omega)]; rfl
    · rw [Array.getElem?_setIfInBounds_self_of_lt (by simp; omega)]; rfl
  · rw [List.getElem?_set_ne (Ne.symm hki)] at hk
    rw [Array.getElem?_setIfInBounds_ne (by omega), Array.getElem?_setIfInBounds_ne (by omega), Array.getElem?_setIfInBounds_ne (by omega)]
    exact h5 k y hk j hj
theorem Rowed.below (h : Rowed w g n cap xs) (hb : Below w.heap.size w w') : Rowed w' g n cap xs := by
  obtain ⟨cur, h1, h2⟩ := h
  exact ⟨cur, blk_below h1 hb, h2⟩
theorem Rowed.take (h : Rowed w g n cap xs) (m : Nat) (hm : m ≤ n) : Rowed w g m cap (xs.take m) := by
  obtain ⟨cur, h1, h2, h3, h4, h5⟩ := h
  refine ⟨cur, h1, h2, by rw [List.length_take]; omega, by omega, fun i x hx => ?_⟩
  rw [List.getElem?_take] at hx
  split at hx
  · exact h5 i x hx
  · cases hx
theorem flat_get : ∀ (xs : List SF) (i j : Nat), j < 3 → (xs.flatMap enc3)[i * 3 + j]? = (xs[i]?).bind fun x => (enc3 x)[j]?
  | [], i, j, _ => by simp
  | x :: xs, 0, j, hj => by
    rw [List.flatMap_cons, Nat.zero_mul, Nat.zero_add, List.getElem?_append_left (by show j < 3; exact hj)]
    rfl
  | x :: xs, i + 1, j, hj => by
    rw [List.flatMap_cons, List.getElem?_append_right (by show 3 ≤ _; omega), show (i + 1) * 3 + j - (enc3 x).length = i * 3 + j by show (i + 1) * 3 + j - 3 = _; omega, flat_get xs i j hj]
    rfl
theorem flat_len (xs : List SF) : (xs.flatMap enc3).length = xs.length * 3 := by
  induction xs with
  | nil => rfl
  | cons x xs ih => rw [List.flatMap_cons, List.length_append, ih, List.length_cons]; show 3 + _ = _; omega
theorem Rowed.inner {cur : Array Value} (hs : cur.size = cap * 3) (hn : xs.length = n) (hc : n ≤ cap) (h : ∀ i x, xs[i]? = some x → ∀ j, j < 3 → cur[i * 3 + j]? = (enc3 x)[j]?) : cur.toList.take (n * 3) = xs.flatMap enc3 := by
  apply List.ext_getElem?
  intro t
  by_cases ht : t < n * 3
  · have e1 : t = t / 3 * 3 + t % 3 := by omega
    have hi : t / 3 < xs.length := by omega
    rw [List.getElem?_take, if_pos ht, e1, flat_get xs _ _ (Nat.mod_lt _ (by omega)), List.getElem?_eq_getElem hi, Array.getElem?_toList, h _ _ (List.getElem?_eq_getElem hi) _ (Nat.mod_lt _ (by omega))]
    rfl
  · rw [List.getElem?_eq_none (by rw [List.length_take]; omega), List.getElem?_eq_none (by rw [flat_len]; omega)]
theorem Rowed.own (h : Rowed w g n cap xs) {base : Nat} (hb : base ≤ g) (hm : cap ≤ maxLen) : Kd.R k62 62 w base (fun _ => True) (.slice (some ⟨g, 0, none⟩) n cap) xs := by
  obtain ⟨cur, h1, h2, h3, h4, h5⟩ := h
  have hin := Rowed.inner h2 h3 h4 h5
  refine ⟨fun _ _ => trivial, xs.flatMap enc3, ⟨by rw [flat_len]; rfl, .inr ⟨g, cap, cur, by rw [h3], hb, h1, by omega, hm, h2, by rw [h3]; exact hin⟩⟩, by rw [flat_len]; rfl, fun j p hj => ?_⟩
  have : ((xs.flatMap enc3).drop (j * 3)).take 3 = enc3 p := by
    apply List.ext_getElem?
    intro t
    by_cases ht : t < 3
    · rw [List.getElem?_take, if_pos ht, List.getElem?_drop, flat_get xs j t ht, hj]; rfl
    · rw [List.getElem?_eq_none (by rw [List.length_take]; omega), List.getElem?_eq_none (by show 3 ≤ t; omega)]
  show k62.M w base _ p (((xs.flatMap enc3).drop (j * 3)).take 3)
  rw [this]
  exact k62_mkM w base _ p
theorem Rowed.of_own {base : Nat} {v : Value} (h : w.ownsRow base 62 3 v n (xs.flatMap enc3)) (hn : xs.length = n) (h0 : 0 < n) : ∃ g cap, v = .slice (some ⟨g, 0, none⟩) n cap ∧ base ≤ g ∧ cap ≤ maxLen ∧ Rowed w g n cap xs := by
  obtain ⟨_, h2⟩ := h
  rcases h2 with ⟨_, e⟩ | ⟨g, cap, cur, rfl, hg, hh, hc, hm, hs, ht⟩
  · omega
  · refine ⟨g, cap, rfl, hg, hm, cur, hh, hs, hn, hc, fun i x hx j hj => ?_⟩
    have hi : i < n := by rw [← hn]; exact (List.getElem?_eq_some_iff.1 hx).1
    have := flat_get xs i j hj
    rw [← ht, List.getElem?_take, if_pos (by omega), Array.getElem?_toList, hx] at this
    exact this
theorem Rowed.holds (h : Rowed w g n cap xs) : HoldsK enc3 3 w g 0 xs.toArray := by
  obtain ⟨cur, h1, h2, h3, h4, h5⟩ := h
  intro t ht
  rw [size_flatK] at ht
  have e1 : t = t / 3 * 3 + t % 3 := by omega
  have hi : t / 3 < xs.length := by simp at ht; omega
  have hj : t % 3 < 3 := Nat.mod_lt _ (by omega)
  refine ⟨?_, blk_frozen h1 _⟩
  rw [Nat.zero_add, blk_cell h1, get_flatK _ _ _ _ ht]
  have := h5 _ _ (List.getElem?_eq_getElem hi) _ hj
  rw [← e1] at this
  rw [this, show (xs.toArray)[t / 3]! = xs[t / 3] by rw [getElem!_pos _ _ (by simpa using hi)]; simp]
  have : (enc3 xs[t / 3])[t % 3]? = some ((enc3 xs[t / 3])[t % 3]!) := by
    rw [List.getElem?_eq_getElem (by show t % 3 < 3; exact hj), getElem!_pos _ _ (by show t % 3 < 3; exact hj)]
  rw [this]
  rfl
theorem after_sort (h : Rowed w g n cap xs) (q : Nat) (d : Array SF) (os : Array Obj) (hd : d.size = n) : Rowed (sortWorldK enc3 3 w g 0 q d os) g n cap d.toList ∧ (∀ B, B ≤ g → B ≤ w.heap.size → Below B w (sortWorldK enc3 3 w g 0 q d os)) := by
  obtain ⟨cur, h1, h2, h3, h4, h5⟩ := h
  have hlt := blk_lt h1
  have hheap : (sortWorldK enc3 3 w g 0 q d os).heap = (w.heap.modify g (onCells (putCells id 0 (flatK enc3 3 d)))) ++ os := rfl
  refine ⟨⟨putCells id 0 (flatK enc3 3 d) cur, ?_, by simp [putCells, h2], by simp [hd], h4, fun i x hx j hj => ?_⟩, fun B hB hB2 => ⟨rfl, rfl, rfl, ?_, fun k hk => ?_⟩⟩
  · rw [hheap, Array.getElem?_append_left (by simpa using hlt), Array.getElem?_modify, if_pos rfl, h1]
    rfl
  · have hi : i < n := by have := (List.getElem?_eq_some_iff.1 hx).1; simp [hd] at this; exact this
    have ht : i * 3 + j < d.size * 3 := by omega
    have hc : i * 3 + j < cur.size := by omega
    have e1 : (i * 3 + j) / 3 = i := by omega
    have e2 : (i * 3 + j) % 3 = j := by omega
    simp only [putCells, Array.getElem?_mapIdx, Array.getElem?_eq_getElem hc, Option.map_some, Nat.zero_le, true_and, Nat.zero_add, size_flatK, if_pos ht, Nat.sub_zero, id]
    rw [get_flatK _ _ _ _ ht, e1, e2]
    have hx' : d[i]! = x := by
      rw [getElem!_pos _ _ (by omega)]
      rw [Array.getElem?_toList, Array.getElem?_eq_getElem (by omega)] at hx
      exact Option.some.inj hx
    rw [hx', List.getElem?_eq_getElem (by show j < 3; exact hj), getElem!_pos _ _ (by show j < 3; exact hj)]
  · rw [hheap]; simp
  · rw [hheap, Array.getElem?_append_left (by simp; omega), Array.getElem?_modify, if_neg (by omega)]
end
end Go.Proofs.YtaaiamfolbcchaaDoor.Ext

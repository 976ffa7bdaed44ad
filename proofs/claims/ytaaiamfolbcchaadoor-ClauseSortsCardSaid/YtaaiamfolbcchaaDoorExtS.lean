/- An argument that is a slice of structs of ints, as a list that is read. -/
import Derived.Test.YtaaiamfolbcchaaDoorV
import Derived.Deep.Slices
import Derived.ChangeArms
import Derived.DataReads
import Derived.Deep.Fields
import Derived.Test.YtaaiamfolbcchaaDoorX30
import Derived.Test.YtaaiamfolbcchaaDoorX50
namespace Go.Proofs.YtaaiamfolbcchaaDoor.Ext
set_option linter.unusedVariables false
set_option linter.unusedSimpArgs false
open Go.Proofs.YtaaiamfolbcchaaDoor
open Go.ChangeShapes Go.WideShapes Go.Deep Go.RowKit Go.Proofs.YtaaiamfolbcchaaDoorW.PrintWords Go.Proofs.YtaaiamfolbcchaaDoorW.PrintLast

section
variable {H : Type} {enc : TypeId × Value → H} {P : Program} {w : World} {base : Nat} {spare : Nat → Bool} {held : Bool}
theorem read_cells {α : Type} (d : Kd α) {t e : TypeId} (ht : P.underlying t = some (.slice e)) (hC : P.cellsOf e = d.sz) (good : α → Prop)
    (dec : ∀ n cs y, DataW.trod enc P w base spare held n e cs = some y → cs.length = d.sz → ∃ x : α, d.K w x cs ∧ good x)
    {fuel : Nat} {cs : List Value} {y : DataW H × List MemPlace} (hf : DataW.trod enc P w base spare held fuel t cs = some y) :
    ∃ (A : Option Addr) (cap : Nat) (l : List α), cs = [.slice A l.length cap] ∧ l.length ≤ cap ∧ d.C w A l.length l ∧ l.length ≤ 9223372036854775807 ∧ ∀ x ∈ l, good x := by
  rcases open_slice ht hf with ⟨hcs, _⟩ | ⟨a, len, cap, m, n, D, Pl, hcs, hb, hl, hm, hmm, hx, hi⟩
  · exact ⟨none, 0, [], hcs, Nat.zero_le _, ⟨rfl, by simp, fun h => absurd h (Nat.lt_irrefl 0)⟩, by simp, (fun x hx => by cases hx)⟩
  · have hml : len ≤ m := by rw [hmm]; split <;> omega
    have key : ∀ k, k ≤ len → ∃ l : List α, l.length = k ∧ (∀ x ∈ l, good x) ∧ ∀ j x, l[j]? = some x → ∃ c, c.length = d.sz ∧ d.K w x c ∧ ∀ i u, c[i]? = some u → w.cell? (a.add (j * d.sz + i)) = some u := by
      intro k
      induction k with
      | zero => exact fun _ => ⟨[], rfl, (fun x hx => by cases hx), fun j x hj => by simp at hj⟩
      | succ k ih =>
        intro hk
        obtain ⟨l, h1, h2, h3⟩ := ih (by omega)
        obtain ⟨cs', hc, htr⟩ := hi k (by omega)
        rw [hC] at hc
        obtain ⟨_, hcl, hat⟩ := World.cells?_some hc
        obtain ⟨x, hK, hg⟩ := dec _ _ _ htr hcl
        refine ⟨l ++ [x], by simp [h1], fun y hy => ?_, fun j y hj => ?_⟩
        · rcases List.mem_append.1 hy with hy | hy
          · exact h2 y hy
          · rw [List.mem_singleton.1 hy]; exact hg
        · by_cases hjk : j < k
          · rw [List.getElem?_append_left (by omega)] at hj
            exact h3 j y hj
          · have hj' : j = k := by
              have := (List.getElem?_eq_some_iff.1 hj).1
              simp [h1] at this
              omega
            subst hj'
            rw [List.getElem?_append_right (by omega), h1, Nat.sub_self] at hj
            simp at hj
            subst hj
            refine ⟨cs', hcl, hK, fun i u hu => ?_⟩
            have hil : i < d.sz := by rw [← hcl]; exact (List.getElem?_eq_some_iff.1 hu).1
            rw [← Go.Deep.add_add, hat i hil, hu]
    obtain ⟨l, h1, h2, h3⟩ := key len (Nat.le_refl _)
    subst h1
    have hm' : l.length ≤ 9223372036854775807 := by unfold maxLen at hm; omega
    exact ⟨some a, cap, l, hcs, hl, ⟨rfl, hm', fun _ => ⟨a, rfl, h3⟩⟩, hm', h2⟩
/-- A field of a struct that is read. -/
theorem fld {t : TypeId} {fs : Array Field} {fuel : Nat} {cs : List Value} {x : DataW H × List MemPlace} (hs : P.underlying t = some (.struct fs)) (h : DataW.trod enc P w base spare held fuel t cs = some x) (i : Nat) (f : Field) (hi : fs[i]? = some f) (k : Nat) (hk : P.cellsOf f.type = k) :
    ∃ n y, DataW.trod enc P w base spare held n f.type ((cs.drop f.offset).take k) = some y := by
  obtain ⟨xs, n, _, _, _, hlen, hg⟩ := DataW.trod_struct hs h
  have := hg i f hi
  rw [hk] at this
  have hil : i < xs.length := by rw [hlen]; exact (Array.getElem?_eq_some_iff.1 hi).1
  rw [List.getElem?_eq_getElem hil] at this
  exact ⟨n, _, this⟩
theorem int2 {t : TypeId} {f0 f1 : Field} (hs : P.underlying t = some (.struct #[f0, f1])) (hone : Go.Deep.oneCellFields P #[f0, f1] = true) (h0 : P.underlying f0.type = some (.int .i64)) (h1 : P.underlying f1.type = some (.int .i64))
    {n : Nat} {cs : List Value} {y : DataW H × List MemPlace} (h : DataW.trod enc P w base spare held n t cs = some y) (hl : cs.length = 2) :
    ∃ a b : Int, cs = [.int .i64 a, .int .i64 b] ∧ (Lit.int .i64 a).wf = true ∧ (Lit.int .i64 b).wf = true := by
  obtain ⟨xs, n', _, hx, _, hlen, hg⟩ := DataW.trod_struct hs h
  obtain ⟨o0, k0⟩ := Go.Deep.hone_of hone 0 f0 rfl
  obtain ⟨o1, k1⟩ := Go.Deep.hone_of hone 1 f1 rfl
  match cs, hl, xs, hlen with
  | [c0, c1], _, [y0, y1], _ =>
    have g0 := hg 0 f0 rfl
    have g1 := hg 1 f1 rfl
    rw [o0, k0] at g0
    rw [o1, k1] at g1
    obtain ⟨a, e0, _, w0⟩ := DataW.trod_int h0 (g0.trans rfl)
    obtain ⟨b, e1, _, w1⟩ := DataW.trod_int h1 (g1.trans rfl)
    simp at e0 e1
    exact ⟨a, b, by rw [e0, e1], w0, w1⟩
theorem int3 {t : TypeId} {f0 f1 f2 : Field} (hs : P.underlying t = some (.struct #[f0, f1, f2])) (hone : Go.Deep.oneCellFields P #[f0, f1, f2] = true) (h0 : P.underlying f0.type = some (.int .i64)) (h1 : P.underlying f1.type = some (.int .i64)) (h2 : P.underlying f2.type = some (.int .i64))
    {n : Nat} {cs : List Value} {y : DataW H × List MemPlace} (h : DataW.trod enc P w base spare held n t cs = some y) (hl : cs.length = 3) :
    ∃ a b c : Int, cs = [.int .i64 a, .int .i64 b, .int .i64 c] ∧ (Lit.int .i64 a).wf = true ∧ (Lit.int .i64 b).wf = true ∧ (Lit.int .i64 c).wf = true := by
  obtain ⟨xs, n', _, hx, _, hlen, hg⟩ := DataW.trod_struct hs h
  obtain ⟨o0, k0⟩ := Go.Deep.hone_of hone 0 f0 rfl
  obtain ⟨o1, k1⟩ := Go.Deep.hone_of hone 1 f1 rfl
  obtain ⟨o2, k2⟩ := Go.Deep.hone_of hone 2 f2 rfl
  match cs, hl, xs, hlen with
  | [c0, c1, c2], _, [y0, y1, y2], _ =>
    have g0 := hg 0 f0 rfl
    have g1 := hg 1 f1 rfl
    have g2 := hg 2 f2 rfl
    rw [o0, k0] at g0
    rw [o1, k1] at g1
    rw [o2, k2] at g2
    obtain ⟨a, e0, _, w0⟩ := DataW.trod_int h0 (g0.trans rfl)
    obtain ⟨b, e1, _, w1⟩ := DataW.trod_int h1 (g1.trans rfl)
    obtain ⟨c, e2, _, w2⟩ := DataW.trod_int h2 (g2.trans rfl)
    simp at e0 e1 e2
    exact ⟨a, b, c, by rw [e0, e1, e2], w0, w1, w2⟩
end
theorem read75 {H : Type} {enc : TypeId × Value → H} {w : World} {base : Nat} {spare : Nat → Bool} {held : Bool} {fuel : Nat} {cs : List Value} {y : DataW H × List MemPlace} (h : DataW.trod enc Tryd.prog w base spare held fuel 80 cs = some y) :
    ∃ (A : Option Addr) (cap : Nat) (l : List X3.S75), cs = [.slice A l.length cap] ∧ l.length ≤ cap ∧ X3.k75.C w A l.length l ∧ l.length ≤ 9223372036854775807 ∧ ∀ x ∈ l, (Lit.int .i64 x.f0).wf = true ∧ (Lit.int .i64 x.f1).wf = true ∧ (Lit.int .i64 x.f2).wf = true :=
  read_cells X3.k75 Tryd.underlying80 (by kernel_rfl) _ (fun n cs y hy hl => by
    obtain ⟨a, b, c, rfl, g⟩ := int3 Tryd.underlying75 (by kernel_rfl) Tryd.underlying3 Tryd.underlying3 Tryd.underlying3 hy hl
    exact ⟨⟨a, b, c⟩, X3.k75.K_of_M (X3.k75_mkM w 0 (fun _ => True) ⟨a, b, c⟩), g⟩) h
theorem read62 {H : Type} {enc : TypeId × Value → H} {w : World} {base : Nat} {spare : Nat → Bool} {held : Bool} {fuel : Nat} {cs : List Value} {y : DataW H × List MemPlace} (h : DataW.trod enc Tryd.prog w base spare held fuel 56 cs = some y) :
    ∃ (A : Option Addr) (cap : Nat) (l : List X5.S62), cs = [.slice A l.length cap] ∧ l.length ≤ cap ∧ X5.k62.C w A l.length l ∧ l.length ≤ 9223372036854775807 ∧ ∀ x ∈ l, (Lit.int .i64 x.f0).wf = true ∧ (Lit.int .i64 x.f1).wf = true ∧ (Lit.int .i64 x.f2).wf = true :=
  read_cells X5.k62 Tryd.underlying56 (by kernel_rfl) _ (fun n cs y hy hl => by
    obtain ⟨a, b, c, rfl, g⟩ := int3 Tryd.underlying62 (by kernel_rfl) Tryd.underlying3 Tryd.underlying3 Tryd.underlying3 hy hl
    exact ⟨⟨a, b, c⟩, X5.k62.K_of_M (X5.k62_mkM w 0 (fun _ => True) ⟨a, b, c⟩), g⟩) h
end Go.Proofs.YtaaiamfolbcchaaDoor.Ext

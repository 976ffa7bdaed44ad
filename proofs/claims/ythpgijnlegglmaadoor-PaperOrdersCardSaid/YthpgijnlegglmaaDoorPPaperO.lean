/- The plain law of PaperOrders (layer 31). -/
import Derived.Test.YthpgijnlegglmaaDoorX62
import Derived.Test.YthpgijnlegglmaaDoorPPaperB
import Derived.OpenShut
namespace Go.Proofs.YthpgijnlegglmaaDoor.Pure
set_option linter.unusedVariables false
set_option linter.unusedSimpArgs false
open Go.RowKit Go.Proofs.YthpgijnlegglmaaDoor.Y0 Go.Proofs.YthpgijnlegglmaaDoor.X1 Go.Proofs.YthpgijnlegglmaaDoor.X2 Go.Proofs.YthpgijnlegglmaaDoor.X6 Go.Proofs.YthpgijnlegglmaaDoor.Ext Go.Proofs.YthpgijnlegglmaaDoorW.PrintWords Go.Proofs.YthpgijnlegglmaaDoorW.PrintLast Go.Proofs.YthpgijnlegglmaaDoorW.PrintMore

def aliveT : List UInt8 := [111, 114, 100, 101, 114, 32, 55, 32, 50, 32, 45, 51, 48, 32, 49, 53, 32, 54, 48, 45, 57, 48]
theorem alive_read : readO aliveT = (7, 2, -30, 15, [⟨60, 90⟩], 0) := by kernel_rfl
theorem alive31' : Ev (fun k => haulierlaw31_alive.f k) true := by
  unfold haulierlaw31_alive.f
  have rt := ReadO_tells (mk aliveT) (by decide)
  rw [data_mk, alive_read] at rt
  refine Ev.bind (f := fun k bt => _) rt ?_
  exact Ev.now _
theorem alive31 : Ev (fun k => (haulierlaw31_alive.f k).bind fun t => some t) true := Ev.bind (f := fun _ t => some t) alive31' (Ev.now _)
theorem spn_loop (l : List Spn) (hl : l.length ≤ 4294967280) : ∀ (rest : List Spn) (i : Nat), l.drop i = rest → Ev (fun k => haulierref03_Same.l0 k l l (i : Int)) true := by
  intro rest
  induction rest with
  | nil =>
    intro i hd
    have hi : l.length ≤ i := by simpa using hd
    exact Ev.step (f := fun _ => some true) (fun k => by simp only [haulierref03_Same.l0]; rw [if_neg (by omega)]) (Ev.now _)
  | cons r rs ih =>
    intro i hd
    obtain ⟨e1, h1, h2⟩ := rd_drop_spn hd
    have c1 : (i : Int) < (l.length : Int) := by omega
    have c2 : (0 : Int) ≤ (i : Int) := by omega
    have e3 : wrap64 ((i : Int) + 1) = ((i + 1 : Nat) : Int) := by unfold wrap64; omega
    exact Ev.step (f := fun k => haulierref03_Same.l0 k l l ((i + 1 : Nat) : Int)) (fun k => by simp only [haulierref03_Same.l0]; rw [if_pos c1, if_pos c2, if_pos c1, e3, if_neg (by simp)]) (ih (i + 1) h2)
theorem SameO_tells (x : OrdR) (hl : x.2.2.2.2.1.length ≤ 4294967280) : Ev (fun k => haulierref28_Same.f k x.1 x.2.1 x.2.2.1 x.2.2.2.1 x.2.2.2.2.1 x.1 x.2.1 x.2.2.1 x.2.2.2.1 x.2.2.2.2.1) true := by
  unfold haulierref28_Same.f
  simp only [if_true]
  refine Ev.bind (f := fun k t => some t) ?_ (Ev.now _)
  unfold haulierref03_Same.f
  exact Ev.congr (fun k => by rw [if_pos rfl]; rfl) (spn_loop _ hl _ 0 rfl)
theorem spans_len : ∀ (r : List (List UInt8)) (os : List Spn), (spansR r os).1.length ≤ os.length + r.length
  | [], os => Nat.le_refl _
  | w :: r, os => by
    unfold spansR
    split
    · have := spans_len r (os ++ [⟨(spanR w).1, (spanR w).2.1⟩])
      simp at this ⊢
      omega
    · simp
theorem ord_len (ls : List (List UInt8)) : (ordR ls).2.2.2.2.1.length ≤ ls.length := by
  unfold ordR
  split
  · split
    · rename_i w0 w1 w2 w3 w4 r _
      have := spans_len r []
      unfold ord5
      simp only [List.length_nil] at this
      split
      · split
        · split
          · split
            · split
              · simp only [List.length_cons]; omega
              · simp [zer]
            · simp [zer]
          · simp [zer]
        · simp [zer]
      · simp [zer]
    · simp [zer]
  · simp [zer]
theorem read_len (l : List UInt8) : (readO l).2.2.2.2.1.length ≤ l.length + 1 := by
  unfold readO
  cases hw : splR l with
  | error p => simp [zer]
  | ok ws =>
    have h1 := splR_count hw
    have h2 := ord_len (ws.map (·.2))
    rw [List.length_map] at h2
    simp only
    omega
theorem PaperOrders (a b c d : Int) (os : List Spn) (s : ByteArray) (ha : (Lit.int .i64 a).wf = true) (hb : (Lit.int .i64 b).wf = true) (hc : (Lit.int .i64 c).wf = true) (hd : (Lit.int .i64 d).wf = true) (hn : os.length ≤ 9223372036854775807) (hos : ∀ x ∈ os, (Lit.int .i64 x.f0).wf = true ∧ (Lit.int .i64 x.f1).wf = true) (hs : s.size ≤ 140737488351232) :
    ∃ k, haulierlaw31_PaperOrders.f k a b c d os s = some true := by
  apply Ev.rounds
  unfold haulierlaw31_PaperOrders.f
  have no : Ev (fun k => haulierlaw31_PaperOrders.j0 k s true a b c d os) true := Ev.step (fun k => by simp only [haulierlaw31_PaperOrders.j0]; rw [if_pos trivial]) alive31
  by_cases h1 : (os.length : Int) > 20
  · exact Ev.congr (fun k => by rw [if_pos h1]) no
  · by_cases h2 : (s.size : Int) > 400
    · exact Ev.congr (fun k => by rw [if_neg h1, decide_eq_true h2]) no
    · refine Ev.congr (f := fun k => haulierlaw31_PaperOrders.j0 k s false a b c d os) (fun k => by rw [if_neg h1, decide_eq_false h2]) ?_
      have ia : ∀ {n : Int}, (Lit.int .i64 n).wf = true → i64B n := fun {n} h => bounds_i64 h
      have hos' : ∀ x ∈ os, spanB64 x := fun x hx => ⟨ia (hos x hx).1, ia (hos x hx).2⟩
      refine Ev.step (fun k => by simp only [haulierlaw31_PaperOrders.j0]; rw [if_neg (by decide)]) ?_
      refine Ev.bind (f := fun k bt => _) (ReadO_tells s (by omega)) ?_
      refine Ev.bind (f := fun k bt => _) (refReadO_tells s (by omega)) ?_
      refine Ev.bind (f := fun k bt => _) (Order_tells a b c d os (ia ha) (ia hb) (ia hc) (ia hd) hos' (by omega)) ?_
      refine Ev.bind (f := fun k bt => _) (refOrder_tells a b c d os (ia ha) (ia hb) (ia hc) (ia hd) hos' (by omega)) ?_
      simp only [if_true]
      have hr := read_len s.data.toList
      rw [← Lib.size_eq s] at hr
      refine Ev.bind (f := fun k bt => _) (SameO_tells (readO s.data.toList) (by omega)) ?_
      simp only [if_true]
      exact alive31
end Go.Proofs.YthpgijnlegglmaaDoor.Pure

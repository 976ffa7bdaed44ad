/- What the chapter's example tells; words of depots' texts. No condition. -/
import Derived.Test.YtieenbjncimikaaGreatDoorBPF
import Derived.Test.YtieenbjncimikaaGreatDoorBPG
set_option linter.all false
open Go Go.AM Go.Proofs Go.AM.Pl
set_option maxRecDepth 100000
set_option maxHeartbeats 4000000
namespace ZD
def litA : List UInt8 := [111, 114, 100, 101, 114, 32, 55, 32, 50, 32, 45, 51, 48, 32, 49, 53, 32, 54, 48, 45, 57, 48]
def lgtW (w : List (List Int)) (n : Int) : Bool := decide ((w.length : Int) ≤ n) && w.all fun l => decide ((l.length : Int) ≤ n)
theorem s55 {lo : Nat} {w : List (List Int)} {n : Int} {h : H} (hn : n ≤ 1000) : den cx lo 55 [AM.vs .dead 1 (rowsV w), .i n] h = some (.b (lgtW w n), h) := by
  refine den_pure (fn := Tryz.f55) (by rfl) (by rfl) (by rfl) (by rfl) (by simp [Tryz.f55]) (by simp) ?_
  by_cases h0 : (w.length : Int) ≤ n
  case neg => simp (maxSteps := 2000000) (disch := first | omega | (simp; done) | (simp; omega) | assumption) [Tryz.f55, argsE, isC, h0, lgtW, show n < (w.length : Int) by omega]
  have h0' : ¬ (n < (w.length : Int)) := by omega
  obtain ⟨v, hv⟩ : ∃ v, lgtW w n = v := ⟨_, rfl⟩
  rw [hv]
  simp only [lgtW, h0, decide_true, Bool.true_and] at hv
  simp (maxSteps := 2000000) (disch := first | omega | (simp; done) | (simp; omega) | assumption) [Tryz.f55, argsE, isC, h0']
  obtain ⟨I, hI⟩ : ∃ I : Nat → List Ent → List (Nat × List V) → H → Prop, I = (fun n' vs lb g => ∃ j : Nat, n' + j = w.length ∧ ((w.take j).all (fun l => decide ((l.length : Int) ≤ n)) = true) ∧ vs = [.v (.i (j : Int))] ∧ lb = [] ∧ g = h) := ⟨_, rfl⟩
  refine Wp.loopQ I (n := w.length) (by rw [hI]; exact ⟨0, by simp, rfl, by simp, by simp, by simp⟩) ?_
  intro n' vs lb g hi Q hQ; rw [hI] at hi; obtain ⟨j, hj, ha, rfl, rfl, rfl⟩ := hi
  have go : j < w.length → ((w.take (j + 1)).all (fun l => decide ((l.length : Int) ≤ n)) = true) → I (n' - 1) [.v (.i ((j : Int) + 1))] [] g := fun hlt q => by rw [hI]; exact ⟨j + 1, by omega, q, by simp, by simp, rfl⟩
  clear hI
  by_cases hlt : j < w.length
  · obtain ⟨x, hx⟩ : ∃ x, w[j] = x := ⟨_, rfl⟩
    by_cases q : (x.length : Int) ≤ n
    · have go := go hlt (take_all (p := fun l : List Int => decide ((l.length : Int) ≤ n)) hlt (by rw [hx]; simpa using q) ha)
      clear ha hv
      simp (maxSteps := 2000000) (disch := first | omega | (simp; done) | (simp; omega) | assumption) [hlt, rowsV, hx, rowV, isC, wrap64, show ¬ (n < (x.length : Int)) by omega]
      exact ⟨n' - 1, by omega, go⟩
    · have e : w.all (fun l => decide ((l.length : Int) ≤ n)) = false := List.all_eq_false.2 ⟨_, List.getElem_mem hlt, by rw [hx]; simpa using q⟩
      rw [e] at hv
      subst hv
      clear ha go
      simp (maxSteps := 2000000) (disch := first | omega | (simp; done) | (simp; omega) | assumption) [hlt, rowsV, hx, rowV, isC, wrap64, show n < (x.length : Int) by omega]
      exact hQ _ _ (by simp)
  · rw [List.take_of_length_le (by omega)] at ha
    rw [ha] at hv
    subst hv
    clear go
    have hlt' : ¬ ((j : Int) < w.length) := by omega
    simp (maxSteps := 2000000) (disch := first | omega | (simp; done) | (simp; omega) | assumption) [hlt, hlt']
    refine hQ _ _ ?_
    simp (maxSteps := 2000000) (disch := first | omega | (simp; done) | (simp; omega) | assumption) []
def lgt56 (l : List Ord) : Bool := decide (l.length ≤ 2010) && l.all fun x => decide (x.os.length ≤ 20)
theorem s56 {lo : Nat} {l : List Ord} {h : H} : den cx lo 56 [AM.vs .dead 5 (ordsV l)] h = some (.b (lgt56 l), h) := by
  refine den_pure (fn := Tryz.f56) (by rfl) (by rfl) (by rfl) (by rfl) (by simp [Tryz.f56]) (by simp) ?_
  by_cases h0 : l.length ≤ 2010
  case neg => simp (maxSteps := 2000000) (disch := first | omega | (simp; done) | (simp; omega) | assumption) [Tryz.f56, argsE, isC, h0, lgt56, show (2010 : Int) < (l.length : Int) by omega]
  have h0' : ¬ ((2010 : Int) < (l.length : Int)) := by omega
  obtain ⟨v, hv⟩ : ∃ v, lgt56 l = v := ⟨_, rfl⟩
  rw [hv]
  simp only [lgt56, h0, decide_true, Bool.true_and] at hv
  simp (maxSteps := 2000000) (disch := first | omega | (simp; done) | (simp; omega) | assumption) [Tryz.f56, argsE, isC, h0']
  obtain ⟨I, hI⟩ : ∃ I : Nat → List Ent → List (Nat × List V) → H → Prop, I = (fun n' vs lb g => ∃ j : Nat, n' + j = l.length ∧ ((l.take j).all (fun x => decide (x.os.length ≤ 20)) = true) ∧ vs = [.v (.i (j : Int))] ∧ lb = [] ∧ g = h) := ⟨_, rfl⟩
  refine Wp.loopQ I (n := l.length) (by rw [hI]; exact ⟨0, by simp, rfl, by simp, by simp, by simp⟩) ?_
  intro n' vs lb g hi Q hQ; rw [hI] at hi; obtain ⟨j, hj, ha, rfl, rfl, rfl⟩ := hi
  have go : j < l.length → ((l.take (j + 1)).all (fun x => decide (x.os.length ≤ 20)) = true) → I (n' - 1) [.v (.i ((j : Int) + 1))] [] g := fun hlt q => by rw [hI]; exact ⟨j + 1, by omega, q, by simp, by simp, rfl⟩
  clear hI
  by_cases hlt : j < l.length
  · obtain ⟨x, hx⟩ : ∃ x, l[j] = x := ⟨_, rfl⟩
    by_cases q : x.os.length ≤ 20
    · have go := go hlt (take_all (p := fun x : Ord => decide (x.os.length ≤ 20)) hlt (by rw [hx]; simpa using q) ha)
      have q' : ¬ ((20 : Int) < (x.os.length : Int)) := by omega
      clear ha hv
      obtain ⟨a1, a2, a3, a4, os⟩ := x
      simp only at q'
      simp (maxSteps := 2000000) (disch := first | omega | (simp; done) | (simp; omega) | assumption) [hlt, ordsV, hx, Ord.v, Ord.cs, isC, wrap64, boxV, boxO, fresh_no, List.filter_cons, setB, aggN, op_build, List.set, q']
      exact ⟨n' - 1, by omega, go⟩
    · have e : l.all (fun x => decide (x.os.length ≤ 20)) = false := List.all_eq_false.2 ⟨_, List.getElem_mem hlt, by rw [hx]; simpa using q⟩
      have q' : (20 : Int) < (x.os.length : Int) := by omega
      rw [e] at hv
      subst hv
      clear ha go
      obtain ⟨a1, a2, a3, a4, os⟩ := x
      simp only at q'
      simp (maxSteps := 2000000) (disch := first | omega | (simp; done) | (simp; omega) | assumption) [hlt, ordsV, hx, Ord.v, Ord.cs, isC, wrap64, boxV, boxO, fresh_no, List.filter_cons, setB, aggN, op_build, List.set, q']
      exact hQ _ _ (by simp)
  · rw [List.take_of_length_le (by omega)] at ha
    rw [ha] at hv
    subst hv
    clear go
    have hlt' : ¬ ((j : Int) < l.length) := by omega
    simp (maxSteps := 2000000) (disch := first | omega | (simp; done) | (simp; omega) | assumption) [hlt, hlt']
    refine hQ _ _ ?_
    simp (maxSteps := 2000000) (disch := first | omega | (simp; done) | (simp; omega) | assumption) []
def lgt57 (l : List Trk) : Bool := decide (l.length ≤ 110) && l.all fun x => decide (x.past.length ≤ 60)
theorem s57 {lo : Nat} {l : List Trk} {h : H} : den cx lo 57 [AM.vs .dead 6 (trksV l)] h = some (.b (lgt57 l), h) := by
  refine den_pure (fn := Tryz.f57) (by rfl) (by rfl) (by rfl) (by rfl) (by simp [Tryz.f57]) (by simp) ?_
  by_cases h0 : l.length ≤ 110
  case neg => simp (maxSteps := 2000000) (disch := first | omega | (simp; done) | (simp; omega) | assumption) [Tryz.f57, argsE, isC, h0, lgt57, show (110 : Int) < (l.length : Int) by omega]
  have h0' : ¬ ((110 : Int) < (l.length : Int)) := by omega
  obtain ⟨v, hv⟩ : ∃ v, lgt57 l = v := ⟨_, rfl⟩
  rw [hv]
  simp only [lgt57, h0, decide_true, Bool.true_and] at hv
  simp (maxSteps := 2000000) (disch := first | omega | (simp; done) | (simp; omega) | assumption) [Tryz.f57, argsE, isC, h0']
  obtain ⟨I, hI⟩ : ∃ I : Nat → List Ent → List (Nat × List V) → H → Prop, I = (fun n' vs lb g => ∃ j : Nat, n' + j = l.length ∧ ((l.take j).all (fun x => decide (x.past.length ≤ 60)) = true) ∧ vs = [.v (.i (j : Int))] ∧ lb = [] ∧ g = h) := ⟨_, rfl⟩
  refine Wp.loopQ I (n := l.length) (by rw [hI]; exact ⟨0, by simp, rfl, by simp, by simp, by simp⟩) ?_
  intro n' vs lb g hi Q hQ; rw [hI] at hi; obtain ⟨j, hj, ha, rfl, rfl, rfl⟩ := hi
  have go : j < l.length → ((l.take (j + 1)).all (fun x => decide (x.past.length ≤ 60)) = true) → I (n' - 1) [.v (.i ((j : Int) + 1))] [] g := fun hlt q => by rw [hI]; exact ⟨j + 1, by omega, q, by simp, by simp, rfl⟩
  clear hI
  by_cases hlt : j < l.length
  · obtain ⟨x, hx⟩ : ∃ x, l[j] = x := ⟨_, rfl⟩
    by_cases q : x.past.length ≤ 60
    · have go := go hlt (take_all (p := fun x : Trk => decide (x.past.length ≤ 60)) hlt (by rw [hx]; simpa using q) ha)
      have q' : ¬ ((60 : Int) < (x.past.length : Int)) := by omega
      clear ha hv
      obtain ⟨a1, a2, a3, a4, a5, os⟩ := x
      simp only at q'
      simp (maxSteps := 2000000) (disch := first | omega | (simp; done) | (simp; omega) | assumption) [hlt, trksV, hx, Trk.v, isC, wrap64, boxV, boxO, fresh_no, List.filter_cons, setB, aggN, op_build, List.set, q']
      exact ⟨n' - 1, by omega, go⟩
    · have e : l.all (fun x => decide (x.past.length ≤ 60)) = false := List.all_eq_false.2 ⟨_, List.getElem_mem hlt, by rw [hx]; simpa using q⟩
      have q' : (60 : Int) < (x.past.length : Int) := by omega
      rw [e] at hv
      subst hv
      clear ha go
      obtain ⟨a1, a2, a3, a4, a5, os⟩ := x
      simp only at q'
      simp (maxSteps := 2000000) (disch := first | omega | (simp; done) | (simp; omega) | assumption) [hlt, trksV, hx, Trk.v, isC, wrap64, boxV, boxO, fresh_no, List.filter_cons, setB, aggN, op_build, List.set, q']
      exact hQ _ _ (by simp)
  · rw [List.take_of_length_le (by omega)] at ha
    rw [ha] at hv
    subst hv
    clear go
    have hlt' : ¬ ((j : Int) < l.length) := by omega
    simp (maxSteps := 2000000) (disch := first | omega | (simp; done) | (simp; omega) | assumption) [hlt, hlt']
    refine hQ _ _ ?_
    simp (maxSteps := 2000000) (disch := first | omega | (simp; done) | (simp; omega) | assumption) []
def lgtD (d : Dep) : Bool := lgtW d.ways 40 && lgt56 d.ords && lgt57 d.trks
theorem s20 {lo : Nat} {d : Dep} {h : H} (hb : d.bk.length = 19) : den cx lo 20 [d.v] h = some (.b (lgtD d), h) := by
  have e55 := fun lo => s55 (lo := lo) (w := d.ways) (n := 40) (h := h) (by omega)
  have e56 := fun lo => s56 (lo := lo) (l := d.ords) (h := h)
  have e57 := fun lo => s57 (lo := lo) (l := d.trks) (h := h)
  obtain ⟨D, hDv, n22, n19, t22, t19, fD, d19, d20, d21⟩ := deps hb
  refine den_pure (fn := Tryz.f20) (by rfl) (by rfl) (by rfl) (by rfl) (by simp [Tryz.f20]) (by simp) ?_
  rw [hDv]
  unfold lgtD
  cases q1 : lgtW d.ways 40
  · simp (maxSteps := 2000000) (disch := first | omega | (simp; done) | (simp; omega) | assumption) [Tryz.f20, argsE, isC, boxV, boxO, fresh_no, List.filter_cons, setB, aggN, op_build, List.set, n22, t22, fD, d19, d20, d21, e55, q1]
  cases q2 : lgt56 d.ords
  · simp (maxSteps := 2000000) (disch := first | omega | (simp; done) | (simp; omega) | assumption) [Tryz.f20, argsE, isC, boxV, boxO, fresh_no, List.filter_cons, setB, aggN, op_build, List.set, n22, t22, fD, d19, d20, d21, e55, q1, e56, q2]
  cases q3 : lgt57 d.trks <;> simp (maxSteps := 2000000) (disch := first | omega | (simp; done) | (simp; omega) | assumption) [Tryz.f20, argsE, isC, boxV, boxO, fresh_no, List.filter_cons, setB, aggN, op_build, List.set, n22, t22, fD, d19, d20, d21, e55, q1, e56, q2, e57, q3]
theorem s21 {lo : Nat} {h : H} : den cx lo 21 [] h = some (.b true, h) := by
  have e29 := fun lo => s29 (lo := lo) (l := litA) (h := h) (by decide)
  have e : ordV (readO litA) = .tup [.agg [.i 7, .i 2, .i (-30), .i 15, AM.vs .dead 2 [.agg [.i 60, .i 90]]], .i 0] := by rfl
  rw [e] at e29
  simp only [litA] at e29
  refine den_pure (fn := Tryz.f21) (by rfl) (by rfl) (by rfl) (by rfl) (by simp [Tryz.f21]) (by simp) ?_
  simp (maxSteps := 2000000) (disch := first | omega | (simp; done) | (simp; omega) | assumption) [Tryz.f21, argsE, isC, boxV, boxO, fresh_no, List.filter_cons, setB, aggN, op_build, List.set, e29]
  done
end ZD
open Go Go.AM Go.Proofs Go.AM.Pl
set_option maxRecDepth 100000
set_option maxHeartbeats 4000000
namespace ZD
theorem chunks1 : ∀ l : List Int, chunks 1 l.length (ints l) = ints l := by
  intro l
  have := chunks_flat (w := 1) (ints l) fun v hv => by
    obtain ⟨x, _, rfl⟩ := List.mem_map.1 hv
    exact .inr ⟨rfl, rfl⟩
  have e2 : (ints l).flatMap cellsOf = ints l := by
    clear this
    induction l with
    | nil => rfl
    | cons x t ih =>
      show cellsOf (V.i x) ++ (ints t).flatMap cellsOf = V.i x :: ints t
      rw [ih]; rfl
  rw [e2] at this
  simpa [ints] using this
theorem newO165 {l : List V} : newO cx 165 l = .cells l := rfl
theorem s61 {lo : Nat} {b : List Int} {h : H} (hb : b.length = 19) : den cx lo 61 [bkv b] h = some (AM.vs .dead 1 (ints b), h) := by
  have e115 := fun lo => s115 (lo := lo) (h := h) hb
  have hcl := Cl1_msl (h := h ++ [.cells (ints b)]) (n := h.length) (b := h.length) (k := 19) (w := 1) (cs := ints b) (l := ints b) (Nat.le_refl _) (by simp) (by simp [ints, hb]) (by simp [ints]) (by have := chunks1 b; rwa [hb] at this)
  rw [fgL_ints] at hcl
  have hsl : slicePV cx (h ++ [.cells (ints b)]) 165 h.length 0 = some (.msl h.length 0 19 1) := by
    have hu : cx.P.underlying 165 = some (.array 19 3) := by rfl
    have hz : szOf cx.P 3 = some 1 := by rfl
    unfold slicePV
    rw [hu]
    simp only [hz, cellsAt_push, Option.bind_eq_bind, Option.bind_some]
    rw [if_pos (by simp [ints, hb])]
  have hwr : wr [V.i 0, V.i 0, V.i 0, V.i 0, V.i 0, V.i 0, V.i 0, V.i 0, V.i 0, V.i 0, V.i 0, V.i 0, V.i 0, V.i 0, V.i 0, V.i 0, V.i 0, V.i 0, V.i 0] 0 (ints b) = some (ints b) := by
    obtain ⟨b0, b1, b2, b3, b4, b5, b6, b7, b8, b9, b10, b11, b12, b13, b14, b15, b16, b17, b18, rfl⟩ := len19 hb
    rfl
  have hlb : (ints b).length = 19 := by simp [ints, hb]
  obtain ⟨B, hBv, n19, t19, f19, _⟩ := bks hb
  have hBi : ints b = B := by have : V.agg (ints b) = .agg B := hBv; exact V.agg.inj this
  rw [hBi] at hcl hsl hwr hlb ⊢
  have hgd : ∀ a c : O, (h ++ [a]).set h.length c = h ++ [c] := fun a c => by rw [List.set_append_right _ _ (by simp)]; simp
  refine den_pure (fn := Tryz.f61) (by rfl) (by rfl) (by rfl) (by rfl) (by simp [Tryz.f61]) (by simp) ?_
  rw [hBv] at e115 ⊢
  simp (maxSteps := 2000000) (disch := first | omega | (simp; done) | (simp; omega) | assumption) [Tryz.f61, argsE, isC, boxV, boxO, fresh_no, List.filter_cons, setB, aggN, op_build, List.set, n19, t19, f19, e115, push, hgd, hsl, hcl, sliceW, newO165, hwr, hlb]
/-- An object that is a builder, with its text. -/
def Bl (lo : Nat) (g : H) (p : Nat) (s : List UInt8) : Prop := lo ≤ p ∧ ((g[p]? = some (.bld 104 none) ∧ s = []) ∨ ∃ j, lo ≤ j ∧ j ≠ p ∧ g[p]? = some (.bld 104 (some (j, s.length))) ∧ g[j]? = some (.buf 5 s))
theorem den58 {lo p : Nat} {g : H} {u : List UInt8} {v : V} {s : List (Nat × O)} {n : List O} (hb : ∃ r, g[p]? = some (.bld 104 r)) (hg : pWrite 5 [.ptr p 0, .t u] g = some (v, s, n)) (hs : s.all (fun p => decide (lo ≤ p.1)) = true) : den cx lo 58 [.ptr p 0, .t u] g = some (v, (s.foldl (fun h p => h.set p.1 p.2) g) ++ n) :=
  den_hprim (g := pWriteT 104 5) (by rfl) (by rfl) (by rfl) (by
    obtain ⟨r, hb⟩ := hb
    simp only [pWriteT]; rw [hb]; simp only [if_true]; exact hg) hs
/-- A text is written behind what a builder has. -/
theorem wr {lo p : Nat} {g : H} {s u : List UInt8} (hB : Bl lo g p s) (hs : s.length ≤ 1000000000000) (hu : u.length ≤ 1000000000000) : ∃ g', (∀ lo', lo' ≤ lo → den cx lo' 58 [.ptr p 0, .t u] g = some (.tup [.i u.length, .s .nilIface], g')) ∧ Bl lo g' p (s ++ u) ∧ g.length ≤ g'.length ∧ (∀ i, i < lo → g'[i]? = g[i]?) := by
  obtain ⟨hlp, ⟨h1, rfl⟩ | ⟨j, hlj, hjp, h1, h2⟩⟩ := hB
  · have hpl : p < g.length := (List.getElem?_eq_some_iff.1 h1).1
    cases u with
    | nil =>
      refine ⟨g, fun lo' h' => ?_, ⟨hlp, .inl ⟨h1, rfl⟩⟩, Nat.le_refl _, fun _ _ => rfl⟩
      have e : pWrite 5 [.ptr p 0, .t []] g = some (.tup [.i 0, .s .nilIface], [], []) := by
        simp only [pWrite, V.t]; rw [h1]; rfl
      have := den58 (lo := lo') ⟨_, h1⟩ e (by simp)
      simpa using this
    | cons c r =>
      refine ⟨g.set p (.bld 104 (some (g.length, (c :: r).length))) ++ [.buf 5 (c :: r)], fun lo' h' => ?_, ⟨hlp, .inr ⟨g.length, by omega, by omega, ?_, ?_⟩⟩, by simp, ?_⟩
      · have e : pWrite 5 [.ptr p 0, .t (c :: r)] g = some (.tup [.i (c :: r).length, .s .nilIface], [(p, .bld 104 (some (g.length, (c :: r).length)))], [.buf 5 (c :: r)]) := by
          have hsz : (bs (c :: r)).size = (c :: r).length := bs_size
          simp only [pWrite, V.t]; rw [h1, if_pos (by rw [hsz]; exact hu)]
          simp only [hsz]; rw [if_neg (by simp)]
          rfl
        exact den58 (lo := lo') ⟨_, h1⟩ e (by simp; omega)
      · rw [List.getElem?_append_left (by simpa using hpl), List.getElem?_set_self hpl]; rfl
      · rw [List.getElem?_append_right (by simp)]; simp
      · intro i hi
        rw [List.getElem?_append_left (by simp; omega), List.getElem?_set_ne (by omega)]
  · have hpl : p < g.length := (List.getElem?_eq_some_iff.1 h1).1
    have hjl : j < g.length := (List.getElem?_eq_some_iff.1 h2).1
    cases u with
    | nil =>
      refine ⟨g, fun lo' h' => ?_, ⟨hlp, .inr ⟨j, hlj, hjp, by simpa using h1, by simpa using h2⟩⟩, Nat.le_refl _, fun _ _ => rfl⟩
      have e : pWrite 5 [.ptr p 0, .t []] g = some (.tup [.i 0, .s .nilIface], [], []) := by
        simp only [pWrite, V.t]; rw [h1]; simp only; rw [h2]; simp only; rw [if_pos (by simp), if_pos (by simp [hs]), if_pos (by simp)]; rfl
      have := den58 (lo := lo') ⟨_, h1⟩ e (by simp)
      simpa using this
    | cons c r =>
      refine ⟨((g.set j .dead).set p (.bld 104 (some (g.length, s.length + (c :: r).length)))) ++ [.buf 5 (s ++ (c :: r))], fun lo' h' => ?_, ⟨hlp, .inr ⟨g.length, by omega, by omega, ?_, ?_⟩⟩, by simp, ?_⟩
      · have e : pWrite 5 [.ptr p 0, .t (c :: r)] g = some (.tup [.i (c :: r).length, .s .nilIface], [(j, .dead), (p, .bld 104 (some (g.length, s.length + (c :: r).length)))], [.buf 5 (s ++ (c :: r))]) := by
          have hsz : (bs (c :: r)).size = (c :: r).length := bs_size
          simp only [pWrite, V.t]; rw [h1, if_pos (by rw [hsz]; exact hu)]
          simp only; rw [h2]; simp only; rw [if_pos ⟨hs, trivial, trivial⟩]
          simp only [hsz]; rw [if_neg (by simp)]
          rfl
        exact den58 (lo := lo') ⟨_, h1⟩ e (by simp; omega)
      · rw [List.getElem?_append_left (by simpa using hpl), List.getElem?_set_self (by simpa using hpl)]; simp
      · rw [List.getElem?_append_right (by simp)]; simp
      · intro i hi
        rw [List.getElem?_append_left (by simp; omega), List.getElem?_set_ne (by omega), List.getElem?_set_ne (by omega)]
theorem rd63 {lo p : Nat} {g : H} {s : List UInt8} (hB : Bl lo g p s) (hs : s.length ≤ 1000000000000000) : ∀ lo', den cx lo' 63 [.ptr p 0] g = some (.t s, g) := by
  intro lo'
  obtain ⟨hlp, ⟨h1, rfl⟩ | ⟨j, hlj, hjp, h1, h2⟩⟩ := hB
  · have e : pStringT 104 5 [.ptr p 0] g = some (.t [], [], []) := by simp only [pStringT]; rw [h1]; simp only [if_true]
    have := den_hprim (c := cx) (lo := lo') (f := 63) (by rfl) (by rfl) (by rfl) e (by simp)
    simpa using this
  · have e : pStringT 104 5 [.ptr p 0] g = some (.t s, [], []) := by simp only [pStringT]; rw [h1]; simp only; rw [h2]; simp only; rw [if_pos ⟨trivial, trivial, trivial, hs⟩]
    have := den_hprim (c := cx) (lo := lo') (f := 63) (by rfl) (by rfl) (by rfl) e (by simp)
    simpa using this
end ZD
open Go Go.AM Go.Proofs Go.AM.Pl
set_option maxRecDepth 100000
set_option maxHeartbeats 4000000
namespace ZD
theorem den_openE {c : Cx} {f lo : Nat} {fn : Func} {code : Code} {args : List V} {h : H} {v : V} {P : H → Prop} (hp : c.prim f = none) (hu : c.pur f = false) (hf : c.P.funcs[f]? = some fn) (hb : fn.body = some code) (hl : args.length ≤ fn.ntmps)
    (hw : Wp c f lo 0 code { env := argsE args, lb := [], h := h } fun x s => (x = .normal ∨ x = .ret) ∧ resultsV c s fn.results.toList = some v ∧ P s.h) (hq : c.hprim f = none := by rfl) (hz : c.frz f = false := by rfl) : ∃ h', den c lo f args h = some (v, h') ∧ P h' := by
  obtain ⟨x, s, h1, hx, h2, h3⟩ := hw
  exact ⟨s.h, den_open hp hu hf hb hl ⟨x, s, h1, hx, h2, rfl⟩ hq hz, h3⟩
@[simp] theorem sh58 : shuts cx 58 = false := by rfl
@[simp] theorem sh63 : shuts cx 63 = false := by rfl
@[simp] theorem sh62 : shuts cx 62 = false := by rfl
def truckW : List UInt8 := [116, 114, 117, 99, 107]
def pastW : List UInt8 := [112, 97, 115, 116]
def bookW : List UInt8 := [98, 111, 111, 107]
def placesW : List UInt8 := [112, 108, 97, 99, 101, 115]
def rowW : List UInt8 := [114, 111, 119]
def rowT (w : List UInt8) (l : List Int) : List UInt8 := numbersL w l ++ [10]
def pastL (r : Rec) : List UInt8 := jn [pastW, [letR r.k], toldL r.f r.t] ++ [10]
def trkL (t : Trk) : List UInt8 := rowT truckW [t.id, t.home, t.room, t.fixed, t.rate] ++ t.past.flatMap pastL
/-- A truck that can be told. -/
def Trk.ok (t : Trk) : Prop := (i64B t.id ∧ i64B t.home ∧ i64B t.room ∧ i64B t.fixed ∧ i64B t.rate) ∧ (∀ r ∈ t.past, kOk r.k = true ∧ i64B r.f ∧ i64B r.t) ∧ t.past.length ≤ 4000
theorem num_small {w : List UInt8} {l : List Int} (hw : w.length ≤ 100) (hi : ∀ n ∈ l, i64B n) (hl : l.length ≤ 1000) : (numbersL w l).length ≤ 200000 := by
  unfold numbersL
  have := jn_len 100 (w :: l.map Lib.itoa) fun x hx => by
    rcases List.mem_cons.1 hx with rfl | hx
    · exact hw
    · obtain ⟨n, hn, rfl⟩ := List.mem_map.1 hx
      exact itoa_len' (hi n hn)
  simp at this; omega
theorem past_small {r : Rec} (hf : i64B r.f) (ht : i64B r.t) : (pastL r).length ≤ 1000 := by
  have h1 := told_len' r.f r.t hf ht
  have := jn_len 100 [pastW, [letR r.k], toldL r.f r.t] fun x hx => by
    simp at hx; rcases hx with rfl | rfl | rfl <;> first | (simp [pastW]; done) | omega
  unfold pastL; simp at this ⊢; omega
theorem flat_small {α : Type} {f : α → List UInt8} {n : Nat} : ∀ (l : List α), (∀ x ∈ l, (f x).length ≤ n) → (l.flatMap f).length ≤ l.length * n
  | [], _ => by simp
  | x :: t, h => by
    have h1 := h x (by simp)
    have h2 := flat_small t fun y hy => h y (by simp [hy])
    simp only [List.flatMap_cons, List.length_append, List.length_cons]
    rw [Nat.succ_mul]; omega
theorem s62 {lo p : Nat} {g : H} {s : List UInt8} {t : Trk} (ht : t.ok) (hB : Bl lo g p s) (hs : s.length ≤ 100000000000) : ∃ g', den cx lo 62 [.ptr p 0, t.v] g = some (.tup [], g') ∧ (Bl lo g' p (s ++ trkL t) ∧ g.length ≤ g'.length ∧ (∀ i, i < lo → g'[i]? = g[i]?)) := by
  obtain ⟨a1, a2, a3, a4, a5, rs⟩ := t
  obtain ⟨⟨i1, i2, i3, i4, i5⟩, hr, hn⟩ := ht
  simp only at *
  have hi : ∀ n ∈ [a1, a2, a3, a4, a5], i64B n := by simp; exact ⟨i1, i2, i3, i4, i5⟩
  have hns := num_small (w := truckW) (by simp [truckW]) hi (by simp)
  have e60 := fun g lo => s60 (lo := lo) (w := truckW) (l := [a1, a2, a3, a4, a5]) (h := g) hi (by simp) (by omega)
  simp only [ints, List.map_cons, List.map_nil, truckW] at e60
  obtain ⟨g1, e1, b1, l1, k1⟩ := wr (u := numbersL truckW [a1, a2, a3, a4, a5] ++ [10]) hB (by omega) (by simp; omega)
  have htl : trkL ⟨a1, a2, a3, a4, a5, rs⟩ = (numbersL truckW [a1, a2, a3, a4, a5] ++ [10]) ++ rs.flatMap pastL := rfl
  rw [htl, ← List.append_assoc]
  have hs1 : (s ++ (numbersL truckW [a1, a2, a3, a4, a5] ++ [10])).length ≤ 100000300000 := by simp; omega
  obtain ⟨s1, hs1'⟩ : ∃ s1, s ++ (numbersL truckW [a1, a2, a3, a4, a5] ++ [10]) = s1 := ⟨_, rfl⟩
  rw [hs1'] at b1 hs1 ⊢
  clear hs1'
  obtain ⟨P, hP⟩ : ∃ P : H → Prop, P = fun g' => Bl lo g' p (s1 ++ rs.flatMap pastL) ∧ g.length ≤ g'.length ∧ (∀ i, i < lo → g'[i]? = g[i]?) := ⟨_, rfl⟩
  have hPi : ∀ g', Bl lo g' p (s1 ++ rs.flatMap pastL) → g1.length ≤ g'.length → (∀ i, i < lo → g'[i]? = g1[i]?) → P g' := by
    intro g' x y z; rw [hP]; exact ⟨x, by omega, fun i hi => by rw [z i hi, k1 i hi]⟩
  suffices hh : ∃ g', den cx lo 62 [.ptr p 0, Trk.v ⟨a1, a2, a3, a4, a5, rs⟩] g = some (.tup [], g') ∧ P g' by rw [hP] at hh; exact hh
  clear hP
  refine den_openE (fn := Tryz.f62) (by rfl) (by rfl) (by rfl) (by rfl) (by simp [Tryz.f62]) ?_
  have hnl : (numbersL truckW [a1, a2, a3, a4, a5] ++ [10]).length ≤ 300000 := by simp; omega
  simp only [truckW] at e1 hns
  have had : (numbersL [116, 114, 117, 99, 107] [a1, a2, a3, a4, a5]).length + 1 ≤ 300000 := by omega
  simp (maxSteps := 2000000) (disch := first | omega | (simp; done) | (simp; omega) | assumption) [Tryz.f62, argsE, isC, Trk.v, boxV, boxO, fresh_no, List.filter_cons, setB, aggN, op_build, List.set, elemsV, e60, add_str, e1, sh58]
  obtain ⟨I, hI⟩ : ∃ I : Nat → List Ent → List (Nat × List V) → H → Prop, I = (fun n vs lb g' => ∃ j : Nat, n + j = rs.length ∧ Bl lo g' p (s1 ++ (rs.take j).flatMap pastL) ∧ g1.length ≤ g'.length ∧ (∀ i, i < lo → g'[i]? = g1[i]?) ∧ vs = [.v (.i j)] ∧ lb = [(3, [.i a1, .i a2, .i a3, .i a4, .i a5, AM.vs .dead 3 (recs rs)])]) := ⟨_, rfl⟩
  refine Wp.loopQ I (n := rs.length) (by rw [hI]; exact ⟨0, by simp, by simpa using b1, by simp, by simp, by simp, by simp⟩) ?_
  intro n vs lb g2 hi Q hQ; rw [hI] at hi; obtain ⟨j, hj, hb2, hl2, hk2, rfl, rfl⟩ := hi
  by_cases hlt : j < rs.length
  · have hrx := hr _ (List.getElem_mem hlt)
    have go : ∀ g', Bl lo g' p (s1 ++ (rs.take j).flatMap pastL ++ pastL rs[j]) → g2.length ≤ g'.length → (∀ i, i < lo → g'[i]? = g2[i]?) → I (n - 1) [.v (.i ((j : Int) + 1))] [(3, [.i a1, .i a2, .i a3, .i a4, .i a5, AM.vs .dead 3 (recs rs)])] g' := by
      intro g' x y z; rw [hI]
      refine ⟨j + 1, by omega, ?_, by omega, fun i hi => by rw [z i hi, hk2 i hi], by simp, rfl⟩
      rw [List.take_succ_eq_append_getElem hlt, List.flatMap_append]
      simpa using x
    clear hI
    have hsz : (s1 ++ (rs.take j).flatMap pastL).length ≤ 200000000000 := by
      have := flat_small (f := pastL) (n := 1000) (rs.take j) fun x hx => past_small (hr x (List.mem_of_mem_take hx)).2.1 (hr x (List.mem_of_mem_take hx)).2.2
      simp only [List.length_append]
      have : (rs.take j).length ≤ 4000 := by simp; omega
      omega
    obtain ⟨x, hx⟩ : ∃ x, rs[j] = x := ⟨_, rfl⟩
    rw [hx] at go hrx
    obtain ⟨x1, x2, x3⟩ := x
    obtain ⟨q1, q2, q3⟩ := hrx
    simp only at q1 q2 q3
    have hps := past_small (r := ⟨x1, x2, x3⟩) q2 q3
    have e92 := fun lo g => s92 (lo := lo) (s := ⟨x2, x3⟩) (h := g) q2 q3
    simp only [Spn.v] at e92
    obtain ⟨g3, e3, b3, l3, k3⟩ := wr (u := pastL ⟨x1, x2, x3⟩) hb2 (by omega) (by omega)
    have go := go g3 b3 l3 k3
    have hjl : (jn [pastW, [letR x1], toldL x2 x3]).length ≤ 140737488355328 := by unfold pastL at hps; simp at hps; omega
    have e59 := fun lo g => s59 (lo := lo) (l := [pastW, [letR x1], toldL x2 x3]) (h := g) (by simp) hjl
    simp only [strs, List.map_cons, List.map_nil] at e59
    have lb : UInt8.ofNat ((letR x1).toNat : Int).toNat = letR x1 := by simp
    simp only [pastL] at e3
    simp only [pastW] at e59 e3
    have hj2 : (jn [[112, 97, 115, 116], [letR x1], toldL x2 x3]).length + 1 ≤ 300000 := by unfold pastL at hps; simp [pastW] at hps; omega
    clear hps hjl b3 l3 k3 hQ
    simp (maxSteps := 2000000) (disch := first | omega | (simp; done) | (simp; omega) | assumption) [isC, hlt, recs, hx, Rec.v, boxV, boxO, fresh_no, List.filter_cons, setB, aggN, op_build, List.set, elemsV, wrap64, s116, q1, e92, e59, add_str, e3, sh58, foot, Op.operands, opTmps]
    exact ⟨indep_of bf62_6 (by rfl), n - 1, by omega, go⟩
  · rw [List.take_of_length_le (by omega)] at hb2
    have hf := hPi g2 hb2 hl2 hk2
    clear hI
    have hlt' : ¬ ((j : Int) < rs.length) := by omega
    simp (maxSteps := 2000000) (disch := first | omega | (simp; done) | (simp; omega) | assumption) [hlt, hlt']
    refine hQ _ _ ?_
    simp (maxSteps := 2000000) (disch := first | omega | (simp; done) | (simp; omega) | assumption) [hf]
end ZD
open Go Go.AM Go.Proofs Go.AM.Pl
set_option maxRecDepth 100000
set_option maxHeartbeats 4000000
namespace ZD
def hlW : List UInt8 := [104, 97, 117, 108, 105, 101, 114]
def headT : List UInt8 := jn [hlW, [49]] ++ [10]
def endT : List UInt8 := [101, 110, 100, 10]
def ordLn (o : Ord) : List UInt8 := o.l ++ [10]
def depT0 (d : Dep) : List UInt8 := headT ++ rowT bookW d.bk ++ rowT placesW [(d.ways.length : Int)]
/-- A depot's text. -/
def depT (d : Dep) : List UInt8 := depT0 d ++ d.ways.flatMap (rowT rowW) ++ d.ords.flatMap ordLn ++ d.trks.flatMap trkL ++ endT
def prtD (d : Dep) : List UInt8 × Int := if (depC d).2.2 = 0 then (depT d, 0) else ([], (depC d).2.2)
/-- A depot that can be told. -/
def Dep.tell (d : Dep) : Prop := (∀ n ∈ d.bk, i64B n) ∧ (∀ l ∈ d.ways, (∀ n ∈ l, i64B n) ∧ l.length ≤ 200) ∧ d.ways.length ≤ 200 ∧ (∀ o ∈ d.ords, o.wf ∧ o.os.length ≤ 20) ∧ d.ords.length ≤ 2010 ∧ (∀ t ∈ d.trks, t.ok) ∧ d.trks.length ≤ 110
theorem ord_small {o : Ord} (h : o.wf) (hn : o.os.length ≤ 20) : (ordLn o).length ≤ 5000 := by
  obtain ⟨a, b, c, d, os⟩ := o
  obtain ⟨ha, hb, hc, hd, hs, _⟩ := h
  simp only at *
  have la := itoa_len' ha
  have lb := itoa_len' hb
  have lc := itoa_len' hc
  have ld := itoa_len' hd
  have := jn_len 100 (ordW :: Lib.itoa a :: Lib.itoa b :: Lib.itoa c :: Lib.itoa d :: os.map toldS) fun x hx => by
    simp at hx
    rcases hx with rfl | rfl | rfl | rfl | rfl | ⟨s, hs', rfl⟩ <;> first | assumption | decide | exact told_le (hs s hs')
  unfold ordLn Ord.l orderL
  simp at this ⊢; omega
theorem trk_small {t : Trk} (h : t.ok) : (trkL t).length ≤ 5000000 := by
  obtain ⟨⟨i1, i2, i3, i4, i5⟩, hr, hn⟩ := h
  have h1 := num_small (w := truckW) (l := [t.id, t.home, t.room, t.fixed, t.rate]) (by simp [truckW]) (by simp; exact ⟨i1, i2, i3, i4, i5⟩) (by simp)
  have h2 := flat_small (f := pastL) (n := 1000) t.past fun x hx => past_small (hr x hx).2.1 (hr x hx).2.2
  unfold trkL rowT
  simp only [List.length_append, List.length_cons, List.length_nil]
  omega
theorem newO104 : newO cx 104 [.s (.pointer none), AM.vs .nil 0 []] = .bld 104 none := rfl
theorem s22 {lo : Nat} {d : Dep} {h : H} (hs : d.sm) (hd : (depC d).2.2 = 0 → d.tell) : den cx lo 22 [d.v] h = some (.tup [.t (prtD d).1, .i (prtD d).2], h) := by
  have e27 := fun lo => s27 (lo := lo) (h := h) hs
  have hb := hs.1
  obtain ⟨D, hDv, n22, n19, t22, t19, fD, d19, d20, d21⟩ := deps hb
  obtain ⟨B, hBv, _, _, f19, _⟩ := bks hb
  rw [hBv] at t19
  have t19' : D.take 19 = B := V.agg.inj t19
  unfold prtD
  obtain ⟨C, hC⟩ : ∃ C, depC d = C := ⟨_, rfl⟩
  rw [hC] at e27 hd ⊢
  unfold tup3 at e27
  refine den_pure (fn := Tryz.f22) (by rfl) (by rfl) (by rfl) (by rfl) (by simp [Tryz.f22]) (by simp) ?_
  rw [hDv] at e27 ⊢
  by_cases q : C.2.2 = 0
  case neg =>
    rw [if_neg q]
    simp (maxSteps := 2000000) (disch := first | omega | (simp; done) | (simp; omega) | assumption) [Tryz.f22, argsE, isC, boxV, boxO, fresh_no, List.filter_cons, setB, aggN, op_build, List.set, n22, t22, fD, e27, q, Cl1_tup, Cl1_agg, Cl1_vs]
  rw [if_pos q]
  have hd := hd q
  obtain ⟨hbk, hw, hwn, ho, hon, ht, htn⟩ := hd
  have e61 := fun lo g => s61 (lo := lo) (h := g) hb
  rw [hBv] at e61
  have hnb := num_small (w := bookW) (by simp [bookW]) hbk (by omega)
  have hip : ∀ n ∈ [(d.ways.length : Int)], i64B n := by simp; unfold i64B; omega
  have hnp := num_small (w := placesW) (by simp [placesW]) hip (by simp)
  have e60b := fun lo g => s60 (lo := lo) (w := bookW) (l := d.bk) (h := g) hbk (by omega) (by omega)
  have e60p := fun lo g => s60 (lo := lo) (w := placesW) (l := [(d.ways.length : Int)]) (h := g) hip (by simp) (by omega)
  have hhd : (jn [hlW, [49]]).length = 9 := by decide
  have e59 := fun lo g => s59 (lo := lo) (l := [hlW, [49]]) (h := g) (by simp) (by omega)
  have b0 : Bl h.length (h ++ [.bld 104 none]) h.length [] := ⟨Nat.le_refl _, .inl ⟨by simp, rfl⟩⟩
  obtain ⟨g1, e1, b1, l1, _⟩ := wr (u := jn [hlW, [49]] ++ [10]) b0 (by simp) (by simp; omega)
  obtain ⟨g2, e2, b2, l2, _⟩ := wr (u := numbersL bookW d.bk ++ [10]) b1 (by simp; omega) (by simp; omega)
  obtain ⟨g3, e3, b3, l3, _⟩ := wr (u := numbersL placesW [(d.ways.length : Int)] ++ [10]) b2 (by simp; omega) (by simp; omega)
  have hT0 : [] ++ (jn [hlW, [49]] ++ [10]) ++ (numbersL bookW d.bk ++ [10]) ++ (numbersL placesW [(d.ways.length : Int)] ++ [10]) = depT0 d := rfl
  have hT0l : (depT0 d).length ≤ 1000000 := by rw [← hT0]; simp; omega
  rw [hT0] at b3
  simp only [strs, List.map_cons, List.map_nil, hlW, ints] at e59 e60p
  simp only [hlW] at e1 hhd
  simp only [bookW] at e60b e2 hnb
  simp only [placesW] at e60p e3 hnp
  have s10 : (jn [[104, 97, 117, 108, 105, 101, 114], [49]]).length + 1 ≤ 300000 := by omega
  have hl0 : h.length ≤ g3.length := by simp at l1; omega
  simp only [depT]
  obtain ⟨T0, hT0'⟩ : ∃ T0, depT0 d = T0 := ⟨_, rfl⟩
  rw [hT0'] at b3 hT0l ⊢
  clear hT0 hT0' b0 b1 b2 l1 l2 l3 hC hd hs
  obtain ⟨bk, w, os, l⟩ := d
  simp only at *
  obtain ⟨TT, hTT⟩ : ∃ TT, T0 ++ w.flatMap (rowT rowW) ++ os.flatMap ordLn ++ l.flatMap trkL ++ endT = TT := ⟨_, rfl⟩
  rw [hTT]
  simp (maxSteps := 2000000) (disch := first | omega | (simp; done) | (simp; omega) | assumption) [Tryz.f22, argsE, isC, boxV, boxO, fresh_no, List.filter_cons, setB, aggN, op_build, List.set, n22, n19, t22, t19', fD, f19, d19, d20, d21, e27, q, e59, e61, e60b, e60p, e1, e2, e3, add_str, elemsV, push, newO104]
  obtain ⟨I, hI⟩ : ∃ I : Nat → List Ent → List (Nat × List V) → H → Prop, I = (fun n vs lb g' => ∃ j : Nat, n + j = w.length ∧ Bl h.length g' h.length (T0 ++ (w.take j).flatMap (rowT rowW)) ∧ h.length ≤ g'.length ∧ vs = [.v (.i j)] ∧ lb = [(1, D)]) := ⟨_, rfl⟩
  refine Wp.loopQ I (n := w.length) (by rw [hI]; exact ⟨0, by simp, by simpa using b3, hl0, by simp, by simp⟩) ?_
  clear e59 e61 e60b e60p e1 e2 e3 b3 hl0
  intro n vs lb g4 hi Q hQ; rw [hI] at hi; obtain ⟨j, hj, hb4, hl4, rfl, rfl⟩ := hi
  by_cases hlt : j < w.length
  · have hwx := hw _ (List.getElem_mem hlt)
    have go : ∀ g', Bl h.length g' h.length (T0 ++ (w.take j).flatMap (rowT rowW) ++ rowT rowW w[j]) → g4.length ≤ g'.length → I (n - 1) [.v (.i ((j : Int) + 1))] [(1, D)] g' := by
      intro g' x y; rw [hI]
      refine ⟨j + 1, by omega, ?_, by omega, by simp, rfl⟩
      rw [List.take_succ_eq_append_getElem hlt, List.flatMap_append]
      simpa using x
    clear hI hQ
    have hsz : (T0 ++ (w.take j).flatMap (rowT rowW)).length ≤ 100000000 := by
      have := flat_small (f := rowT rowW) (n := 300000) (w.take j) fun x hx => by
        have h1 := hw x (List.mem_of_mem_take hx)
        have := num_small (w := rowW) (by simp [rowW]) h1.1 (by omega)
        unfold rowT; simp; omega
      simp only [List.length_append]
      have : (w.take j).length ≤ 200 := by simp; omega
      omega
    obtain ⟨x, hx⟩ : ∃ x, w[j] = x := ⟨_, rfl⟩
    rw [hx] at go hwx
    have hns := num_small (w := rowW) (by simp [rowW]) hwx.1 (by omega)
    obtain ⟨g5, e5, b5, l5, _⟩ := wr (u := rowT rowW x) hb4 (by omega) (by unfold rowT; simp; omega)
    have go := go g5 b5 l5
    have e60 := fun lo g => s60 (lo := lo) (w := rowW) (l := x) (h := g) hwx.1 (by omega) (by omega)
    simp only [rowT] at e5
    simp only [rowW] at e60 e5 hns
    have hj2 : (numbersL [114, 111, 119] x).length + 1 ≤ 300000 := by omega
    simp (maxSteps := 2000000) (disch := first | omega | (simp; done) | (simp; omega) | assumption) [isC, hlt, rowsV, hx, rowV, boxV, boxO, fresh_no, List.filter_cons, setB, aggN, op_build, List.set, wrap64, e60, add_str, e5]
    exact ⟨n - 1, by omega, go⟩
  rw [List.take_of_length_le (by omega)] at hb4
  clear hI
  have hlt' : ¬ ((j : Int) < w.length) := by omega
  have hT1l : (T0 ++ w.flatMap (rowT rowW)).length ≤ 100000000 := by
    have := flat_small (f := rowT rowW) (n := 300000) w fun x hx => by
      have h1 := hw x hx
      have := num_small (w := rowW) (by simp [rowW]) h1.1 (by omega)
      unfold rowT; simp; omega
    simp only [List.length_append]
    omega
  obtain ⟨T1, hT1⟩ : ∃ T1, T0 ++ w.flatMap (rowT rowW) = T1 := ⟨_, rfl⟩
  rw [hT1] at hb4 hT1l hTT
  clear hT1 hT0l hw
  simp (maxSteps := 2000000) (disch := first | omega | (simp; done) | (simp; omega) | assumption) [hlt, hlt']
  refine hQ _ _ ?_
  clear hQ
  simp (maxSteps := 2000000) (disch := first | omega | (simp; done) | (simp; omega) | assumption) [boxV, boxO, fresh_no, List.filter_cons, setB, aggN, op_build, List.set, n22, d20]
  clear hlt hlt' hj
  obtain ⟨I, hI⟩ : ∃ I : Nat → List Ent → List (Nat × List V) → H → Prop, I = (fun n vs lb g' => ∃ j : Nat, n + j = os.length ∧ Bl h.length g' h.length (T1 ++ (os.take j).flatMap ordLn) ∧ h.length ≤ g'.length ∧ vs = [.v (.i j)] ∧ lb = [(1, D)]) := ⟨_, rfl⟩
  refine Wp.loopQ I (n := os.length) (by rw [hI]; exact ⟨0, by simp, by simpa using hb4, hl4, by simp, by simp⟩) ?_
  clear hb4 hl4
  intro n vs lb g5 hi Q hQ; rw [hI] at hi; obtain ⟨j, hj, hb5, hl5, rfl, rfl⟩ := hi
  by_cases hlt : j < os.length
  · have hox := ho _ (List.getElem_mem hlt)
    have go : ∀ g', Bl h.length g' h.length (T1 ++ (os.take j).flatMap ordLn ++ ordLn os[j]) → g5.length ≤ g'.length → I (n - 1) [.v (.i ((j : Int) + 1))] [(1, D)] g' := by
      intro g' x y; rw [hI]
      refine ⟨j + 1, by omega, ?_, by omega, by simp, rfl⟩
      rw [List.take_succ_eq_append_getElem hlt, List.flatMap_append]
      simpa using x
    clear hI hQ
    have hsz : (T1 ++ (os.take j).flatMap ordLn).length ≤ 200000000 := by
      have := flat_small (f := ordLn) (n := 5000) (os.take j) fun x hx => ord_small (ho x (List.mem_of_mem_take hx)).1 (ho x (List.mem_of_mem_take hx)).2
      simp only [List.length_append]
      have : (os.take j).length ≤ 2010 := by simp; omega
      omega
    obtain ⟨x, hx⟩ : ∃ x, os[j] = x := ⟨_, rfl⟩
    rw [hx] at go hox
    have hns := ord_small hox.1 hox.2
    obtain ⟨g6, e6, b6, l6, _⟩ := wr (u := ordLn x) hb5 (by omega) (by omega)
    have go2 := go g6 b6 l6
    have e30 := fun lo g => s30 (lo := lo) (o := x) (h := g) hox.1
    simp only [ordLn] at e6 hns
    have hj2 : x.l.length + 1 ≤ 300000 := by simp at hns; omega
    obtain ⟨L, hL⟩ : ∃ L, x.l = L := ⟨_, rfl⟩
    simp only [hL] at e30 e6 hj2
    clear hL hns b6 l6 hsz
    obtain ⟨x1, x2, x3, x4, x5⟩ := x
    simp only [Ord.v, Ord.cs] at e30
    simp (maxSteps := 2000000) (disch := first | omega | (simp; done) | (simp; omega) | assumption) [isC, hlt, ordsV, hx, Ord.v, Ord.cs, boxV, boxO, fresh_no, List.filter_cons, setB, aggN, op_build, List.set, wrap64, e30, add_str, e6]
    exact ⟨n - 1, by omega, go2⟩
  rw [List.take_of_length_le (by omega)] at hb5
  clear hI
  have hlt' : ¬ ((j : Int) < os.length) := by omega
  have hT2l : (T1 ++ os.flatMap ordLn).length ≤ 200000000 := by
    have := flat_small (f := ordLn) (n := 5000) os fun x hx => ord_small (ho x hx).1 (ho x hx).2
    simp only [List.length_append]
    omega
  obtain ⟨T2, hT2⟩ : ∃ T2, T1 ++ os.flatMap ordLn = T2 := ⟨_, rfl⟩
  rw [hT2] at hb5 hT2l hTT
  clear hT2 hT1l ho
  simp (maxSteps := 2000000) (disch := first | omega | (simp; done) | (simp; omega) | assumption) [hlt, hlt']
  refine hQ _ _ ?_
  clear hQ
  simp (maxSteps := 2000000) (disch := first | omega | (simp; done) | (simp; omega) | assumption) [boxV, boxO, fresh_no, List.filter_cons, setB, aggN, op_build, List.set, n22, d21]
  clear hlt hlt' hj
  obtain ⟨I, hI⟩ : ∃ I : Nat → List Ent → List (Nat × List V) → H → Prop, I = (fun n vs lb g' => ∃ j : Nat, n + j = l.length ∧ Bl h.length g' h.length (T2 ++ (l.take j).flatMap trkL) ∧ h.length ≤ g'.length ∧ vs = [.v (.i j)] ∧ lb = [(1, D)]) := ⟨_, rfl⟩
  refine Wp.loopQ I (n := l.length) (by rw [hI]; exact ⟨0, by simp, by simpa using hb5, hl5, by simp, by simp⟩) ?_
  clear hb5 hl5
  intro n vs lb g6 hi Q hQ; rw [hI] at hi; obtain ⟨j, hj, hb6, hl6, rfl, rfl⟩ := hi
  by_cases hlt : j < l.length
  · have htx := ht _ (List.getElem_mem hlt)
    have go : ∀ g', Bl h.length g' h.length (T2 ++ (l.take j).flatMap trkL ++ trkL l[j]) → g6.length ≤ g'.length → I (n - 1) [.v (.i ((j : Int) + 1))] [(1, D)] g' := by
      intro g' x y; rw [hI]
      refine ⟨j + 1, by omega, ?_, by omega, by simp, rfl⟩
      rw [List.take_succ_eq_append_getElem hlt, List.flatMap_append]
      simpa using x
    clear hI hQ
    have hsz : (T2 ++ (l.take j).flatMap trkL).length ≤ 1000000000 := by
      have := flat_small (f := trkL) (n := 5000000) (l.take j) fun x hx => trk_small (ht x (List.mem_of_mem_take hx))
      simp only [List.length_append]
      have : (l.take j).length ≤ 110 := by simp; omega
      omega
    obtain ⟨x, hx⟩ : ∃ x, l[j] = x := ⟨_, rfl⟩
    rw [hx] at go htx
    obtain ⟨g7, e7, b7, l7, _⟩ := s62 htx hb6 (by omega)
    have go2 := go g7 b7 l7
    clear b7 l7 hsz
    obtain ⟨x1, x2, x3, x4, x5, x6⟩ := x
    simp only [Trk.v] at e7
    simp (maxSteps := 2000000) (disch := first | omega | (simp; done) | (simp; omega) | assumption) [isC, hlt, trksV, hx, Trk.v, boxV, boxO, fresh_no, List.filter_cons, setB, aggN, op_build, List.set, wrap64, e7]
    exact ⟨n - 1, by omega, go2⟩
  rw [List.take_of_length_le (by omega)] at hb6
  clear hI
  have hlt' : ¬ ((j : Int) < l.length) := by omega
  have hT3l : (T2 ++ l.flatMap trkL).length ≤ 1000000000 := by
    have := flat_small (f := trkL) (n := 5000000) l fun x hx => trk_small (ht x hx)
    simp only [List.length_append]
    omega
  obtain ⟨g7, e7, b7, l7, _⟩ := wr (u := endT) hb6 (by omega) (by simp [endT])
  rw [hTT] at b7
  have hTTl : TT.length ≤ 1000000000000000 := by rw [← hTT]; simp only [List.length_append, endT, List.length_cons, List.length_nil] at hT3l ⊢; omega
  have e63 := rd63 b7 hTTl
  simp only [endT] at e7
  clear hTT ht hT3l hb6
  simp (maxSteps := 2000000) (disch := first | omega | (simp; done) | (simp; omega) | assumption) [hlt, hlt']
  refine hQ _ _ ?_
  clear hQ
  simp (maxSteps := 2000000) (disch := first | omega | (simp; done) | (simp; omega) | assumption) [e7, e63, Cl1_tup, Cl1_agg, Cl1_vs]
end ZD
open Go Go.AM Go.Proofs Go.AM.Pl
set_option maxRecDepth 100000
set_option maxHeartbeats 8000000
namespace ZD
theorem row_small {x : List Int} (h : ∀ n ∈ x, i64B n) (hl : x.length ≤ 200) : (rowT rowW x).length ≤ 300000 := by
  have := num_small (w := rowW) (by simp [rowW]) h (by omega)
  unfold rowT; simp; omega
end ZD
open Go Go.AM Go.Proofs Go.AM.Pl
set_option maxRecDepth 100000
set_option maxHeartbeats 8000000
namespace ZD
theorem depC_0 {d : Dep} (h : (depC d).2.2 = 0) : (trksC d.trks d.ways.length).2 = 0 := by
  unfold depC at h
  split at h
  · simp at h
  split at h
  · rename_i q; exact absurd h q
  split at h
  · rename_i q; exact absurd h q
  split at h
  · rename_i q; exact absurd h q
  · rename_i q; simpa using q
/-- What a depot has that was handed in. -/
def Dep.rng (d : Dep) : Prop := d.bk.length = 19 ∧ (∀ n ∈ d.bk, i64B n) ∧ (∀ l ∈ d.ways, ∀ n ∈ l, i64B n) ∧ (∀ o ∈ d.ords, i64B o.a ∧ i64B o.b ∧ i64B o.c ∧ i64B o.d ∧ ∀ s ∈ o.os, spanB64 s) ∧ (∀ t ∈ d.trks, i64B t.id ∧ i64B t.home ∧ i64B t.room ∧ i64B t.fixed ∧ i64B t.rate)
theorem lgt_sm {d : Dep} (hr : d.rng) (h : lgtD d = true) : d.sm ∧ ((depC d).2.2 = 0 → d.tell) := by
  obtain ⟨r1, r2, r3, r4, r5⟩ := hr
  simp only [lgtD, lgtW, lgt56, lgt57, Bool.and_eq_true, decide_eq_true_eq, List.all_eq_true] at h
  obtain ⟨⟨⟨w1, w2⟩, o1, o2⟩, t1, t2⟩ := h
  refine ⟨⟨r1, by omega, fun l hl => by have := w2 l hl; omega, by omega, fun o ho => by have := o2 o ho; omega, by omega, fun t ht => by have := t2 t ht; omega⟩, fun hc => ?_⟩
  have hp := trksC_past (depC_0 hc)
  refine ⟨r2, fun l hl => ⟨r3 l hl, by have := w2 l hl; omega⟩, by omega, fun o ho => ?_, by omega, fun t ht => ?_, by omega⟩
  · obtain ⟨a, b, c, e, f⟩ := r4 o ho
    have := o2 o ho
    exact ⟨⟨a, b, c, e, f, by omega⟩, this⟩
  · obtain ⟨a, b, c, e, f⟩ := r5 t ht
    refine ⟨⟨a, b, c, e, f⟩, fun r hr => ?_, Nat.le_trans (t2 t ht) (by decide)⟩
    have hch := recsC_chn (pastC_recs (hp t ht))
    have h1 := chn_kinds _ _ hch r hr
    have h2 := chn_mem hch r hr
    have h3 := chn_lt _ _ hch r hr
    exact ⟨by simp [kOk]; omega, by unfold i64B; omega, by unfold i64B; omega⟩
theorem f50 : ∀ k, k < 19 → fieldAt cx.P 50 k = some (k, 3, 1) := by
  intro k hk
  match k, hk with
  | 0, _ | 1, _ | 2, _ | 3, _ | 4, _ | 5, _ | 6, _ | 7, _ | 8, _ | 9, _ | 10, _ | 11, _ | 12, _ | 13, _ | 14, _ | 15, _ | 16, _ | 17, _ | 18, _ => rfl
  | n + 19, h => exact absurd h (by omega)
theorem all_ints : ∀ us : List V, (∀ v ∈ us, ∃ n, v = .i n ∧ i64B n) → ∃ b : List Int, us = ints b ∧ ∀ n ∈ b, i64B n
  | [], _ => ⟨[], rfl, by simp⟩
  | v :: us, h => by
    obtain ⟨n, rfl, hn⟩ := h v (by simp)
    obtain ⟨b, rfl, hb⟩ := all_ints us fun x hx => h x (by simp [hx])
    exact ⟨n :: b, rfl, fun m hm => by rcases List.mem_cons.1 hm with rfl | hm; exact hn; exact hb m hm⟩
theorem tv50 {m : Nat} {us : List V} (h : TV cx.P (m + 1 + 1) 50 us) : ∃ b : List Int, us = ints b ∧ b.length = 19 ∧ ∀ n ∈ b, i64B n := by
  have hl : us.length = 19 := by
    obtain ⟨hl, _⟩ := tv_field (k := 0) (o := 0) (u := 3) (n := 1) h (by rfl)
    rw [hl]; rfl
  obtain ⟨b, rfl, hb⟩ := all_ints us fun v hv => by
    obtain ⟨k, hk, rfl⟩ := List.mem_iff_getElem.1 hv
    obtain ⟨_, h1⟩ := tv_field h (f50 k (by omega))
    obtain ⟨n, hn, rn⟩ := tv_i64 u3' h1
    rw [List.drop_eq_getElem_cons hk] at hn
    simp only [List.take_succ_cons, List.take_zero, List.cons.injEq, and_true] at hn
    exact ⟨n, hn, rn⟩
  exact ⟨b, rfl, by simpa [ints] using hl, hb⟩
theorem tv112 {m : Nat} {us : List V} (h : TV cx.P (m + 1 + 1 + 1 + 1) 112 us) : ∃ t : Trk, AM.mkV cx.P 112 us = t.v ∧ i64B t.id ∧ i64B t.home ∧ i64B t.room ∧ i64B t.fixed ∧ i64B t.rate := by
  obtain ⟨hl, h0⟩ := tv_field (k := 0) (o := 0) (u := 3) (n := 1) h (by rfl)
  obtain ⟨_, h1⟩ := tv_field (k := 1) (o := 1) (u := 3) (n := 1) h (by rfl)
  obtain ⟨_, h2⟩ := tv_field (k := 2) (o := 2) (u := 3) (n := 1) h (by rfl)
  obtain ⟨_, h3⟩ := tv_field (k := 3) (o := 3) (u := 3) (n := 1) h (by rfl)
  obtain ⟨_, h4⟩ := tv_field (k := 4) (o := 4) (u := 3) (n := 1) h (by rfl)
  obtain ⟨_, h5⟩ := tv_field (k := 5) (o := 5) (u := 25) (n := 1) h (by rfl)
  have e : cx.P.cellsOf 112 = 6 := by rfl
  rw [e] at hl
  match us, hl with
  | [x0, x1, x2, x3, x4, x5], _ =>
    obtain ⟨a, ha, ra⟩ := tv_i64 u3' h0
    obtain ⟨b, hb, rb⟩ := tv_i64 u3' h1
    obtain ⟨c, hc, rc⟩ := tv_i64 u3' h2
    obtain ⟨d, hd, rd⟩ := tv_i64 u3' h3
    obtain ⟨f, hf, rf⟩ := tv_i64 u3' h4
    obtain ⟨rs, hrs, _⟩ := tv_row (e := 70) (f := Rec.v) (ok := fun _ => True) (by rfl) h5 (fun us _ h => let ⟨s, h1⟩ := tv70 h; ⟨s, h1, trivial⟩)
    simp at ha hb hc hd hf hrs
    subst ha; subst hb; subst hc; subst hd; subst hf; subst hrs
    exact ⟨⟨a, b, c, d, f, rs⟩, mk_agg ⟨_, by rfl⟩, ra, rb, rc, rd, rf⟩
/-- What is handed in as a depot is one. -/
theorem arg55 {v : V} (h : TArg cx.P 6 55 v) : ∃ d : Dep, v = d.v ∧ d.rng := by
  obtain ⟨us, rfl, h⟩ := h
  obtain ⟨hl, h0⟩ := tv_field (m := 5) (k := 0) (o := 0) (u := 50) (n := 19) h (by rfl)
  obtain ⟨_, h1⟩ := tv_field (m := 5) (k := 1) (o := 19) (u := 51) (n := 1) h (by rfl)
  obtain ⟨_, h2⟩ := tv_field (m := 5) (k := 2) (o := 20) (u := 52) (n := 1) h (by rfl)
  obtain ⟨_, h3⟩ := tv_field (m := 5) (k := 3) (o := 21) (u := 53) (n := 1) h (by rfl)
  have e : cx.P.cellsOf 55 = 22 := by rfl
  rw [e] at hl
  obtain ⟨b, hb, hbl, rb⟩ := tv50 (m := 3) h0
  obtain ⟨w, hw, rw'⟩ := tv_row (m := 4) (e := 26) (f := rowV) (ok := fun l => ∀ n ∈ l, i64B n) (by rfl) h1 (fun us hl h => by
    obtain ⟨l, rfl, hl2⟩ := ints_row (m := 2) h
    exact ⟨l, by rfl, hl2⟩)
  obtain ⟨os, ho, ro⟩ := tv_row (m := 4) (e := 24) (f := Ord.v) (ok := fun o => i64B o.a ∧ i64B o.b ∧ i64B o.c ∧ i64B o.d ∧ ∀ s ∈ o.os, spanB64 s) (by rfl) h2 (fun us hl h => by
    obtain ⟨o, rfl, r⟩ := tv24 (m := 0) h
    exact ⟨o, mk_agg ⟨_, by rfl⟩, r⟩)
  obtain ⟨ts, ht, rt⟩ := tv_row (m := 4) (e := 112) (f := Trk.v) (ok := fun t => i64B t.id ∧ i64B t.home ∧ i64B t.room ∧ i64B t.fixed ∧ i64B t.rate) (by rfl) h3 (fun us hl h => tv112 (m := 0) h)
  have hus : us = ints b ++ [AM.vs .dead 1 (rowsV w), AM.vs .dead 5 (ordsV os), AM.vs .dead 6 (trksV ts)] := by
    have s0 : us = (us.drop 0).take 19 ++ (us.drop 19).take 1 ++ (us.drop 20).take 1 ++ (us.drop 21).take 1 := by
      have a1 : us = us.take 19 ++ us.drop 19 := (List.take_append_drop 19 us).symm
      have a2 : us.drop 19 = (us.drop 19).take 1 ++ us.drop 20 := by rw [← List.drop_drop (i := 1) (j := 19) (l := us)]; exact (List.take_append_drop 1 _).symm
      have a3 : us.drop 20 = (us.drop 20).take 1 ++ us.drop 21 := by rw [← List.drop_drop (i := 1) (j := 20) (l := us)]; exact (List.take_append_drop 1 _).symm
      have a4 : us.drop 21 = (us.drop 21).take 1 := (List.take_of_length_le (by simp; omega)).symm
      rw [List.drop_zero, List.append_assoc, List.append_assoc, ← a4, ← a3, ← a2]; exact a1
    rw [s0, hb, hw, ho, ht]; simp; exact ⟨rfl, rfl, rfl⟩
  refine ⟨⟨b, w, os, ts⟩, ?_, hbl, rb, rw', ro, rt⟩
  rw [hus]; exact mk_agg ⟨_, by rfl⟩
end ZD

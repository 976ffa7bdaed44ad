/- What the document's Parse tells. No condition. -/
import Derived.Test.YtieenbjncimikaaGreatDoorWA
import Derived.Test.YtieenbjncimikaaGreatDoorPG
set_option linter.all false
open Go Go.AM Go.Proofs Go.AM.Pl
set_option maxRecDepth 100000
set_option maxHeartbeats 4000000
namespace ZD
/-- What is known of a reading behind so many lines. -/
structure Yc (j : Nat) (y : Rdg) : Prop where
  w : y.d.ways.length ≤ j
  o : y.d.ords.length ≤ j
  t : y.d.trks.length ≤ j
  p : ∀ t ∈ y.d.trks, t.past.length ≤ j
  pl : 0 ≤ y.places ∧ y.places ≤ 200
  n5 : y.next = 5 → y.d.trks ≠ []
  r : y.rows.length = y.d.ways.length
  q : y.orders.length = y.d.ords.length
  k : y.trucks.length = y.d.trks.length
  n4 : 4 ≤ y.next → 0 < y.d.ways.length
  ww : ∀ l ∈ y.d.ways, l.length ≤ 1000000
  oo : ∀ o ∈ y.d.ords, o.os.length ≤ 1000000
  bk : y.d.bk.length = 19
theorem addPast_mem {l : List Trk} {r : Rec} {t : Trk} {j : Nat} (h : ∀ t ∈ l, t.past.length ≤ j) (ht : t ∈ addPast l r) : t.past.length ≤ j + 1 := by
  rcases List.eq_nil_or_concat l with rfl | ⟨b, x, rfl⟩
  · simp [addPast] at ht
  · rw [List.concat_eq_append] at ht h
    rw [addPast_snoc] at ht
    rcases List.mem_append.1 ht with ht | ht
    · have := h t (by simp [ht]); omega
    · obtain rfl := List.mem_singleton.1 ht
      have := h x (by simp)
      simp; omega
theorem addPast_len {l : List Trk} {r : Rec} : (addPast l r).length = l.length := by
  rcases List.eq_nil_or_concat l with rfl | ⟨b, x, rfl⟩
  · rfl
  · rw [List.concat_eq_append, addPast_snoc]; simp
theorem rowR_len {w : List Ln} {name : Ln} {n : Int} (hn : 0 ≤ n) (h : (rowR w name n).2 = 0) : ((rowR w name n).1.length : Int) = n ∧ (rowR w name n).1.length + 1 = w.length := by
  unfold rowR at h ⊢
  split at h
  · rename_i a
    rw [if_pos a, allR_len h]
    have := a.2
    cases w with
    | nil => simp at this; omega
    | cons x r => simp at this ⊢; omega
  · exact absurd h (by decide)
theorem Yc.up {j : Nat} {y : Rdg} (c : Yc j y) : Yc (j + 1) y := ⟨by have := c.w; omega, by have := c.o; omega, by have := c.t; omega, fun t ht => by have := c.p t ht; omega, c.pl, c.n5, c.r, c.q, c.k, c.n4, c.ww, c.oo, c.bk⟩
theorem Yc.take {j : Nat} {y : Rdg} {w : List Ln} {a : Int} (c : Yc j y) (hw : w.length ≤ 1000000) : Yc (j + 1) (takeR y w a).1 := by
  have u := c.up
  have c1 := c.w; have c2 := c.o; have c3 := c.t; have c4 := c.r; have c5 := c.q; have c6 := c.k
  unfold takeR
  split
  · rename_i h4
    unfold firstR
    split
    · split
      · exact ⟨u.w, u.o, u.t, u.p, u.pl, fun e => absurd e (by simp), u.r, u.q, u.k, fun e => absurd e (by simp), u.ww, u.oo, u.bk⟩
      · exact u
    split
    · split
      · rename_i h
        exact ⟨u.w, u.o, u.t, u.p, u.pl, fun e => absurd e (by simp), u.r, u.q, u.k, fun e => absurd e (by simp), u.ww, u.oo, by have := (rowR_len (by decide) h).1; simp only; omega⟩
      · exact u
    split
    · split
      · split
        · exact u
        · rename_i h
          exact ⟨u.w, u.o, u.t, u.p, by simp only; omega, fun e => absurd e (by simp), u.r, u.q, u.k, fun e => absurd e (by simp), u.ww, u.oo, u.bk⟩
      · exact u
    · split
      · rename_i h
        have hl := (rowR_len c.pl.1 h).2
        refine ⟨by simp; omega, u.o, u.t, u.p, u.pl, fun e => ?_, by simp [c4], u.q, u.k, fun _ => by simp, fun l hl' => ?_, u.oo, u.bk⟩
        · simp only at e
          split at e
          · exact absurd e (by decide)
          · omega
        · simp only [List.mem_append, List.mem_singleton] at hl'
          rcases hl' with h | rfl
          · exact c.ww l h
          · omega
      · exact u
  rename_i h4
  split
  · exact u
  split
  · have := ordR_len w
    refine ⟨u.w, by simp; omega, u.t, u.p, u.pl, u.n5, u.r, by simp [c5], u.k, u.n4, u.ww, fun o ho => ?_, u.bk⟩
    simp only [List.mem_append, List.mem_singleton] at ho
    rcases ho with h | rfl
    · exact c.oo o h
    · omega
  split
  · split
    · refine ⟨u.w, u.o, by simp; omega, fun t ht => ?_, u.pl, fun _ => by simp, u.r, u.q, by simp [c6], fun _ => c.n4 (by omega), u.ww, u.oo, u.bk⟩
      simp only [List.mem_append, List.mem_singleton] at ht
      rcases ht with h | rfl
      · exact u.p t h
      · simp [trkOf]
    · exact u
  split
  · rename_i h5
    split
    · refine ⟨u.w, u.o, by simp only [addPast_len]; omega, fun t ht => addPast_mem c.p ht, u.pl, fun _ => ?_, u.r, u.q, by simp only [addPast_len]; omega, u.n4, u.ww, u.oo, u.bk⟩
      have := c.n5 h5.2
      intro e
      simp only at e
      have := congrArg List.length e
      rw [addPast_len] at this
      exact c.n5 h5.2 (List.length_eq_zero_iff.1 (by simpa using this))
    · exact u
  split
  · exact ⟨u.w, u.o, u.t, u.p, u.pl, fun e => absurd e (by simp), u.r, u.q, u.k, fun _ => c.n4 (by omega), u.ww, u.oo, u.bk⟩
  · exact u
theorem Yc.sz {j : Nat} {y : Rdg} (c : Yc j y) (hj : j ≤ 1000000) : Ysz y := ⟨by have := c.w; omega, by have := c.o; omega, by have := c.t; omega, by have := c.r; have := c.w; omega, by have := c.q; have := c.o; omega, by have := c.k; have := c.t; omega, fun t ht => by have := c.p t ht; omega⟩
theorem Yc.sm {j : Nat} {y : Rdg} (c : Yc j y) (hj : j ≤ 1000000) : y.d.sm := ⟨c.bk, by have := c.w; omega, c.ww, by have := c.o; omega, c.oo, by have := c.t; omega, fun t ht => by have := c.p t ht; omega⟩
theorem sealL_snoc : ∀ (a b : List V) (x y : V) (s : V → Option V), sealL s a = some b → s x = some y → sealL s (a ++ [x]) = some (b ++ [y])
  | [], b, x, y, s, e1, e2 => by cases e1; simp [sealL, e2]
  | z :: a, b, x, y, s, e1, e2 => by
    simp only [sealL, Option.bind_eq_bind] at e1
    obtain ⟨z', hz, e1⟩ := Option.bind_eq_some_iff.1 e1
    obtain ⟨b', hb, e1⟩ := Option.bind_eq_some_iff.1 e1
    cases e1
    simp only [List.cons_append, sealL, Option.bind_eq_bind, hz, Option.bind_some, sealL_snoc a b' x y s hb e2]; rfl
/-- Trucks in memory, closed. -/
theorem seal_trk {lo n k : Nat} {g : H} {X : V} {tp : AM.Tk} {l : List Trk} (hX : TrX lo g X tp l) (hn : n ≤ lo) : (∃ u, sealV g n (k + 5) X = some u ∧ fg u = AM.vs .dead 6 (trksV l)) ∧ (∃ u, sealV g n (k + 5) (fg X) = some u ∧ fg u = AM.vs .dead 6 (trksV l)) := by
  rcases hX with ⟨h2, rfl, _⟩ | ⟨b, TT, h2, h3, rfl, h5, h6, h7⟩
  · rw [h2]
    exact ⟨⟨_, rfl, rfl⟩, ⟨_, rfl, rfl⟩⟩
  · have : ∃ u, sealV g n (k + 5) (.msl b 0 l.length 6) = some u ∧ fg u = AM.vs .dead 6 (trksV l) := by
      obtain ⟨m, hm, fm⟩ := sealL_fg (s := sealV g n (k + 4)) (l := trC TT) fun v hv => by
        refine clo_fg ?_
        unfold trC at hv
        obtain ⟨x, _, hx⟩ := List.mem_flatMap.1 hv
        simp only [List.mem_cons, List.not_mem_nil, or_false] at hx
        rcases hx with rfl | rfl | rfl | rfl | rfl | rfl
        all_goals first | rfl | (simp only [clo_vs]; exact clo_recs (k + 1) _)
      have hlen : (trC TT).length = l.length * 6 := by rw [trC_len, h2]; simp
      refine ⟨_, seal_msl (d := k + 4) (by omega) h6 hlen hm, ?_⟩
      have e1 : fgL (trC TT) = (trksV l).flatMap cellsOf := by
        rw [h2]
        clear h2 h3 h6 h7 hm fm hlen
        induction TT with
        | nil => rfl
        | cons x TT ih =>
          have e : trC (x :: TT) = [.i x.1.id, .i x.1.home, .i x.1.room, .i x.1.fixed, .i x.1.rate, AM.vs x.2 3 (recs x.1.past)] ++ trC TT := rfl
          rw [e, fgL_app', ih]
          simp [trksV, Trk.v, fgL]
      have e2 := chunks_flat (w := 6) (trksV l) fun v hv => by
        obtain ⟨x, _, rfl⟩ := List.mem_map.1 hv
        exact .inl ⟨by omega, _, rfl, rfl⟩
      have hl2 : (trksV l).length = l.length := by simp [trksV]
      simp only [fg]
      rw [fgL_chunks, fm, e1, ← hl2, e2]
    exact ⟨this, this⟩
/-- A depot in memory, closed. -/
theorem seal_dep {n k : Nat} {g : H} {W O X : V} {d : Dep} (hW : clo (k + 5) W = true) (hWf : fg W = AM.vs .dead 1 (rowsV d.ways)) (hO : clo (k + 5) O = true) (hOf : fg O = AM.vs .dead 5 (ordsV d.ords)) (hX : ∃ u, sealV g n (k + 5) X = some u ∧ fg u = AM.vs .dead 6 (trksV d.trks)) :
    ∃ u, sealV g n (k + 6) (.agg (ints d.bk ++ [W, O, X])) = some u ∧ fg u = d.v := by
  obtain ⟨u1, h1, f1⟩ := sealL_fg (s := sealV g n (k + 5)) (l := ints d.bk ++ [W, O]) fun v hv => by
    refine clo_fg ?_
    have hc : (ints d.bk ++ [W, O]).all (clo (k + 5)) = true := by
      rw [List.all_append, clo_ints (k + 4)]
      simp [hW, hO]
    exact List.all_eq_true.1 hc v hv
  obtain ⟨u2, h2, f2⟩ := hX
  refine ⟨.agg (u1 ++ [u2]), ?_, ?_⟩
  · show (sealL (sealV g n (k + 5)) _).map V.agg = _
    rw [show ints d.bk ++ [W, O, X] = (ints d.bk ++ [W, O]) ++ [X] by simp, sealL_snoc _ _ _ _ _ h1 h2]; rfl
  · simp only [fg, fgL_app', f1, Dep.v, Dep.cs, fgL_ints]
    simp [fgL, f2, hWf, hOf]
theorem clo_ways {k : Nat} {t : AM.Tk} {w : List (List Int)} : clo (k + 5) (AM.vs t 1 (rowsV w)) = true := by
  rw [clo_vs]; simp [rowsV, rowV, ints]
theorem clo_ords {k : Nat} {t : AM.Tk} {l : List Ord} : clo (k + 5) (AM.vs t 5 (ordsV l)) = true := by
  rw [clo_vs]; simp [ordsV, Ord.v, Ord.cs, clo_spns (k + 0)]
theorem seal_d1 {lo n k : Nat} {g : H} {X : V} {tp t1 t2 : AM.Tk} {d : Dep} (hX : TrX lo g X tp d.trks) (hn : n ≤ lo) : ∃ u, sealV g n (k + 6) (.agg (ints d.bk ++ [AM.vs t1 1 (rowsV d.ways), AM.vs t2 5 (ordsV d.ords), X])) = some u ∧ fg u = d.v :=
  seal_dep clo_ways (by simp) clo_ords (by simp) (seal_trk hX hn).1
theorem seal_d2 {lo n k : Nat} {g : H} {X : V} {tp t1 t2 : AM.Tk} {d : Dep} (hX : TrX lo g X tp d.trks) (hn : n ≤ lo) : ∃ u, sealV g n (k + 6) (.agg (fgL (ints d.bk ++ [AM.vs t1 1 (rowsV d.ways), AM.vs t2 5 (ordsV d.ords), X]))) = some u ∧ fg u = d.v := by
  have e : fgL (ints d.bk ++ [AM.vs t1 1 (rowsV d.ways), AM.vs t2 5 (ordsV d.ords), X]) = ints d.bk ++ [AM.vs .dead 1 (rowsV d.ways), AM.vs .dead 5 (ordsV d.ords), fg X] := by
    simp only [fgL_app', fgL_ints]; simp [fgL]
  rw [e]
  exact seal_dep clo_ways (by simp) clo_ords (by simp) (seal_trk hX hn).2
end ZD
open Go Go.AM Go.Proofs Go.AM.Pl
set_option maxRecDepth 100000
set_option maxHeartbeats 4000000
namespace ZD
theorem unl_atL : ∀ (ls : List Ln), ((unl ls).length : Int) = atL ls ls.length := by
  intro ls
  have : ∀ (a : List Ln), ((unl a).length : Int) = (a.map fun (l : Ln) => (l.length : Int) + 1).sum := by
    intro a
    induction a with
    | nil => rfl
    | cons s a ih => rw [unl_cons]; simp only [List.length_append, List.length_cons, List.map_cons, List.sum_cons]; rw [← ih]; omega
  rw [this]; unfold atL; rw [List.take_of_length_le (Nat.le_refl _)]
/-- The document's text: lines of no size. -/
def Ty (ls : List Ln) : Prop := (∀ l ∈ ls, l.length ≤ 300000) ∧ ls.length ≤ 900000
theorem Ty.x {ls : List Ln} (h : Ty ls) : Tx ls := ⟨fun l hl => by have := h.1 l hl; omega, h.2⟩
theorem rc28 {D : List V} {y : Rdg} {lo : Nat} {g : H} (h : RgS lo g D y) : D.length = 28 := by
  obtain ⟨_, _, _, _, _, _, _, e, _, hb', _⟩ := h
  rw [e]; exact rgl hb'
theorem rg_take {x : RG} (hb : x.bk.length = 19) : x.cs.take 22 = ints x.bk ++ [x.W, x.O, x.X] := by
  obtain ⟨b, _, _, _, _, _, _, _, _, _⟩ := x
  obtain ⟨b0, b1, b2, b3, b4, b5, b6, b7, b8, b9, b10, b11, b12, b13, b14, b15, b16, b17, b18, rfl⟩ := len19 hb
  rfl
theorem Cl1_of {h : H} {n : Nat} {D : List V} {d : Dep} {a b : Int} (hs : ∃ u, sealV h n 11 (.agg D) = some u ∧ fg u = d.v) : Cl1 h n (.tup [.agg D, .i a, .i b]) = some (.tup [d.v, .i a, .i b]) := by
  obtain ⟨u, h1, h2⟩ := hs
  unfold Cl1
  have : sealV h n sealDepth (.tup [.agg D, .i a, .i b]) = some (.tup [u, .i a, .i b]) := by
    rw [show sealDepth = 11 + 1 from rfl]
    show (sealL (sealV h n 11) _).map V.tup = _
    simp only [sealL, h1, Option.bind_eq_bind, Option.bind_some]
    rfl
  rw [this]
  simp only [Option.map_some, fg, fgL, h2]
theorem s25 {lo : Nat} {l : List UInt8} {h : H} (hl : l.length ≤ 1000000000000) (hty : ∀ ls, lin [] l = some ls → Ty ls) : den cx lo 25 [.t l] h = some (parV l, h) := by
  have e75 := fun lo g => s75 (lo := lo) (h := g) hl
  have hz : (.agg z55 : V) = .agg [V.i 0, V.i 0, V.i 0, V.i 0, V.i 0, V.i 0, V.i 0, V.i 0, V.i 0, V.i 0, V.i 0, V.i 0, V.i 0, V.i 0, V.i 0, V.i 0, V.i 0, V.i 0, V.i 0, AM.vs .nil 0 [], AM.vs .nil 0 [], AM.vs .nil 0 []] := rfl
  have zo : zeroOf cx.P 55 = some (.agg z55) := by rw [hz]; exact zo55
  have bz : buildV cx 55 [] = some (.agg z55) := by rw [hz]; simp [fillV]
  have zp : zeroOf cx.P 123 = some (.agg z123) := zo123
  have cz := fun h n a b => Cl1_dep (h := h) (n := n) (D := z55) (d := dep0) (a := a) (b := b) z55_fg
  unfold parV parR
  refine den_pure (fn := Tryz.f25) (by rfl) (by rfl) (by rfl) (by rfl) (by simp [Tryz.f25]) (by simp) ?_
  cases hlin : lin [] l with
  | none =>
    rw [hlin] at e75
    simp only [linV] at e75
    simp (maxSteps := 2000000) (disch := first | omega | (simp; done) | (simp; omega) | assumption) [Tryz.f25, argsE, -zo55, -bu55, zo, bz, isC, boxV, boxO, fresh_no, List.filter_cons, setB, aggN, op_build, List.set, e75, z55_len, tk55, cz, wr55]
    done
  | some ls =>
    rw [hlin] at e75
    simp only [linV] at e75
    have ht := hty ls hlin
    have htl := ht.2
    have hlen : (l.length : Int) = atL ls ls.length := by
      have := lin_back l [] ls hlin
      simp only [List.nil_append] at this
      rw [this]; exact unl_atL ls
    obtain ⟨R, hR⟩ : ∃ R, runR rdg0 0 ls = R := ⟨_, rfl⟩
    simp only
    rw [hR]
    obtain ⟨v, hv⟩ : ∃ v : V, .tup [(finR R).1.v, .i (finR R).2.1, .i (finR R).2.2] = v := ⟨_, rfl⟩
    rw [hv]
    simp (maxSteps := 2000000) (disch := first | omega | (simp; done) | (simp; omega) | assumption) [Tryz.f25, argsE, -zo55, -bu55, zo, bz, -zo123, zp, isC, boxV, boxO, fresh_no, List.filter_cons, setB, aggN, op_build, List.set, e75, z55_len, z123_len, tk55, wr55]
    have hst : RgS h.length h z123 rdg0 := ⟨.nil, .nil, .nil, .nil, .nil, .nil, AM.vs .nil 0 [], rfl, Tks.nil.cons_nil.cons_nil.cons_nil.cons_nil.cons_nil.cons_nil, rfl, .inl ⟨rfl, rfl, rfl⟩⟩
    have hy0 : Yc 0 rdg0 := ⟨by simp [rdg0, dep0], by simp [rdg0, dep0], by simp [rdg0, dep0], by simp [rdg0, dep0], by simp [rdg0], by simp [rdg0], rfl, rfl, rfl, by simp [rdg0], by simp [rdg0, dep0], by simp [rdg0, dep0], rfl⟩
    obtain ⟨I, hI⟩ : ∃ I : Nat → List Ent → List (Nat × List V) → H → Prop, I = (fun n vs lb g => ∃ (j : Nat) (y : Rdg) (D : List V), n + j = ls.length ∧ RgS h.length g D y ∧ Yc j y ∧ h.length ≤ g.length ∧ runR y (atL ls j) (ls.drop j) = R ∧ vs = [.v (.i (atL ls j)), .v (.i j)] ∧ lb = [(8, D), (2, z55)]) := ⟨_, rfl⟩
    refine Wp.loopQ I (n := ls.length) (by rw [hI]; exact ⟨0, rdg0, z123, by simp, hst, hy0, by simp, by rw [atL_zero]; exact hR, by simp [atL_zero], by simp⟩) ?_
    clear hst hy0 hR
    intro n vs lb g hi Q hQ; rw [hI] at hi; obtain ⟨j, y, D, hj, hs, hy, hg, hr, rfl, rfl⟩ := hi
    have hDl := rc28 hs
    by_cases hlt : j < ls.length
    · have hlt' : (j : Int) < (ls.length : Int) := by omega
      have hbd := atL_bound ht.x j (by omega)
      have hlj := ht.1 _ (List.getElem_mem hlt)
      have hjm : (j : Int) * 1000000 ≤ 900000000000 := by omega
      have hsc := atL_succ hlt
      have hr0 := hr
      rw [List.drop_eq_getElem_cons hlt] at hr
      simp only [runR] at hr
      obtain ⟨ll, hll⟩ : ∃ ll, ls[j] = ll := ⟨_, rfl⟩
      rw [hll] at hlj hsc hr
      have e49 := fun lo g => s49 (lo := lo) (l := ll) (h := g) hlj
      have hix2 : (List.map V.t ls)[j]? = some (V.t ll) := by simp [hlt, hll]
      have hwd : wordsR ll = (wrds ll, if wrds ll = [] then false else true) := by
        unfold wrds wordsR
        cases splR ll with
        | error p => rfl
        | ok ws => by_cases h : ws = [] <;> simp [h]
      rw [hwd] at e49
      simp only [wrdV] at e49
      by_cases qw : wrds ll = []
      · rw [if_pos qw] at hr
        simp only [qw, if_true] at e49
        have hvv : V.tup [dep0.v, .i (atL ls j), .i 7] = v := by rw [← hv, ← hr]; rfl
        clear hI hr hr0 hs hy hwd
        simp (maxSteps := 2000000) (disch := first | omega | (simp; done) | (simp; omega) | assumption) [-zo55, -bu55, zo, bz, isC, boxV, boxO, fresh_no, List.filter_cons, setB, aggN, op_build, List.set, hlt, hlt', strs, hll, e49, z55_len, tk55, wr55]
        refine hQ _ _ ?_
        simp (maxSteps := 2000000) (disch := first | omega | (simp; done) | (simp; omega) | assumption) [z55_len, boxV, boxO, fresh_no, List.filter_cons, setB, aggN, op_build, List.set, tk55, wr55, cz]
        exact hvv
      rw [if_neg qw] at hr
      simp only [qw, if_false] at e49
      have hwl := wrds_len ll
      have hww : ∀ x ∈ wrds ll, x.length ≤ 1000000 := by
        intro x hx
        rw [wrds_eq] at hx
        obtain ⟨a, ha, rfl⟩ := List.mem_map.1 hx
        have := wdsR_wl ll a ha
        omega
      obtain ⟨D', g', e76, hs', hgl⟩ := s76 (w := wrds ll) (at_ := atL ls j) hg hs (hy.sz (by omega)) qw (by omega) hww (by have := hy.pl; omega) hy.n5
      have hD'l := rc28 hs'
      have hyc := hy.take (w := wrds ll) (a := atL ls j) (by omega)
      obtain ⟨⟨y', e⟩, hT⟩ : ∃ T, takeR y (wrds ll) (atL ls j) = T := ⟨_, rfl⟩
      rw [hT] at e76 hs' hr hyc
      simp only at e76 hs' hr hyc
      obtain ⟨ws, hws⟩ : ∃ ws, wrds ll = ws := ⟨_, rfl⟩
      rw [hws] at e76 e49
      have htk : D.take 28 = D := List.take_of_length_le (by omega)
      have htk' : D'.take 28 = D' := List.take_of_length_le (by omega)
      have hwr0 := wr_all (cs := z123) (D := D') z123_len hD'l (by omega)
      have hwr1 := wr_all (cs := D) (D := D') hDl hD'l (by omega)
      have hsx : strs ws = List.map V.t ws := rfl
      simp only [hsx] at e76 e49
      by_cases qe : e = 0
      · subst qe
        rw [if_pos rfl] at hr
        have hat : atL ls j + (ll.length : Int) + 1 = atL ls (j + 1) := by rw [hsc]
        have go : I (n - 1) [.v (.i (atL ls j + (ll.length : Int) + 1)), .v (.i ((j : Int) + 1))] [(8, D'), (2, z55)] g' := by
          rw [hI]; exact ⟨j + 1, y', D', by omega, hs', hyc, by omega, by rw [hat] at hr; exact hr, by rw [hat]; simp, rfl⟩
        clear hI hr hr0 hs hs' hy hyc hwd hT hQ
        simp (maxSteps := 2000000) (disch := first | omega | (simp; done) | (simp; omega) | assumption) [-zo123, zp, isC, boxV, boxO, fresh_no, List.filter_cons, setB, aggN, op_build, List.set, hlt, hlt', strs, hll, e49, e76, hDl, hD'l, z123_len, htk, htk', hwr0, hwr1, wrap64]
        exact ⟨n - 1, by omega, go⟩
      · rw [if_neg qe] at hr
        have hvv : V.tup [dep0.v, .i (atL ls j), .i e] = v := by rw [← hv, ← hr]; unfold finR; simp only [if_neg qe]
        clear hI hr hr0 hs hs' hy hyc hwd hT
        simp (maxSteps := 2000000) (disch := first | omega | (simp; done) | (simp; omega) | assumption) [-zo55, -bu55, zo, bz, -zo123, zp, isC, boxV, boxO, fresh_no, List.filter_cons, setB, aggN, op_build, List.set, hlt, hlt', strs, hll, e49, e76, qe, hDl, hD'l, z123_len, htk, htk', hwr0, z55_len, tk55, wr55]
        refine hQ _ _ ?_
        simp (maxSteps := 2000000) (disch := first | omega | (simp; done) | (simp; omega) | assumption) [z55_len, boxV, boxO, fresh_no, List.filter_cons, setB, aggN, op_build, List.set, tk55, wr55, cz]
        exact hvv
    obtain rfl : j = ls.length := by omega
    have hlt' : ¬ ((ls.length : Int) < (ls.length : Int)) := by omega
    rw [List.drop_of_length_le (Nat.le_refl _)] at hr
    simp only [runR] at hr
    clear hI
    simp (maxSteps := 2000000) (disch := first | omega | (simp; done) | (simp; omega) | assumption) []
    refine hQ _ _ ?_
    clear hQ
    have hs0 := hs
    obtain ⟨t1, t2, t3, t4, t5, tp, X, hD, hTk, hb, hX⟩ := hs
    have hsd1 := seal_d2 (k := 6) (n := 0) (t1 := t1) (t2 := t2) hX (Nat.zero_le _)
    have hsd2 := seal_d1 (k := 5) (n := h.length) (t1 := t1) (t2 := t2) hX (Nat.le_refl _)
    obtain ⟨C, hC⟩ : ∃ C : RG, (⟨y.d.bk, AM.vs t1 1 (rowsV y.d.ways), AM.vs t2 5 (ordsV y.d.ords), X, y.next, y.places, y.book, AM.vs t3 1 (ints y.rows), AM.vs t4 1 (ints y.orders), AM.vs t5 1 (ints y.trucks)⟩ : RG) = C := ⟨_, rfl⟩
    rw [hC] at hD
    have hbk : C.bk.length = 19 := by rw [← hC]; exact hb
    have g22 : D[22]? = some (.i y.next) := by rw [hD, rg_22 hbk, ← hC]
    have g24 : D[24]? = some (.i y.book) := by rw [hD, rg_24 hbk, ← hC]
    have g25 : D[25]? = some (AM.vs t3 1 (ints y.rows)) := by rw [hD, rg_25 hbk, ← hC]
    have g26 : D[26]? = some (AM.vs t4 1 (ints y.orders)) := by rw [hD, rg_26 hbk, ← hC]
    have g27 : D[27]? = some (AM.vs t5 1 (ints y.trucks)) := by rw [hD, rg_27 hbk, ← hC]
    have g22 := get_of g22
    have g24 := get_of g24
    have g25 := get_of g25
    have g26 := get_of g26
    have g27 := get_of g27
    by_cases q6 : y.next = 6
    case neg =>
      rw [if_neg q6] at hr
      have hvv : V.tup [dep0.v, .i (l.length : Int), .i 8] = v := by rw [← hv, ← hr, hlen]; rfl
      clear hC hD hs0 hTk hX hsd1 hsd2 g24 g25 g26 g27
      simp (maxSteps := 2000000) (disch := first | omega | (simp; done) | (simp; omega) | assumption) [-zo55, -bu55, zo, bz, isC, boxV, boxO, fresh_no, List.filter_cons, setB, aggN, op_build, List.set, hDl, g22, q6, z55_len, tk55, wr55, cz]
      exact hvv
    rw [if_pos q6] at hr
    have hfin : finR R = if (depC y.d).2.2 = 0 then (y.d, 0, 0) else (dep0, placeR y (depC y.d), (depC y.d).2.2) := by rw [← hr]; unfold finR; simp only [if_true]
    rw [hfin] at hv
    rw [q6] at g22
    obtain ⟨E, hE⟩ : ∃ E, D.take 22 = E := ⟨_, rfl⟩
    have hEl : E.length = 22 := by rw [← hE]; simp; omega
    have hEe : E = ints y.d.bk ++ [AM.vs t1 1 (rowsV y.d.ways), AM.vs t2 5 (ordsV y.d.ords), X] := by rw [← hE, hD, rg_take hbk, ← hC]
    obtain ⟨u, hu1, hu2⟩ := hsd1
    rw [← hEe] at hu1 hsd2
    have e64 := fun lo' => s64z (lo := lo') (h := g) (args := [.agg (fgL E)]) (az := [u]) (d := y.d) (hy.sm (by omega)) (by simp only [fgL, fg, fgL_fgL, sealL]; rw [show sealDepth = 6 + 6 from rfl, hu1]; rfl) (by simp only [fgL, hu2])
    have hle22 : (22 ≤ D.length) = True := eq_true (by omega)
    by_cases qc : (depC y.d).2.2 = 0
    · rw [if_pos qc] at hv
      obtain ⟨⟨c1, c2, c3⟩, hc⟩ : ∃ c, depC y.d = c := ⟨_, rfl⟩
      rw [hc] at e64 qc
      simp only at qc
      subst qc
      simp only [tup3] at e64
      have hwr := wr_all z55_len hEl (by omega)
      have htk : E.take 22 = E := List.take_of_length_le (by omega)
      have hcl : Cl1 g h.length (.tup [.agg E, .i 0, .i 0]) = some (.tup [y.d.v, .i 0, .i 0]) := Cl1_of hsd2
      clear hC hD hs0 hTk hX hsd2 g24 g25 g26 g27
      simp (maxSteps := 2000000) (disch := first | omega | (simp; done) | (simp; omega) | assumption) [isC, boxV, boxO, fresh_no, List.filter_cons, setB, aggN, op_build, List.set, hDl, g22, hle22, hE, e64, hwr, htk, hEl, z55_len, tk55, hcl]
      exact hv
    rw [if_neg qc] at hv
    have hix := depC_ix qc (hy.n4 (by omega))
    obtain ⟨⟨c1, c2, c3⟩, hc⟩ : ∃ c, depC y.d = c := ⟨_, rfl⟩
    rw [hc] at hix e64 qc hv
    simp only at hix qc hv
    simp only [tup3] at e64
    unfold placeR at hv
    simp only at hv
    have hyr := hy.r
    have hyq := hy.q
    have hyk := hy.k
    clear hC hD hs0 hTk hX hsd2
    rcases hix with h1 | ⟨h1, i, h2, h3⟩ | ⟨h1, i, h2, h3⟩ | ⟨h1, i, h2, h3⟩
    · rw [if_pos h1] at hv
      subst h1
      simp (maxSteps := 2000000) (disch := first | omega | (simp; done) | (simp; omega) | assumption) [-zo55, -bu55, zo, bz, isC, boxV, boxO, fresh_no, List.filter_cons, setB, aggN, op_build, List.set, hDl, g22, g24, hle22, hE, e64, qc, z55_len, tk55, wr55, cz, foot, Op.operands, opTmps]
      exact ⟨indep_of bf25_24 (by rfl), hv⟩
    · rw [if_neg (by omega), if_pos h1] at hv
      subst h1; subst h2
      have hi : i < y.rows.length := by omega
      have hgd : y.rows.getD (i : Int).toNat 0 = y.rows[i] := by simp [List.getD, hi]
      rw [hgd] at hv
      simp (maxSteps := 2000000) (disch := first | omega | (simp; done) | (simp; omega) | assumption) [-zo55, -bu55, zo, bz, isC, boxV, boxO, fresh_no, List.filter_cons, setB, aggN, op_build, List.set, hDl, g22, g25, hle22, hE, e64, qc, z55_len, tk55, wr55, cz, foot, Op.operands, opTmps, ints, hi]
      exact ⟨indep_of bf25_26 (by rfl), hv⟩
    · rw [if_neg (by omega), if_neg (by omega), if_pos h1] at hv
      subst h1; subst h2
      have hi : i < y.orders.length := by omega
      have hgd : y.orders.getD (i : Int).toNat 0 = y.orders[i] := by simp [List.getD, hi]
      rw [hgd] at hv
      simp (maxSteps := 2000000) (disch := first | omega | (simp; done) | (simp; omega) | assumption) [-zo55, -bu55, zo, bz, isC, boxV, boxO, fresh_no, List.filter_cons, setB, aggN, op_build, List.set, hDl, g22, g26, hle22, hE, e64, qc, z55_len, tk55, wr55, cz, foot, Op.operands, opTmps, ints, hi]
      exact ⟨indep_of bf25_28 (by rfl), hv⟩
    · have n1 : ¬ c1 = 1 := by omega
      have n2 : ¬ c1 = 2 := by omega
      have n3 : ¬ c1 = 3 := by omega
      rw [if_neg n1, if_neg n2, if_neg n3] at hv
      subst h2
      have hi : i < y.trucks.length := by omega
      have hgd : y.trucks.getD (i : Int).toNat 0 = y.trucks[i] := by simp [List.getD, hi]
      rw [hgd] at hv
      simp (maxSteps := 2000000) (disch := first | omega | (simp; done) | (simp; omega) | assumption) [-zo55, -bu55, zo, bz, isC, boxV, boxO, fresh_no, List.filter_cons, setB, aggN, op_build, List.set, hDl, g22, g27, hle22, hE, e64, qc, z55_len, tk55, wr55, cz, foot, Op.operands, opTmps, ints, hi, n1, n2, n3]
      exact ⟨indep_of bf25_29 (by rfl), hv⟩
end ZD

/- What functions of the program tell (commands' lines). No condition. -/
import Derived.Test.YtieenbjncimikaaGreatDoorSC
import Derived.Test.YtieenbjncimikaaGreatDoorAmF
set_option linter.all false
open Go Go.AM Go.Proofs Go.AM.Pl
set_option maxRecDepth 100000
set_option maxHeartbeats 4000000
namespace ZD
@[simp] theorem recs_get {l : List Rec} {j : Nat} (h : j < (recs l).length) : (recs l)[j] = (l[j]'(by simpa using h)).v := by simp [recs]
@[simp] theorem ints_get {l : List Int} {j : Nat} (h : j < (ints l).length) : (ints l)[j] = .i (l[j]'(by simpa using h)) := by simp [ints]
@[simp] theorem spns_get {l : List Spn} {j : Nat} (h : j < (spns l).length) : (spns l)[j] = Spn.v (l[j]'(by simpa using h)) := by simp [spns]
@[simp] theorem wds_get {l : List Wd} {j : Nat} (h : j < (wds l).length) : (wds l)[j] = wdv (l[j]'(by simpa using h)) := by simp [wds]
@[simp] theorem strs_get {l : List (List UInt8)} {j : Nat} (h : j < (strs l).length) : (strs l)[j] = .t (l[j]'(by simpa using h)) := by simp [strs]
/-- A command. -/
structure Cmd where
  k : Int
  o : Ord
  id : Int
  rs : List Rec
  m : Int
  u : Int
  li : Int
  bu : Int
  ds : List Int
def Cmd.cs (c : Cmd) : List V := [.i c.k, .i c.o.a, .i c.o.b, .i c.o.c, .i c.o.d, AM.vs .dead 2 (spns c.o.os), .i c.id, AM.vs .dead 3 (recs c.rs), .i c.m, .i c.u, .i c.li, .i c.bu, AM.vs .dead 1 (ints c.ds)]
def Cmd.v (c : Cmd) : V := .agg c.cs
structure Cmd.wf (c : Cmd) : Prop where
  o : c.o.wf
  id : i64B c.id
  m : i64B c.m
  u : i64B c.u
  li : i64B c.li
  bu : i64B c.bu
  ds : ∀ n ∈ c.ds, i64B n
  nr : c.rs.length ≤ 1000
  nd : c.ds.length ≤ 1000
@[simp] theorem fgL_cmdc (c : Cmd) : fgL c.cs = c.cs := by simp [Cmd.cs]
@[simp] theorem fg_cmd (c : Cmd) : fg c.v = c.v := by simp [Cmd.v]
def recW : List UInt8 := [114, 101, 99, 111, 114, 100]
def cancelW : List UInt8 := [99, 97, 110, 99, 101, 108]
def tickW : List UInt8 := [116, 105, 99, 107]
def replanW : List UInt8 := [114, 101, 112, 108, 97, 110]
def showW : List UInt8 := [115, 104, 111, 119]
def recAll (l : List Rec) : Bool := l.all fun r => decide (recE r = 0)
def recL (id : Int) (l : List Rec) : List UInt8 := jn (numbersL recW [id] :: l.map lineR)
theorem numbersL_small {w : List UInt8} {l : List Int} (hw : w.length ≤ 100) (hl : ∀ n ∈ l, i64B n) (hn : l.length ≤ 1000000) : (numbersL w l).length ≤ 140737488355328 := by
  unfold numbersL
  refine jn_small (fun x hx => ?_) (by simp; omega)
  rcases List.mem_cons.1 hx with rfl | hx
  · exact hw
  · obtain ⟨n, h1, rfl⟩ := List.mem_map.1 hx
    exact itoa_len' (hl n h1)
theorem lineR_len {r : Rec} (h : recE r = 0) : (lineR r).length ≤ 100 := by
  obtain ⟨_, h2, h3, _⟩ := recE_ok h
  have := told_len' r.f r.t (inR_b h2) (inR_b h3)
  simp [lineR]; omega
theorem recL_small {id : Int} {l : List Rec} (hi : i64B id) (hl : recAll l = true) (hn : l.length ≤ 1000) : (recL id l).length ≤ 140737488355328 := by
  have e : recL id l = jn ((recW :: [Lib.itoa id]) ++ l.map lineR) := by
    unfold recL numbersL; rw [jn_flat _ _ (by simp)]; rfl
  rw [e]
  refine jn_small (fun x hx => ?_) (by simp; omega)
  rcases List.mem_append.1 hx with hx | hx
  · simp at hx
    rcases hx with rfl | rfl
    · decide
    · exact itoa_len' hi
  · obtain ⟨r, h1, rfl⟩ := List.mem_map.1 hx
    exact lineR_len (by simpa using List.all_eq_true.1 hl r h1)
theorem s35 {lo : Nat} {c : Cmd} {h : H} (hw : c.wf) : den cx lo 35 [c.v] h = some (if recAll c.rs = true then .tup [.t (recL c.id c.rs), .b (okAll [c.id])] else .tup [.t [], .b false], h) := by
  have hsm := fun hl => recL_small (l := c.rs) hw.id hl hw.nr
  have hnr := hw.nr
  have e33 := fun lo => s33 (lo := lo) (w := recW) (l := [c.id]) (h := h) (by simpa using hw.id) (by simp) (numbersL_small (by decide) (by simpa using hw.id) (by simp))
  have e34 := fun lo g => s34 (lo := lo) (l := [c.id]) (h := g) (by simp)
  clear hw
  obtain ⟨k, ⟨a, b, c, d, os⟩, id, rs, m, u, li, bu, ds⟩ := c
  simp only [ints, List.map_cons, List.map_nil, recW] at e33 e34 hsm hnr
  refine den_pure (fn := Tryz.f35) (by rfl) (by rfl) (by rfl) (by rfl) (by simp [Tryz.f35]) (by simp) ?_
  simp (disch := first | omega | (simp; done) | (simp; omega) | assumption) [Tryz.f35, argsE, Cmd.v, Cmd.cs, boxV, boxO, fresh_no, List.filter_cons, setB, aggN, op_build, List.set, elemsV, e33]
  clear e33
  obtain ⟨I, hI⟩ : ∃ I : Nat → List Ent → List (Nat × List V) → H → Prop, I = (fun n vs lb g => ∃ (j : Nat) (t : Tk), n + j = rs.length ∧ Apd h.length g t ∧ h.length ≤ g.length ∧ recAll (rs.take j) = true ∧ vs = [.v (.i j), .v (AM.vs t 1 (strs (numbersL recW [id] :: (rs.take j).map lineR)))] ∧ lb = [(1, [.i k, .i a, .i b, .i c, .i d, AM.vs .dead 2 (spns os), .i id, AM.vs .dead 3 (recs rs), .i m, .i u, .i li, .i bu, AM.vs .dead 1 (ints ds)])]) := ⟨_, rfl⟩
  refine Wp.loopQ I (n := rs.length) (by rw [hI]; exact ⟨0, .full, by simp, by simp, by simp, rfl, by simp [strs, recW], by simp⟩) ?_
  intro n vs lb g hi Q hQ; rw [hI] at hi; obtain ⟨j, t, hj, ha, hg, hr, rfl, rfl⟩ := hi
  by_cases hlt : j < rs.length
  · have e98 := fun lo => s98 (lo := lo) (r := rs[j]) (h := g)
    simp only [Rec.v] at e98
    by_cases q : recE rs[j] = 0
    · have go : I (n - 1) [.v (.i ((j : Int) + 1)), .v (AM.vs (.tip g.length) 1 (strs (numbersL recW [id] :: (rs.take j).map lineR) ++ [.t (lineR rs[j])]))] [(1, [.i k, .i a, .i b, .i c, .i d, AM.vs .dead 2 (spns os), .i id, AM.vs .dead 3 (recs rs), .i m, .i u, .i li, .i bu, AM.vs .dead 1 (ints ds)])] (apH g t) := by
        rw [hI]; exact ⟨j + 1, .tip g.length, by omega, Apd_ap hg, by simp; omega, take_all hlt (by simpa using q) hr, by rw [take_map_succ lineR hlt, ← List.cons_append, strs_snoc]; rfl, rfl⟩
      simp only [q, if_true] at e98
      clear hI hr
      generalize numbersL recW [id] = NL at *
      simp (disch := first | omega | (simp; done) | (simp; omega) | assumption) [Rec.v, isC, hlt, wrap64, boxV, boxO, fresh_no, List.filter_cons, setB, aggN, op_build, List.set, elemsV, e98]
      rw [← List.map_take]
      exact ⟨n - 1, by omega, go⟩
    · have hno : recAll rs = false := by
        unfold recAll; rw [List.all_eq_false]; exact ⟨_, List.getElem_mem hlt, by simpa using q⟩
      simp only [q, if_false] at e98
      clear hI hr
      generalize numbersL recW [id] = NL at *
      simp (disch := first | omega | (simp; done) | (simp; omega) | assumption) [Rec.v, isC, hlt, wrap64, boxV, boxO, fresh_no, List.filter_cons, setB, aggN, op_build, List.set, elemsV, e98, q]
      refine hQ _ _ ?_
      simp (disch := first | omega | (simp; done) | (simp; omega) | assumption) [Cl1_tup, Cl1_agg, Cl1_vs, hno]
  · obtain rfl : j = rs.length := by omega
    rw [List.take_length] at hr
    have hsm := hsm hr
    have e59 := fun lo g => s59 (lo := lo) (l := numbersL recW [id] :: rs.map lineR) (h := g) (by simp; omega) hsm
    clear hI
    simp (disch := first | omega | (simp; done) | (simp; omega) | assumption) []
    refine hQ _ _ ?_
    clear hQ hsm
    rw [if_pos hr]
    have er : recL id rs = jn (numbersL recW [id] :: rs.map lineR) := rfl
    rw [er]
    clear er
    generalize numbersL recW [id] = NL at *
    have e1 : (rs.map lineR).take rs.length = rs.map lineR := List.take_of_length_le (by simp)
    simp (disch := first | omega | (simp; done) | (simp; omega) | assumption) [e59, e34, Cl1_tup, Cl1_agg, Cl1_vs, boxV, boxO, fresh_no, List.filter_cons, setB, aggN, op_build, List.set, elemsV, foot, Op.operands, opTmps, e1]
    exact indep_of bf35_10 (by rfl)
end ZD
open Go Go.AM Go.Proofs Go.AM.Pl
set_option maxRecDepth 100000
set_option maxHeartbeats 4000000
namespace ZD
/-- Can a command be told? -/
def canR (c : Cmd) : Bool := if c.k = 1 then ordOk c.o else if c.k = 2 then okAll [c.id] else if c.k = 3 then recAll c.rs && okAll [c.id] else if c.k = 4 then okAll [c.m] else if c.k = 5 then okAll [c.u, c.li, c.bu] && okAll c.ds else decide (c.k = 6)
theorem s37 {lo : Nat} {c : Cmd} {h : H} (hw : c.wf) : den cx lo 37 [c.v] h = some (.b (canR c), h) := by
  have e100 := fun lo => s100 (lo := lo) (o := c.o) (h := h) (by have := hw.o.2.2.2.2.2; omega)
  have i1 := fun lo g => s101 (lo := lo) (l := [c.id]) (h := g) (by simp)
  have i2 := fun lo => s101 (lo := lo) (l := [c.m]) (h := h) (by simp)
  have i3 := fun lo => s101 (lo := lo) (l := [c.u, c.li, c.bu]) (h := h) (by simp)
  have i4 := fun lo => s101 (lo := lo) (l := c.ds) (h := h) (by have := hw.nd; omega)
  have hnr := hw.nr
  clear hw
  obtain ⟨k, ⟨a, b, c, d, os⟩, id, rs, m, u, li, bu, ds⟩ := c
  simp only [ints, List.map_cons, List.map_nil, Ord.v, Ord.cs] at e100 i1 i2 i3 hnr
  refine den_pure (fn := Tryz.f37) (by rfl) (by rfl) (by rfl) (by rfl) (by simp [Tryz.f37]) (by simp) ?_
  by_cases k1 : k = 1
  · subst k1
    simp (disch := first | omega | (simp; done) | (simp; omega) | assumption) [Tryz.f37, argsE, Cmd.v, Cmd.cs, boxV, boxO, fresh_no, List.filter_cons, setB, aggN, op_build, List.set, elemsV, e100, canR]
  by_cases k2 : k = 2
  · subst k2
    simp (disch := first | omega | (simp; done) | (simp; omega) | assumption) [Tryz.f37, argsE, Cmd.v, Cmd.cs, boxV, boxO, fresh_no, List.filter_cons, setB, aggN, op_build, List.set, elemsV, i1, canR]
  by_cases k4 : k = 4
  · subst k4
    simp (disch := first | omega | (simp; done) | (simp; omega) | assumption) [Tryz.f37, argsE, Cmd.v, Cmd.cs, boxV, boxO, fresh_no, List.filter_cons, setB, aggN, op_build, List.set, elemsV, i2, canR]
  by_cases k5 : k = 5
  · subst k5
    by_cases q : okAll [u, li, bu] = true <;> simp (disch := first | omega | (simp; done) | (simp; omega) | assumption) [Tryz.f37, argsE, Cmd.v, Cmd.cs, boxV, boxO, fresh_no, List.filter_cons, setB, aggN, op_build, List.set, elemsV, isC, i3, i4, q, canR]
  by_cases k3 : k = 3
  case neg =>
    simp (disch := first | omega | (simp; done) | (simp; omega) | assumption) [Tryz.f37, argsE, Cmd.v, Cmd.cs, boxV, boxO, fresh_no, List.filter_cons, setB, aggN, op_build, List.set, elemsV, k1, k2, k3, k4, k5, canR]
  subst k3
  simp (disch := first | omega | (simp; done) | (simp; omega) | assumption) [Tryz.f37, argsE, Cmd.v, Cmd.cs, boxV, boxO, fresh_no, List.filter_cons, setB, aggN, op_build, List.set, elemsV, canR]
  obtain ⟨I, hI⟩ : ∃ I : Nat → List Ent → List (Nat × List V) → H → Prop, I = (fun n vs lb g => ∃ (j : Nat), n + j = rs.length ∧ recAll (rs.take j) = true ∧ vs = [.v (.i j)] ∧ lb = [(1, [.i 3, .i a, .i b, .i c, .i d, AM.vs .dead 2 (spns os), .i id, AM.vs .dead 3 (recs rs), .i m, .i u, .i li, .i bu, AM.vs .dead 1 (ints ds)])] ∧ g = h) := ⟨_, rfl⟩
  refine Wp.loopQ I (n := rs.length) (by rw [hI]; exact ⟨0, by simp, rfl, by simp, by simp, by simp⟩) ?_
  intro n vs lb g hi Q hQ; rw [hI] at hi; obtain ⟨j, hj, hr, rfl, rfl, rfl⟩ := hi
  by_cases hlt : j < rs.length
  · have e102 := fun lo => s102 (lo := lo) (r := rs[j]) (h := g)
    have hs : ((recs rs).take (j + 1)).drop j = [(rs[j]).v] := by
      rw [List.drop_take]; simp only [Nat.add_sub_cancel_left]
      unfold recs
      rw [List.drop_eq_getElem_cons (by simpa using hlt)]; simp
    have hs' : ((recs rs).drop j).take 1 = [(rs[j]).v] := by
      unfold recs
      rw [List.drop_eq_getElem_cons (by simpa using hlt)]; simp
    have h1 : (j : Int) ≤ (j : Int) + 1 := by omega
    have h2 : (j : Int) + 1 ≤ (rs.length : Int) := by omega
    have h3 : ((j : Int) + 1).toNat = j + 1 := by omega
    by_cases q : recE rs[j] = 0
    · have go : I (n - 1) [.v (.i ((j : Int) + 1))] [(1, [.i 3, .i a, .i b, .i c, .i d, AM.vs .dead 2 (spns os), .i id, AM.vs .dead 3 (recs rs), .i m, .i u, .i li, .i bu, AM.vs .dead 1 (ints ds)])] g := by
        rw [hI]; exact ⟨j + 1, by omega, take_all hlt (by simpa using q) hr, by simp, rfl, rfl⟩
      clear hI hr
      simp (disch := first | omega | (simp; done) | (simp; omega) | assumption) [isC, hlt, wrap64, boxV, boxO, fresh_no, List.filter_cons, setB, aggN, op_build, List.set, hs, hs', h3, e102, q]
      exact ⟨n - 1, by omega, go⟩
    · have hno : recAll rs = false := by
        unfold recAll; rw [List.all_eq_false]; exact ⟨_, List.getElem_mem hlt, by simpa using q⟩
      clear hI hr
      simp (disch := first | omega | (simp; done) | (simp; omega) | assumption) [isC, hlt, wrap64, boxV, boxO, fresh_no, List.filter_cons, setB, aggN, op_build, List.set, hs, hs', h3, e102, q]
      refine hQ _ _ ?_
      simp (disch := first | omega | (simp; done) | (simp; omega) | assumption) [hno]
  · obtain rfl : j = rs.length := by omega
    rw [List.take_length] at hr
    clear hI
    simp (disch := first | omega | (simp; done) | (simp; omega) | assumption) []
    refine hQ _ _ ?_
    simp (disch := first | omega | (simp; done) | (simp; omega) | assumption) [boxV, boxO, fresh_no, List.filter_cons, setB, aggN, op_build, List.set, elemsV, i1, hr]
/-- A command's text. -/
def textC (c : Cmd) : List UInt8 := if c.k = 1 then c.o.l else if c.k = 2 then numbersL cancelW [c.id] else if c.k = 3 then recL c.id c.rs else if c.k = 4 then numbersL tickW [c.m] else if c.k = 5 then numbersL replanW (c.u :: c.li :: c.bu :: c.ds) else showW
/-- A command's line, or what is wrong. -/
def lineC (c : Cmd) : List UInt8 × Int := if c.k < 1 ∨ 6 < c.k then ([], 1) else if canR c = true then (textC c, 0) else ([], 7)
end ZD
open Go Go.AM Go.Proofs Go.AM.Pl
set_option maxRecDepth 100000
set_option maxHeartbeats 4000000
namespace ZD
theorem g99 {lo : Nat} {n : Int} {h : H} (h0 : 0 < n) (h1 : n ≤ 100000000) : den cx lo 99 [AM.vs .nil 0 [], .i n] h = some (.vsl (.tip h.length) 1 [], h ++ [.tip]) := grow_some (by rfl) (by rfl) (by rfl) h0 h1
theorem g99z {lo : Nat} {h : H} : den cx lo 99 [AM.vs .nil 0 [], .i 0] h = some (AM.vs .nil 0 [], h) := grow_zero (by rfl) (by rfl) (by rfl)
theorem sh99 : shuts cx 99 = false := by rfl
theorem ar26 {lo id : Nat} {st : St} {tk' : Tk} {l l' : List V} (hid : lo ≤ id) (hh : st.h[id]? = some .tip) (hne : l' ≠ []) (hlen : (l.length + l'.length) * 8 ≤ 70368744177664) : appendV cx lo st false 26 (.vsl (.tip id) 1 l) (AM.vs tk' 1 l') = some (.vsl (.tip st.h.length) 1 (l ++ l'), { st with h := apH st.h (.tip id) }) := append_room E26 hid hh hne hlen
theorem ar26z {lo id : Nat} {st : St} {tk' : Tk} {l : List V} : appendV cx lo st false 26 (.vsl (.tip id) 1 l) (AM.vs tk' 1 []) = some (.vsl (.tip id) 1 l, st) := append_room0 E26
def rws (ls : List (List Int)) : List V := ls.map fun l => AM.vs .dead 1 (ints l)
@[simp] theorem fg_row1 (l : List Int) : fg (AM.vs .dead 1 (ints l)) = AM.vs .dead 1 (ints l) := by rw [fg_vs, fgL_ints]
@[simp] theorem fgL_rws (ls : List (List Int)) : fgL (rws ls) = rws ls := fgL_mapE _ (fun x => fg_row1 x) ls
theorem Cl1_room {h : H} {n w : Nat} {t : Tk} {l : List V} (e : l.all (clo 11) = true) : Cl1 h n (.vsl t w l) = some (AM.vs .dead w (fgL l)) := by
  rw [Cl1_clo (v := .vsl t w l) (by rw [show sealDepth = 11 + 1 from rfl, clo_vsl]; exact e)]; rfl
/-- The row under way. -/
def Cat (h g : H) (full : Bool) (X : V) (out : List Int) : Prop := (full = false ∧ out = [] ∧ X = AM.vs .nil 0 []) ∨ (full = true ∧ ∃ id, X = .vsl (.tip id) 1 (ints out) ∧ h.length ≤ id ∧ g[id]? = some .tip)
@[simp] theorem rws_len (ls : List (List Int)) : (rws ls).length = ls.length := by simp [rws]
theorem ints_app (l m : List Int) : ints (l ++ m) = ints l ++ ints m := by simp [ints]
def sm (ls : List (List Int)) : Nat := ls.flatten.length
theorem sm_succ {ls : List (List Int)} {j : Nat} (hj : j < ls.length) : sm (ls.take (j + 1)) = sm (ls.take j) + ls[j].length := by
  unfold sm; rw [List.take_succ_eq_append_getElem hj, List.flatten_append, List.length_append]; simp
theorem sm_le (ls : List (List Int)) (j : Nat) : sm (ls.take j) ≤ sm ls := by
  have : ls.flatten.length = (ls.take j).flatten.length + (ls.drop j).flatten.length := by
    rw [← List.length_append, ← List.flatten_append, List.take_append_drop]
  unfold sm; omega
/-- slices.Concat. -/
theorem s36 {lo : Nat} {ls : List (List Int)} {h : H} (hl : ls.flatten.length ≤ 1000000) (hn : ls.length ≤ 1000000) : den cx lo 36 [AM.vs .dead 1 (rws ls)] h = some (AM.vs .dead 1 (ints ls.flatten), h) := by
  replace hl : sm ls ≤ 1000000 := hl
  refine den_pure (fn := Tryz.f36) (by rfl) (by rfl) (by rfl) (by rfl) (by simp [Tryz.f36]) (by simp) ?_
  simp (disch := first | omega | (simp; done) | (simp; omega) | assumption) [Tryz.f36, argsE]
  obtain ⟨I, hI⟩ : ∃ I : Nat → List Ent → List (Nat × List V) → H → Prop, I = (fun n vs lb g => ∃ j : Nat, n + j = ls.length ∧ vs = [.v (.i j), .v (.i (sm (ls.take j) : Nat))] ∧ lb = [] ∧ g = h) := ⟨_, rfl⟩
  refine Wp.loopQ I (n := ls.length) (by rw [hI]; exact ⟨0, by simp, by simp [sm], by simp, by simp⟩) ?_
  intro n vs lb g hi Q hQ; rw [hI] at hi; obtain ⟨j, hj, rfl, rfl, rfl⟩ := hi
  by_cases hlt : j < ls.length
  · have go : I (n - 1) [.v (.i ((j : Int) + 1)), .v (.i ((sm (ls.take j) : Nat) + (ls[j].length : Nat)))] [] g := by
      rw [hI]; exact ⟨j + 1, by omega, by rw [sm_succ hlt]; simp, rfl, rfl⟩
    have h1 := sm_le ls (j + 1)
    rw [sm_succ hlt] at h1
    clear hI
    generalize sm (ls.take j) = S at *
    have hr : (rws ls)[j]'(by simpa using hlt) = AM.vs .dead 1 (ints ls[j]) := by simp [rws]
    simp (disch := first | omega | (simp; done) | (simp; omega) | assumption) [hr, isC, hlt, wrap64]
    exact ⟨n - 1, by omega, go⟩
  obtain rfl : n = 0 := by omega
  obtain rfl : j = ls.length := by omega
  clear hI
  rw [List.take_length]
  simp (disch := first | omega | (simp; done) | (simp; omega) | assumption) []
  refine hQ _ _ ?_
  clear hQ Q I hj hlt
  obtain ⟨full, X0, g0, e99, hg0, hX0, hf⟩ : ∃ (full : Bool) (X0 : V) (g0 : H), den cx g.length 99 [AM.vs .nil 0 [], .i (sm ls : Nat)] g = some (X0, g0) ∧ g.length ≤ g0.length ∧ Cat g g0 full X0 [] ∧ (full = false → sm ls = 0) := by
    by_cases hz : sm ls = 0
    · exact ⟨false, _, g, by rw [hz]; exact g99z, Nat.le_refl _, .inl ⟨rfl, rfl, rfl⟩, fun _ => hz⟩
    · exact ⟨true, _, _, g99 (by omega) (by omega), by simp, .inr ⟨rfl, g.length, rfl, Nat.le_refl _, by simp⟩, fun h => by cases h⟩
  have hv : (Ent.v X0).val = some X0 := by
    rcases hX0 with ⟨_, _, rfl⟩ | ⟨_, id, rfl, _⟩ <;> rfl
  simp (disch := first | omega | (simp; done) | (simp; omega) | assumption) [e99, hv, sh99]
  obtain ⟨I, hI⟩ : ∃ I : Nat → List Ent → List (Nat × List V) → H → Prop, I = (fun n vs lb g' => ∃ (j : Nat) (X : V), n + j = ls.length ∧ vs = [.v (.i j), .v X] ∧ lb = [] ∧ g.length ≤ g'.length ∧ Cat g g' full X (ls.take j).flatten) := ⟨_, rfl⟩
  refine Wp.loopQ I (n := ls.length) (by rw [hI]; exact ⟨0, X0, by simp, by simp, by simp, by simpa using hg0, by simpa using hX0⟩) ?_
  clear hX0 e99 hg0 hv
  intro n vs lb g' hi Q hQ; rw [hI] at hi; obtain ⟨j, X, hj, rfl, rfl, hg', hX⟩ := hi
  have hv : (Ent.v X).val = some X := by
    rcases hX with ⟨_, _, rfl⟩ | ⟨_, id, rfl, _⟩ <;> rfl
  by_cases hlt : j < ls.length
  · have hr : (rws ls)[j]'(by simpa using hlt) = AM.vs .dead 1 (ints ls[j]) := by simp [rws]
    have h1 := sm_le ls (j + 1)
    rw [sm_succ hlt] at h1
    have hfl : (ls.take (j + 1)).flatten = (ls.take j).flatten ++ ls[j] := by rw [List.take_succ_eq_append_getElem hlt, List.flatten_append]; simp
    have hsm : (ls.take j).flatten.length = sm (ls.take j) := rfl
    have same : ls[j] = [] → I (n - 1) [.v (.i ((j : Int) + 1)), .v X] [] g' := by
      intro he; rw [hI]; exact ⟨j + 1, X, by omega, by simp, rfl, hg', by rw [hfl, he, List.append_nil]; exact hX⟩
    by_cases he : ls[j] = []
    · have same := same he
      have hr' : (rws ls)[j]'(by simpa using hlt) = AM.vs .dead 0 [] := by rw [hr, he]; rfl
      have hap : ∀ st : St, st.h = g' → appendV cx g.length st false 26 X (AM.vs .dead 0 []) = some (X, st) := by
        intro st hst
        rcases hX with ⟨_, _, rfl⟩ | ⟨_, id, rfl, _⟩
        · exact append_nil0 E26
        · exact ar26z
      clear hI
      simp (disch := first | omega | (simp; done) | (simp; omega) | assumption) [hr', isC, hlt, wrap64, hv, hap]
      exact ⟨n - 1, by omega, same⟩
    · have hpos : 0 < ls[j].length := List.length_pos_iff.2 he
      obtain ⟨hfu, id, rfl, hid, hh⟩ : full = true ∧ ∃ id, X = .vsl (.tip id) 1 (ints (ls.take j).flatten) ∧ g.length ≤ id ∧ g'[id]? = some .tip := by
        rcases hX with ⟨h0, _, _⟩ | h0
        · have := hf h0; omega
        · exact h0
      have hap : ∀ st : St, st.h = g' → appendV cx g.length st false 26 (.vsl (.tip id) 1 (ints (ls.take j).flatten)) (AM.vs .dead 1 (ints ls[j])) = some (.vsl (.tip g'.length) 1 (ints (ls.take j).flatten ++ ints ls[j]), { st with h := apH g' (.tip id) }) := by
        intro st hst
        have := ar26 (st := st) (tk' := .dead) (l := ints (ls.take j).flatten) (l' := ints ls[j]) hid (by rw [hst]; exact hh) (by simpa [ints] using he) (by rw [ints_len, ints_len, hsm]; omega)
        rw [hst] at this; exact this
      have go : I (n - 1) [.v (.i ((j : Int) + 1)), .v (.vsl (.tip g'.length) 1 (ints (ls.take j).flatten ++ ints ls[j]))] [] (apH g' (.tip id)) := by
        rw [hI]
        exact ⟨j + 1, .vsl (.tip g'.length) 1 (ints (ls.take j).flatten ++ ints ls[j]), by omega, by simp, rfl, by simp; omega, .inr ⟨hfu, g'.length, by rw [hfl, ints_app], hg', by simp [apH]⟩⟩
      clear hI
      simp (disch := first | omega | (simp; done) | (simp; omega) | assumption) [hr, isC, hlt, wrap64, hv, hap]
      exact ⟨n - 1, by omega, go⟩
  · obtain rfl : n = 0 := by omega
    obtain rfl : j = ls.length := by omega
    rw [List.take_length] at hX
    clear hI
    simp (disch := first | omega | (simp; done) | (simp; omega) | assumption) [hv]
    refine hQ _ _ ?_
    clear hQ
    have hc : Cl1 g' g.length X = some (AM.vs .dead 1 (ints ls.flatten)) := by
      rcases hX with ⟨_, h2, rfl⟩ | ⟨_, id, rfl, _⟩
      · rw [h2]; rw [Cl1_vs (by simp)]; rfl
      · rw [Cl1_room (by simp [ints]), fgL_ints]
    simp (disch := first | omega | (simp; done) | (simp; omega) | assumption) [hv, hc]
end ZD
open Go Go.AM Go.Proofs Go.AM.Pl
set_option maxRecDepth 100000
set_option maxHeartbeats 4000000
namespace ZD
def lineV (x : List UInt8 × Int) : V := .tup [.t x.1, .i x.2]
theorem d36 {lo : Nat} {a b : List Int} {h : H} (hl : a.length + b.length ≤ 1000000) : den cx lo 36 [AM.vs .dead 1 [AM.vs .dead 1 (ints a), AM.vs .dead 1 (ints b)]] h = some (AM.vs .dead 1 (ints (a ++ b)), h) := by
  have := s36 (lo := lo) (ls := [a, b]) (h := h) (by simpa using hl) (by simp)
  simpa [rws] using this
theorem s12 {lo : Nat} {c : Cmd} {h : H} (hw : c.wf) : den cx lo 12 [c.v] h = some (lineV (lineC c), h) := by
  have hn1 : ∀ w : List UInt8, w.length ≤ 100 → ∀ lo g, den cx lo 33 [.t w, AM.vs .dead 1 [.i c.id]] g = some (.t (numbersL w [c.id]), g) := fun w h lo g => s33 (w := w) (l := [c.id]) (by simpa using hw.id) (by simp) (numbersL_small h (by simpa using hw.id) (by simp))
  have hn2 : ∀ w : List UInt8, w.length ≤ 100 → ∀ lo g, den cx lo 33 [.t w, AM.vs .dead 1 [.i c.m]] g = some (.t (numbersL w [c.m]), g) := fun w h lo g => s33 (w := w) (l := [c.m]) (by simpa using hw.m) (by simp) (numbersL_small h (by simpa using hw.m) (by simp))
  have hn3 : ∀ lo g, den cx lo 33 [.t replanW, AM.vs .dead 1 (ints ([c.u, c.li, c.bu] ++ c.ds))] g = some (.t (numbersL replanW (c.u :: c.li :: c.bu :: c.ds)), g) := fun lo g => s33 (w := replanW) (l := c.u :: c.li :: c.bu :: c.ds) (by simpa using ⟨hw.u, hw.li, hw.bu, hw.ds⟩) (by have := hw.nd; simp; omega) (numbersL_small (by decide) (by simpa using ⟨hw.u, hw.li, hw.bu, hw.ds⟩) (by have := hw.nd; simp; omega))
  have p1 := fun lo g => s34 (lo := lo) (l := [c.id]) (h := g) (by simp)
  have p2 := fun lo g => s34 (lo := lo) (l := [c.m]) (h := g) (by simp)
  have p3 := fun lo g => s34 (lo := lo) (l := [c.u, c.li, c.bu] ++ c.ds) (h := g) (by have := hw.nd; simp; omega)
  have cat := fun lo g => d36 (lo := lo) (a := [c.u, c.li, c.bu]) (b := c.ds) (h := g) (by have := hw.nd; simp; omega)
  have e32 := fun lo => s32 (lo := lo) (o := c.o) (h := h) hw.o
  have e35 := fun lo => s35 (lo := lo) (c := c) (h := h) hw
  clear hw
  obtain ⟨k, ⟨a, b, c, d, os⟩, id, rs, m, u, li, bu, ds⟩ := c
  have hok : okAll ([u, li, bu] ++ ds) = (okAll [u, li, bu] && okAll ds) := by unfold okAll; rw [List.all_append]
  simp only [Cmd.v, Cmd.cs, Ord.v, Ord.cs] at *
  simp only [ints, List.map_cons, List.map_nil] at p1 p2
  have cat' : ∀ lo g, den cx lo 36 [AM.vs .dead 1 [AM.vs .dead 1 [.i u, .i li, .i bu], AM.vs .dead 1 (ints ds)]] g = some (AM.vs .dead 1 (ints ([u, li, bu] ++ ds)), g) := cat
  have hn3' : ∀ lo g, den cx lo 33 [.t [114, 101, 112, 108, 97, 110], AM.vs .dead 1 (ints ([u, li, bu] ++ ds))] g = some (.t (numbersL replanW (u :: li :: bu :: ds)), g) := hn3
  have hc := hn1 cancelW (by decide)
  have ht := hn2 tickW (by decide)
  simp only [cancelW, tickW] at hc ht
  clear cat hn1 hn2 hn3
  generalize ([u, li, bu] ++ ds) = L at *
  refine den_pure (fn := Tryz.f12) (by rfl) (by rfl) (by rfl) (by rfl) (by simp [Tryz.f12]) (by simp) ?_
  by_cases k1 : k = 1
  · subst k1
    by_cases q : ordOk ⟨a, b, c, d, os⟩ = true <;> simp only [q, if_true, if_false] at e32 <;> simp (disch := first | omega | (simp; done) | (simp; omega) | assumption) [Tryz.f12, argsE, boxV, boxO, fresh_no, List.filter_cons, setB, aggN, op_build, List.set, elemsV, e32, q, canR, lineV, lineC, textC, Cl1_tup, Cl1_agg, Cl1_vs]
  by_cases k2 : k = 2
  · subst k2
    by_cases q : okAll [id] = true <;> simp (disch := first | omega | (simp; done) | (simp; omega) | assumption) [Tryz.f12, argsE, boxV, boxO, fresh_no, List.filter_cons, setB, aggN, op_build, List.set, elemsV, hc, p1, q, canR, lineV, lineC, textC, Cl1_tup, Cl1_agg, Cl1_vs, foot, Op.operands, opTmps, cancelW]
    all_goals exact indep_of bf12_8 (by rfl)
  by_cases k4 : k = 4
  · subst k4
    by_cases q : okAll [m] = true <;> simp (disch := first | omega | (simp; done) | (simp; omega) | assumption) [Tryz.f12, argsE, boxV, boxO, fresh_no, List.filter_cons, setB, aggN, op_build, List.set, elemsV, ht, p2, q, canR, lineV, lineC, textC, Cl1_tup, Cl1_agg, Cl1_vs, foot, Op.operands, opTmps, tickW]
    all_goals exact indep_of bf12_12 (by rfl)
  by_cases k5 : k = 5
  · subst k5
    by_cases q : okAll [u, li, bu] = true <;> by_cases q2 : okAll ds = true <;> simp (disch := first | omega | (simp; done) | (simp; omega) | assumption) [Tryz.f12, argsE, boxV, boxO, fresh_no, List.filter_cons, setB, aggN, op_build, List.set, elemsV, cat', hn3', p3, hok, q, q2, canR, lineV, lineC, textC, Cl1_tup, Cl1_agg, Cl1_vs]
  by_cases k3 : k = 3
  · subst k3
    by_cases q : recAll rs = true <;> simp only [q, if_true, if_false] at e35 <;> by_cases q2 : okAll [id] = true <;> simp (disch := first | omega | (simp; done) | (simp; omega) | assumption) [Tryz.f12, argsE, boxV, boxO, fresh_no, List.filter_cons, setB, aggN, op_build, List.set, elemsV, e35, q, q2, canR, lineV, lineC, textC, Cl1_tup, Cl1_agg, Cl1_vs]
  by_cases k6 : k = 6
  · subst k6
    simp (disch := first | omega | (simp; done) | (simp; omega) | assumption) [Tryz.f12, argsE, boxV, boxO, fresh_no, List.filter_cons, setB, aggN, op_build, List.set, canR, lineV, lineC, textC, Cl1_tup, Cl1_agg, Cl1_vs, showW]
  have : k < 1 ∨ 6 < k := by omega
  simp (disch := first | omega | (simp; done) | (simp; omega) | assumption) [Tryz.f12, argsE, boxV, boxO, fresh_no, List.filter_cons, setB, aggN, op_build, List.set, k1, k2, k3, k4, k5, k6, lineV, lineC, this, Cl1_tup, Cl1_agg, Cl1_vs]
theorem append_empty {c : Cx} {lo : Nat} {st : St} {t : TypeId} {w b w0 : Nat} {m : Bool} {tk tk' : Tk} {l : List V} (E : ElT c t w b) : appendV c lo st m t (AM.vs tk w l) (AM.vs tk' w0 []) = some (AM.vs tk w l, st) := by
  obtain ⟨⟨e, e1, e2, e3, z, e4, e5⟩, w0', b0⟩ := E
  have a1 := asl_vs (t := tk) (l := l) (w := w) (.inl rfl)
  have a2 : newV w (AM.vs tk' w0 []) = some [] := by
    have := asl_vs (w := w) (w' := w0) (t := tk') (l := []) (.inr rfl)
    unfold newV
    simp only [AM.vs] at this ⊢
    rw [this]; rfl
  unfold appendV
  simp only [e1, e2, e3, e4, Option.bind_eq_bind, Option.bind_some, a2]
  rw [if_neg (by simp [w0', b0, e5])]
  simp only [AM.vs] at a1 ⊢
  simp [a1]
theorem ints_nil : ints [] = [] := rfl
theorem numbersL_cons {w : List UInt8} {l : List Int} : numbersL w l = jn (w :: l.map Lib.itoa) := rfl
theorem s14 {lo : Nat} {c : Cmd} {h : H} (hw : c.wf) : den cx lo 14 [c.v] h = some (lineV (lineC c), h) := by
  have hn1 : ∀ w : List UInt8, w.length ≤ 100 → ∀ lo g, den cx lo 39 [.t w, AM.vs .dead 1 [.i c.id]] g = some (.t (numbersL w [c.id]), g) := fun w h lo g => s39 (w := w) (l := [c.id]) (by simpa using hw.id) (by simp) (numbersL_small h (by simpa using hw.id) (by simp))
  have hn2 : ∀ w : List UInt8, w.length ≤ 100 → ∀ lo g, den cx lo 39 [.t w, AM.vs .dead 1 [.i c.m]] g = some (.t (numbersL w [c.m]), g) := fun w h lo g => s39 (w := w) (l := [c.m]) (by simpa using hw.m) (by simp) (numbersL_small h (by simpa using hw.m) (by simp))
  have hn3 : ∀ lo g, den cx lo 39 [.t replanW, AM.vs .dead 1 (ints ([c.u, c.li, c.bu] ++ c.ds))] g = some (.t (numbersL replanW (c.u :: c.li :: c.bu :: c.ds)), g) := fun lo g => s39 (w := replanW) (l := c.u :: c.li :: c.bu :: c.ds) (by simpa using ⟨hw.u, hw.li, hw.bu, hw.ds⟩) (by have := hw.nd; simp; omega) (numbersL_small (by decide) (by simpa using ⟨hw.u, hw.li, hw.bu, hw.ds⟩) (by have := hw.nd; simp; omega))
  have e37 := fun lo => s37 (lo := lo) (c := c) (h := h) hw
  have e38 := fun lo => s38 (lo := lo) (o := c.o) (h := h) hw.o
  have hid := hw.id
  have hnr := hw.nr
  have hnd := hw.nd
  clear hw
  obtain ⟨k, ⟨a, b, c, d, os⟩, id, rs, m, u, li, bu, ds⟩ := c
  simp only [Cmd.v, Cmd.cs, Ord.v, Ord.cs] at *
  have hn3' : ∀ lo g, den cx lo 39 [.t [114, 101, 112, 108, 97, 110], AM.vs .dead 1 (.i u :: .i li :: .i bu :: ints ds)] g = some (.t (numbersL replanW (u :: li :: bu :: ds)), g) := hn3
  have hc := hn1 cancelW (by decide)
  have hr := hn1 recW (by decide)
  have ht := hn2 tickW (by decide)
  simp only [cancelW, tickW, recW] at hc ht hr
  clear hn1 hn2 hn3
  refine den_pure (fn := Tryz.f14) (by rfl) (by rfl) (by rfl) (by rfl) (by simp [Tryz.f14]) (by simp) ?_
  by_cases o1 : k < 1
  · simp (disch := first | omega | (simp; done) | (simp; omega) | assumption) [Tryz.f14, argsE, boxV, boxO, fresh_no, List.filter_cons, setB, aggN, op_build, List.set, isC, o1, lineV, lineC, Cl1_tup, Cl1_agg, Cl1_vs]
  by_cases o6 : 6 < k
  · simp (disch := first | omega | (simp; done) | (simp; omega) | assumption) [Tryz.f14, argsE, boxV, boxO, fresh_no, List.filter_cons, setB, aggN, op_build, List.set, isC, o1, o6, lineV, lineC, Cl1_tup, Cl1_agg, Cl1_vs]
  by_cases hcan : canR ⟨k, ⟨a, b, c, d, os⟩, id, rs, m, u, li, bu, ds⟩ = true
  case neg => simp (disch := first | omega | (simp; done) | (simp; omega) | assumption) [Tryz.f14, argsE, boxV, boxO, fresh_no, List.filter_cons, setB, aggN, op_build, List.set, isC, o1, o6, e37, hcan, lineV, lineC, Cl1_tup, Cl1_agg, Cl1_vs]
  have hl : lineC ⟨k, ⟨a, b, c, d, os⟩, id, rs, m, u, li, bu, ds⟩ = (textC ⟨k, ⟨a, b, c, d, os⟩, id, rs, m, u, li, bu, ds⟩, 0) := by
    unfold lineC; rw [if_neg (by simp; omega), if_pos hcan]
  rw [hl]
  rw [hcan] at e37
  clear hl
  by_cases k1 : k = 1
  · subst k1
    clear hcan
    simp (disch := first | omega | (simp; done) | (simp; omega) | assumption) [Tryz.f14, argsE, boxV, boxO, fresh_no, List.filter_cons, setB, aggN, op_build, List.set, isC, e37, e38, lineV, textC, Cl1_tup, Cl1_agg, Cl1_vs]
  by_cases k2 : k = 2
  · subst k2
    clear hcan
    simp (disch := first | omega | (simp; done) | (simp; omega) | assumption) [Tryz.f14, argsE, boxV, boxO, fresh_no, List.filter_cons, setB, aggN, op_build, List.set, isC, elemsV, e37, hc, lineV, textC, Cl1_tup, Cl1_agg, Cl1_vs, cancelW]
  by_cases k4 : k = 4
  · subst k4
    clear hcan
    simp (disch := first | omega | (simp; done) | (simp; omega) | assumption) [Tryz.f14, argsE, boxV, boxO, fresh_no, List.filter_cons, setB, aggN, op_build, List.set, isC, elemsV, e37, ht, lineV, textC, Cl1_tup, Cl1_agg, Cl1_vs, tickW]
  by_cases k6 : k = 6
  · subst k6
    clear hcan
    simp (disch := first | omega | (simp; done) | (simp; omega) | assumption) [Tryz.f14, argsE, boxV, boxO, fresh_no, List.filter_cons, setB, aggN, op_build, List.set, isC, e37, lineV, textC, Cl1_tup, Cl1_agg, Cl1_vs, showW]
  by_cases k5 : k = 5
  · subst k5
    clear hcan
    by_cases hds : ds = []
    · subst hds
      simp only [ints_nil, vs_succ] at e37 hn3' ⊢
      have ape := fun (st : St) (t : Tk) (l : List V) (w0 : Nat) => append_empty (lo := h.length) (st := st) (m := false) (tk := t) (tk' := .dead) (w0 := w0) (l := l) E26
      simp (disch := first | omega | (simp; done) | (simp; omega) | assumption) [Tryz.f14, argsE, boxV, boxO, fresh_no, List.filter_cons, setB, aggN, op_build, List.set, isC, elemsV, e37, hn3', lineV, textC, Cl1_tup, Cl1_agg, Cl1_vs, ape, ints_nil]
    · have hne : ints ds ≠ [] := by simpa [ints] using hds
      simp (disch := first | omega | (simp; done) | (simp; omega) | assumption) [Tryz.f14, argsE, boxV, boxO, fresh_no, List.filter_cons, setB, aggN, op_build, List.set, isC, elemsV, e37, hn3', lineV, textC, Cl1_tup, Cl1_agg, Cl1_vs, hne]
  obtain rfl : k = 3 := by omega
  have hall : recAll rs = true := by simp [canR] at hcan; exact hcan.1
  clear hcan
  have hsm := recL_small (id := id) (l := rs) hid hall hnr
  have hstep : ∀ {j : Nat}, (hj : j < rs.length) → jn (numbersL recW [id] :: (rs.take (j + 1)).map lineR) = jn (numbersL recW [id] :: (rs.take j).map lineR) ++ 32 :: lineR rs[j] := fun hj => by
    rw [take_map_succ lineR hj, ← List.cons_append, jn_snoc _ _ (by simp)]
  have hpre : ∀ j : Nat, (jn (numbersL recW [id] :: (rs.take j).map lineR)).length ≤ 140737488355328 := fun j => by
    have := jn_take_le (numbersL recW [id] :: rs.map lineR) (j + 1)
    rw [List.take_succ_cons, ← List.map_take] at this
    exact Nat.le_trans this hsm
  clear hc ht hn3' e38
  simp (disch := first | omega | (simp; done) | (simp; omega) | assumption) [Tryz.f14, argsE, boxV, boxO, fresh_no, List.filter_cons, setB, aggN, op_build, List.set, isC, elemsV, e37, hr]
  clear e37
  obtain ⟨I, hI⟩ : ∃ I : Nat → List Ent → List (Nat × List V) → H → Prop, I = (fun n vs lb g => ∃ (j : Nat), n + j = rs.length ∧ vs = [.v (.i j), .v (.t (jn (numbersL recW [id] :: (rs.take j).map lineR)))] ∧ lb = [(1, [.i 3, .i a, .i b, .i c, .i d, AM.vs .dead 2 (spns os), .i id, AM.vs .dead 3 (recs rs), .i m, .i u, .i li, .i bu, AM.vs .dead 1 (ints ds)])] ∧ g = h) := ⟨_, rfl⟩
  refine Wp.loopQ I (n := rs.length) (by rw [hI]; exact ⟨0, by simp, by simp [jn_one, recW], by simp, by simp⟩) ?_
  intro n vs lb g hi Q hQ; rw [hI] at hi; obtain ⟨j, hj, rfl, rfl, rfl⟩ := hi
  by_cases hlt : j < rs.length
  · have hrec : recE rs[j] = 0 := by simpa using List.all_eq_true.1 hall _ (List.getElem_mem hlt)
    obtain ⟨q1, q2, q3, q4⟩ := recE_ok hrec
    have e40 := fun lo => s40 (lo := lo) (k := (rs[j]).k) (h := g) q1
    have e41 := fun lo => s41 (lo := lo) (s := ⟨(rs[j]).f, (rs[j]).t⟩) (h := g) (inR_b q2) (inR_b q3)
    simp only [Spn.v] at e41
    have tl := told_len' (rs[j]).f (rs[j]).t (inR_b q2) (inR_b q3)
    have hs := hstep hlt
    have hp := hpre j
    have go : I (n - 1) [.v (.i ((j : Int) + 1)), .v (.t (jn (numbersL recW [id] :: (rs.take j).map lineR) ++ 32 :: lineR rs[j]))] [(1, [.i 3, .i a, .i b, .i c, .i d, AM.vs .dead 2 (spns os), .i id, AM.vs .dead 3 (recs rs), .i m, .i u, .i li, .i bu, AM.vs .dead 1 (ints ds)])] g := by
      rw [hI]; exact ⟨j + 1, by omega, by rw [hs]; rfl, rfl, rfl⟩
    clear hI hstep hpre hs hsm
    simp only [lineR] at go
    rw [List.map_take] at go hp
    simp (disch := first | omega | (simp; done) | (simp; omega) | assumption) [Rec.v, isC, hlt, wrap64, boxV, boxO, fresh_no, List.filter_cons, setB, aggN, op_build, List.set, elemsV, e40, e41, add_str, foot, Op.operands, opTmps]
    refine ⟨indep_of bf14_16 (by rfl), ?_⟩
    exact ⟨n - 1, by omega, go⟩
  · obtain rfl : j = rs.length := by omega
    clear hI
    simp (disch := first | omega | (simp; done) | (simp; omega) | assumption) []
    refine hQ _ _ ?_
    have er : jn (numbersL recW [id] :: rs.map lineR) = recL id rs := rfl
    rw [er]
    simp (disch := first | omega | (simp; done) | (simp; omega) | assumption) [lineV, textC, Cl1_tup, Cl1_agg, Cl1_vs]
end ZD
open Go Go.AM Go.Proofs Go.AM.Pl
set_option maxRecDepth 100000
set_option maxHeartbeats 4000000
namespace ZD
theorem one9_no {i : Nat} {w : List UInt8} : one9 (-1) i w = numR w M9 := by
  unfold one9; rw [if_neg (by omega)]
theorem s105 {lo : Nat} {ws : List Wd} {h : H} (h1 : ws.length ≤ 100000000) (h2 : ∀ x ∈ ws, x.2.length ≤ 4294967280) : den cx lo 105 [AM.vs .dead 2 (wds ws)] h = some (numV (numsR (-1) 0 (ws.map (·.2)) []), h) := by
  refine den_pure (fn := Tryz.f105) (by rfl) (by rfl) (by rfl) (by rfl) (by simp [Tryz.f105]) (by simp) ?_
  simp (disch := first | omega | (simp; done) | (simp; omega) | assumption) [Tryz.f105, argsE]
  obtain ⟨I, hI⟩ : ∃ I : Nat → List Ent → List (Nat × List V) → H → Prop, I = (fun n vs lb g => ∃ (j : Nat) (t : Tk) (out : List Int), n + j = ws.length ∧ out.length ≤ j ∧ Apd h.length g t ∧ h.length ≤ g.length ∧ numsR (-1) 0 (ws.map (·.2)) [] = numsR (-1) j ((ws.drop j).map (·.2)) out ∧ vs = [.v (.i j), .v (AM.vs t 1 (ints out))] ∧ lb = []) := ⟨_, rfl⟩
  refine Wp.loopQ I (n := ws.length) (by rw [hI]; exact ⟨0, .nil, [], by simp, by simp, by simp, by simp, by simp, by simp [ints], by simp⟩) ?_
  intro n vs lb g hi Q hQ; rw [hI] at hi; obtain ⟨j, t, out, hj, ho, ha, hg, he, rfl, rfl⟩ := hi
  by_cases hlt : j < ws.length
  case neg =>
    obtain rfl : j = ws.length := by omega
    rw [List.drop_of_length_le (Nat.le_refl _)] at he
    simp only [List.map_nil, numsR] at he
    clear hI
    simp (disch := first | omega | (simp; done) | (simp; omega) | assumption) []
    refine hQ _ _ ?_
    rw [he]
    simp (disch := first | omega | (simp; done) | (simp; omega) | assumption) [Cl1_tup, Cl1_agg, Cl1_vs, numV]
  have hwl := h2 _ (List.getElem_mem hlt)
  have hwl' : (ws[j]).2.length ≤ 140737488355328 := by omega
  rw [List.drop_eq_getElem_cons hlt] at he
  simp only [List.map_cons, numsR, one9_no] at he
  by_cases h3 : (numR (ws[j]).2 M9).2 = 0
  · rw [if_pos h3] at he
    have go : I (n - 1) [.v (.i ((j : Int) + 1)), .v (AM.vs (.tip g.length) 1 (ints out ++ [.i (numR (ws[j]).2 M9).1]))] [] (apH g t) := by
      rw [hI]; exact ⟨j + 1, .tip g.length, out ++ [(numR (ws[j]).2 M9).1], by omega, by simp; omega, Apd_ap hg, by simp; omega, he, by rw [ints_snoc]; simp, rfl⟩
    clear hI he
    simp only [M9] at h3 go
    simp (disch := first | omega | (simp; done) | (simp; omega) | assumption) [isC, boxV, boxO, fresh_no, List.filter_cons, setB, aggN, op_build, List.set, wdv, wrap64, hlt, s147, h3, hwl', elemsV]
    exact ⟨n - 1, by omega, go⟩
  · rw [if_neg h3] at he
    clear hI
    simp only [M9] at h3 he
    simp (disch := first | omega | (simp; done) | (simp; omega) | assumption) [isC, boxV, boxO, fresh_no, List.filter_cons, setB, aggN, op_build, List.set, wdv, wrap64, hlt, s147, h3, hwl']
    refine hQ _ _ ?_
    rw [he]
    simp (disch := first | omega | (simp; done) | (simp; omega) | assumption) [Cl1_tup, Cl1_agg, Cl1_vs, numV, ints]
def zo : Ord := ⟨0, 0, 0, 0, []⟩
def zc : Cmd := ⟨0, zo, 0, [], 0, 0, 0, 0, []⟩
def cmdV (x : Cmd × Int) : V := .tup [x.1.v, .i x.2]
def C2 (x : List Int) : Cmd := ⟨2, zo, x.getD 0 0, [], 0, 0, 0, 0, []⟩
def C4 (x : List Int) : Cmd := ⟨4, zo, 0, [], x.getD 0 0, 0, 0, 0, []⟩
def C5 (x : List Int) : Cmd := ⟨5, zo, 0, [], 0, x.getD 0 0, x.getD 1 0, x.getD 2 0, x.drop 3⟩
def C6 (_ : List Int) : Cmd := ⟨6, zo, 0, [], 0, 0, 0, 0, []⟩
theorem s44 {lo : Nat} {x : List Int} {h : H} (hx : x.length = 1) : den cx lo 44 [AM.vs .dead 1 (ints x)] h = some ((C2 x).v, h) := by
  obtain ⟨a, rfl⟩ := List.length_eq_one_iff.1 hx
  refine den_pure (fn := Tryz.f44) (by rfl) (by rfl) (by rfl) (by rfl) (by simp [Tryz.f44]) (by simp) ?_
  simp (disch := first | omega | (simp; done) | (simp; omega) | assumption) [Tryz.f44, argsE, boxV, boxO, fresh_no, List.filter_cons, setB, aggN, op_build, List.set, ints, C2, Cmd.v, Cmd.cs, zo, Cl1_tup, Cl1_agg, Cl1_vs, spns, recs]
theorem s46 {lo : Nat} {x : List Int} {h : H} (hx : x.length = 1) : den cx lo 46 [AM.vs .dead 1 (ints x)] h = some ((C4 x).v, h) := by
  obtain ⟨a, rfl⟩ := List.length_eq_one_iff.1 hx
  refine den_pure (fn := Tryz.f46) (by rfl) (by rfl) (by rfl) (by rfl) (by simp [Tryz.f46]) (by simp) ?_
  simp (disch := first | omega | (simp; done) | (simp; omega) | assumption) [Tryz.f46, argsE, boxV, boxO, fresh_no, List.filter_cons, setB, aggN, op_build, List.set, ints, C4, Cmd.v, Cmd.cs, zo, Cl1_tup, Cl1_agg, Cl1_vs, spns, recs]
theorem s48 {lo : Nat} {x : List Int} {h : H} : den cx lo 48 [AM.vs .dead 1 (ints x)] h = some ((C6 x).v, h) := by
  refine den_pure (fn := Tryz.f48) (by rfl) (by rfl) (by rfl) (by rfl) (by simp [Tryz.f48]) (by simp) ?_
  simp (disch := first | omega | (simp; done) | (simp; omega) | assumption) [Tryz.f48, argsE, boxV, boxO, fresh_no, List.filter_cons, setB, aggN, op_build, List.set, ints, C6, Cmd.v, Cmd.cs, zo, Cl1_tup, Cl1_agg, Cl1_vs, spns, recs]
theorem s47 {lo : Nat} {x : List Int} {h : H} (hx : 3 ≤ x.length) : den cx lo 47 [AM.vs .dead 1 (ints x)] h = some ((C5 x).v, h) := by
  obtain ⟨a, b, c, r, rfl⟩ : ∃ a b c r, x = a :: b :: c :: r := by
    match x, hx with
    | a :: b :: c :: r, _ => exact ⟨a, b, c, r, rfl⟩
  have h3 : (3 : Int) ≤ (r.length : Int) + 1 + 1 + 1 := by omega
  refine den_pure (fn := Tryz.f47) (by rfl) (by rfl) (by rfl) (by rfl) (by simp [Tryz.f47]) (by simp) ?_
  simp (disch := first | omega | (simp; done) | (simp; omega) | assumption) [Tryz.f47, argsE, boxV, boxO, fresh_no, List.filter_cons, setB, aggN, op_build, List.set, ints, C5, Cmd.v, Cmd.cs, zo, Cl1_tup, Cl1_agg, Cl1_vs, spns, recs, foot, Op.operands, opTmps, h3]
  refine ⟨indep_of bf47_1 (by rfl), ?_⟩
  have e1 : fgL (r.map V.i) = r.map V.i := fgL_ints r
  have e2 : (r.map V.i).all (clo 10) = true := clo_ints 9 r
  try simp (disch := first | omega | (simp; done) | (simp; omega) | assumption) [Cl1_tup, Cl1_agg, Cl1_vs, e1, e2]
theorem numsR_len {load : Int} : ∀ {ls : List (List UInt8)} {i : Nat} {out : List Int}, (numsR load i ls out).2 = 0 → (numsR load i ls out).1.length = out.length + ls.length
  | [], i, out, _ => by simp [numsR]
  | w :: r, i, out, h => by
    simp only [numsR] at h ⊢
    by_cases q : (one9 load i w).2 = 0
    · rw [if_pos q] at h ⊢
      rw [numsR_len h]; simp; omega
    · rw [if_neg q] at h; exact absurd h q
/-- A command of so many numbers, or more. -/
def cntR (ws : List Wd) (n : Nat) (op : Bool) (C : List Int → Cmd) : Cmd × Int :=
  if ws.length < n + 1 ∨ (n + 1 < ws.length ∧ op = false) then (zc, 7) else if (numsR (-1) 0 (ws.tail.map (·.2)) []).2 = 0 then (C (numsR (-1) 0 (ws.tail.map (·.2)) []).1, 0) else (zc, (numsR (-1) 0 (ws.tail.map (·.2)) []).2)
theorem zc_cs : zc.cs = [.i 0, .i 0, .i 0, .i 0, .i 0, AM.vs .dead 0 [], .i 0, AM.vs .dead 0 [], .i 0, .i 0, .i 0, .i 0, AM.vs .dead 0 []] := by
  simp [zc, Cmd.cs, zo, spns, recs, ints]
theorem s43 {lo f n : Nat} {ws : List Wd} {op : Bool} {C : List Int → Cmd} {h : H} (hs : shuts cx f = true) (hn : n ≤ 100) (h0 : ws ≠ []) (h1 : ws.length ≤ 100000000) (h2 : ∀ x ∈ ws, x.2.length ≤ 4294967280)
    (hf : ∀ lo g x, x.length + 1 = ws.length → ¬ (ws.length < n + 1 ∨ (n + 1 < ws.length ∧ op = false)) → den cx lo f [AM.vs .dead 1 (ints x)] g = some ((C x).v, g)) :
    den cx lo 43 [AM.vs .dead 2 (wds ws), .i n, .b op, .fn (.func f) [] []] h = some (cmdV (cntR ws n op C), h) := by
  obtain ⟨w0, r, rfl⟩ : ∃ w0 r, ws = w0 :: r := by
    cases ws with
    | nil => exact absurd rfl h0
    | cons w0 r => exact ⟨w0, r, rfl⟩
  have e105 := fun lo g => s105 (lo := lo) (ws := r) (h := g) (by simp at h1; omega) (fun x hx => h2 x (by simp [hx]))
  have hlen := @numsR_len (-1) (r.map (·.2)) 0 []
  simp only [List.length_cons] at h1 hf
  have ewd : wds (w0 :: r) = wdv w0 :: wds r := rfl
  unfold cntR
  simp only [List.tail_cons, List.length_cons]
  obtain ⟨X, hX⟩ : ∃ X, numsR (-1) 0 (r.map (·.2)) [] = X := ⟨_, rfl⟩
  simp only [hX] at e105 hlen ⊢
  simp only [numV] at e105
  refine den_pure (fn := Tryz.f43) (by rfl) (by rfl) (by rfl) (by rfl) (by simp [Tryz.f43]) (by simp) ?_
  by_cases c1 : r.length + 1 < n + 1
  · have c1' : (r.length : Int) + 1 < (n : Int) + 1 := by omega
    rw [if_pos (.inl c1)]
    simp (disch := first | omega | (simp; done) | (simp; omega) | assumption) [Tryz.f43, argsE, boxV, boxO, fresh_no, List.filter_cons, setB, aggN, op_build, List.set, isC, wrap64, c1', cmdV, Cmd.v, zc_cs, Cl1_tup, Cl1_agg, Cl1_vs]
  have c1' : ¬ ((r.length : Int) + 1 < (n : Int) + 1) := by omega
  have main : ∀ (hx : ¬ (r.length + 1 < n + 1 ∨ (n + 1 < r.length + 1 ∧ op = false))), Wp cx 43 h.length 0 (Tryz.f43.body.getD .skip) { env := argsE [AM.vs .dead 2 (wds (w0 :: r)), .i n, .b op, .fn (.func f) [] []], lb := [], h := h } fun x s => (x = .normal ∨ x = .ret) ∧ Out1 cx Tryz.f43.results.toList h.length s = some (cmdV (if X.2 = 0 then (C X.1, 0) else (zc, X.2))) := by
    intro hx
    have c2 : ((n : Int) + 1 < (r.length : Int) + 1 ∧ op = true) ∨ ¬ ((n : Int) + 1 < (r.length : Int) + 1) := by
      by_cases q : (n : Int) + 1 < (r.length : Int) + 1
      · left; refine ⟨q, ?_⟩
        cases op with
        | true => rfl
        | false => exact absurd (.inr ⟨by omega, rfl⟩) hx
      · exact .inr q
    have h1n : (1 : Int) ≤ (r.length : Int) + 1 := by omega
    by_cases q : X.2 = 0
    · have ef := fun lo g => hf lo g X.1 (by rw [hlen q]; simp) hx
      simp only [Cmd.v, Cmd.cs] at ef
      rcases c2 with ⟨c2, rfl⟩ | c2
      · simp (disch := first | omega | (simp; done) | (simp; omega) | assumption) [Tryz.f43, argsE, Option.getD, boxV, boxO, fresh_no, List.filter_cons, setB, aggN, op_build, List.set, isC, wrap64, c1', c2, ewd, e105, q, hs, ef, cmdV, Cmd.v, Cmd.cs, Cl1_tup, Cl1_agg, Cl1_vs, h1n]
      · simp (disch := first | omega | (simp; done) | (simp; omega) | assumption) [Tryz.f43, argsE, Option.getD, boxV, boxO, fresh_no, List.filter_cons, setB, aggN, op_build, List.set, isC, wrap64, c1', c2, ewd, e105, q, hs, ef, cmdV, Cmd.v, Cmd.cs, Cl1_tup, Cl1_agg, Cl1_vs, h1n]
    · rcases c2 with ⟨c2, rfl⟩ | c2
      · simp (disch := first | omega | (simp; done) | (simp; omega) | assumption) [Tryz.f43, argsE, Option.getD, boxV, boxO, fresh_no, List.filter_cons, setB, aggN, op_build, List.set, isC, wrap64, c1', c2, ewd, e105, q, cmdV, Cmd.v, zc_cs, Cl1_tup, Cl1_agg, Cl1_vs, h1n]
      · simp (disch := first | omega | (simp; done) | (simp; omega) | assumption) [Tryz.f43, argsE, Option.getD, boxV, boxO, fresh_no, List.filter_cons, setB, aggN, op_build, List.set, isC, wrap64, c1', c2, ewd, e105, q, cmdV, Cmd.v, zc_cs, Cl1_tup, Cl1_agg, Cl1_vs, h1n]
  by_cases hx : r.length + 1 < n + 1 ∨ (n + 1 < r.length + 1 ∧ op = false)
  · rw [if_pos hx]
    obtain ⟨c2, rfl⟩ := hx.resolve_left c1
    have c2' : (n : Int) + 1 < (r.length : Int) + 1 := by omega
    clear main
    simp (disch := first | omega | (simp; done) | (simp; omega) | assumption) [Tryz.f43, argsE, boxV, boxO, fresh_no, List.filter_cons, setB, aggN, op_build, List.set, isC, wrap64, c1', c2', cmdV, Cmd.v, zc_cs, Cl1_tup, Cl1_agg, Cl1_vs]
  · rw [if_neg hx]
    exact main hx
end ZD

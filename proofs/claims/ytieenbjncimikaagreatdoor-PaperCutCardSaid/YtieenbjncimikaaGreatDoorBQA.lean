/- The reading of a text, by the program's phases and by the document, in plain words: both tell the same. No condition. -/
import Derived.Test.YtieenbjncimikaaGreatDoorBPH
set_option linter.all false
open Go Go.AM Go.Proofs Go.AM.Pl
set_option maxRecDepth 100000
set_option maxHeartbeats 4000000
namespace ZD
abbrev Ln := List UInt8
/-- A line's words; none, if it is not words. -/
def wrds (l : Ln) : List Ln := (wordsR l).1
/-- Numbers of words. -/
def allR (w : List Ln) : List Int × Int := numsR (-1) 0 w []
def rowR (w : List Ln) (name : Ln) (n : Int) : List Int × Int := if w.headD [] = name ∧ (w.length : Int) = n + 1 then allR w.tail else ([], 7)
def endW : Ln := [101, 110, 100]
def dep0 : Dep := ⟨List.replicate 19 0, [], [], []⟩
/-- How far a text is read. -/
structure Rdg where
  d : Dep
  next : Int
  places : Int
  book : Int
  rows : List Int
  orders : List Int
  trucks : List Int
def rdg0 : Rdg := ⟨dep0, 0, 0, 0, [], [], []⟩
def firstR (x : Rdg) (w : List Ln) (at_ : Int) : Rdg × Int :=
  if x.next = 0 then (if w = [hlW, [49]] then ({ x with next := 1 }, 0) else (x, 7))
  else if x.next = 1 then (if (rowR w bookW 19).2 = 0 then ({ x with d := { x.d with bk := (rowR w bookW 19).1 }, book := at_, next := 2 }, 0) else (x, (rowR w bookW 19).2))
  else if x.next = 2 then (if (rowR w placesW 1).2 = 0 then (if (rowR w placesW 1).1.getD 0 0 < 1 ∨ 200 < (rowR w placesW 1).1.getD 0 0 then (x, 4) else ({ x with places := (rowR w placesW 1).1.getD 0 0, next := 3 }, 0)) else (x, (rowR w placesW 1).2))
  else if (rowR w rowW x.places).2 = 0 then ({ x with d := { x.d with ways := x.d.ways ++ [(rowR w rowW x.places).1] }, rows := x.rows ++ [at_], next := if ((x.rows.length + 1 : Nat) : Int) = x.places then 4 else x.next }, 0)
  else (x, (rowR w rowW x.places).2)
/-- A kind of a text of one letter. -/
def kndL (a : Ln) : Int × Bool := match a with
  | [c] => kindR c
  | _ => (0, false)
/-- A record of a line's words. -/
def recW3 (w : List Ln) : Rec × Int :=
  match w with
  | [_, a, b] => if (kndL a).2 = true then (if (spanR b).2.2 = 0 then (⟨(kndL a).1, (spanR b).1, (spanR b).2.1⟩, 0) else (⟨0, 0, 0⟩, (spanR b).2.2)) else (⟨0, 0, 0⟩, 2)
  | _ => (⟨0, 0, 0⟩, 7)
def addPast (l : List Trk) (r : Rec) : List Trk := l.dropLast ++ (match l.getLast? with | some t => [{ t with past := t.past ++ [r] }] | none => [])
def trkOf (l : List Int) : Trk := ⟨l.getD 0 0, l.getD 1 0, l.getD 2 0, l.getD 3 0, l.getD 4 0, []⟩
def takeR (x : Rdg) (w : List Ln) (at_ : Int) : Rdg × Int :=
  if x.next < 4 then firstR x w at_ else if x.next = 6 then (x, 7)
  else if w.headD [] = ordW ∧ x.next = 4 then ({ x with d := { x.d with ords := x.d.ords ++ [OrdR.o (ordR w)] }, orders := x.orders ++ [at_] }, OrdR.e (ordR w))
  else if w.headD [] = truckW then (if (rowR w truckW 5).2 = 0 then ({ x with d := { x.d with trks := x.d.trks ++ [trkOf (rowR w truckW 5).1] }, trucks := x.trucks ++ [at_], next := 5 }, 0) else (x, (rowR w truckW 5).2))
  else if w.headD [] = pastW ∧ x.next = 5 then (if (recW3 w).2 = 0 then ({ x with d := { x.d with trks := addPast x.d.trks (recW3 w).1 } }, 0) else (x, (recW3 w).2))
  else if w = [endW] then ({ x with next := 6 }, 0) else (x, 7)
/-- Lines are read, one behind the other. -/
def runR : Rdg → Int → List Ln → Rdg × Int × Int
  | x, a, [] => (x, a, if x.next = 6 then 0 else 8)
  | x, a, l :: r => if wrds l = [] then (x, a, 7) else if (takeR x (wrds l) a).2 = 0 then runR (takeR x (wrds l) a).1 (a + l.length + 1) r else (x, a, (takeR x (wrds l) a).2)
/-- Where a depot that was read is wrong. -/
def placeR (x : Rdg) (c : Int × Int × Int) : Int := if c.1 = 1 then x.book else if c.1 = 2 then x.rows.getD c.2.1.toNat 0 else if c.1 = 3 then x.orders.getD c.2.1.toNat 0 else x.trucks.getD c.2.1.toNat 0
def finR (R : Rdg × Int × Int) : Dep × Int × Int := if R.2.2 = 0 then (if (depC R.1.d).2.2 = 0 then (R.1.d, 0, 0) else (dep0, placeR R.1 (depC R.1.d), (depC R.1.d).2.2)) else (dep0, R.2.1, R.2.2)
def parR (text : List UInt8) : Dep × Int × Int := match lin [] text with
  | some ls => finR (runR rdg0 0 ls)
  | none => (dep0, text.length, 8)
-- the program's phases
structure Rdr where
  ls : List Ln
  i : Int
  e : Int
  d : Dep
  book : Int
  rows : Int
  fr : Int
  truck : List Int
def Rdr.cur (x : Rdr) : Ln := x.ls.getD x.i.toNat []
def nextX (x : Rdr) : Ln := if x.e = 0 ∧ x.i < x.ls.length then (wrds x.cur).headD [] else []
/-- A line's words, and the error. -/
def lineX (x : Rdr) (first : Ln) (n : Int) : List Ln × Int :=
  if x.e = 0 then (if x.i < x.ls.length then (if wrds x.cur ≠ [] ∧ (wrds x.cur).headD [] = first ∧ (n < 0 ∨ ((wrds x.cur).length : Int) = n + 1) then (wrds x.cur, 0) else ([], 7)) else ([], 8)) else ([], x.e)
def rowX (x : Rdr) (first : Ln) (n : Int) : List Int × Rdr :=
  if (lineX x first n).2 = 0 then (if (allR (lineX x first n).1.tail).2 = 0 then ((allR (lineX x first n).1.tail).1, { x with i := x.i + 1 }) else ([], { x with e := (allR (lineX x first n).1.tail).2 })) else ([], { x with e := (lineX x first n).2 })
def headX (x : Rdr) : Rdr := if (lineX x hlW 1).2 = 0 then (if (lineX x hlW 1).1.getD 1 [] = [49] then { x with i := x.i + 1 } else { x with e := 7 }) else { x with e := (lineX x hlW 1).2 }
def rulesX (x : Rdr) : Rdr := let x := { x with book := x.i }; if (rowX x bookW 19).2.e = 0 then { (rowX x bookW 19).2 with d := { x.d with bk := (rowX x bookW 19).1 } } else (rowX x bookW 19).2
def waysGo (n : Int) : Nat → Rdr → Rdr
  | 0, x => x
  | k + 1, x => waysGo n k { (rowX x rowW n).2 with d := { x.d with ways := x.d.ways ++ [(rowX x rowW n).1] } }
def waysX (x : Rdr) : Rdr := if (rowX x placesW 1).2.e = 0 then (if (rowX x placesW 1).1.getD 0 0 < 1 ∨ 200 < (rowX x placesW 1).1.getD 0 0 then { (rowX x placesW 1).2 with i := x.i, e := 4 } else waysGo ((rowX x placesW 1).1.getD 0 0) ((rowX x placesW 1).1.getD 0 0).toNat { (rowX x placesW 1).2 with rows := x.i + 1 }) else (rowX x placesW 1).2
def ordsGo : Nat → Rdr → Rdr
  | 0, x => x
  | k + 1, x => if nextX x = ordW then (if OrdR.e (ordR (wrds x.cur)) = 0 then ordsGo k { x with d := { x.d with ords := x.d.ords ++ [OrdR.o (ordR (wrds x.cur))] }, i := x.i + 1 } else { x with e := OrdR.e (ordR (wrds x.cur)) }) else x
def Rdr.left (x : Rdr) : Nat := x.ls.length - x.i.toNat
def ordersX (x : Rdr) : Rdr := ordsGo x.left { x with fr := x.i }
def pastGo : Nat → List Rec → Rdr → List Rec × Rdr
  | 0, acc, x => (acc, x)
  | k + 1, acc, x => if nextX x = pastW then (if (recW3 (wrds x.cur)).2 = 0 then pastGo k (acc ++ [(recW3 (wrds x.cur)).1]) { x with i := x.i + 1 } else (acc, { x with e := (recW3 (wrds x.cur)).2 })) else (acc, x)
def trksGo : Nat → Rdr → Rdr
  | 0, x => x
  | k + 1, x => if nextX x = truckW then (let x1 := { x with truck := x.truck ++ [x.i] }
      if (rowX x1 truckW 5).2.e = 0 then (let z := pastGo (rowX x1 truckW 5).2.left [] (rowX x1 truckW 5).2
        if z.2.e = 0 then trksGo k { z.2 with d := { z.2.d with trks := z.2.d.trks ++ [{ trkOf (rowX x1 truckW 5).1 with past := z.1 }] } } else z.2) else (rowX x1 truckW 5).2) else x
def trucksX (x : Rdr) : Rdr := trksGo x.left x
def endX (x : Rdr) : Rdr := if (lineX x endW 0).2 = 0 then (if x.i + 1 < x.ls.length then { x with i := x.i + 1, e := 7 } else { x with i := x.i + 1 }) else { x with e := (lineX x endW 0).2 }
def checkX (x : Rdr) : Rdr := if x.e = 0 then (if (depC x.d).2.2 = 0 then x else { x with e := (depC x.d).2.2, i := if (depC x.d).1 = 1 then x.book else if (depC x.d).1 = 2 then x.rows + (depC x.d).2.1 else if (depC x.d).1 = 3 then x.fr + (depC x.d).2.1 else x.truck.getD (depC x.d).2.1.toNat 0 }) else x
def rdr0 (ls : List Ln) : Rdr := ⟨ls, 0, 0, dep0, 0, 0, 0, []⟩
/-- Where lines begin. -/
def atL (ls : List Ln) (j : Nat) : Int := ((ls.take j).map fun (l : Ln) => (l.length : Int) + 1).sum
def allX (ls : List Ln) : Rdr := checkX (endX (trucksX (ordersX (waysX (rulesX (headX (rdr0 ls)))))))
end ZD
open Go Go.AM Go.Proofs Go.AM.Pl
set_option maxRecDepth 100000
set_option maxHeartbeats 4000000
namespace ZD
theorem atL_succ {ls : List Ln} {j : Nat} (h : j < ls.length) : atL ls (j + 1) = atL ls j + (ls[j].length : Int) + 1 := by
  unfold atL; rw [List.take_succ_eq_append_getElem h, List.map_append, List.sum_append]; simp [-List.map_take]; omega
theorem atL_zero {ls : List Ln} : atL ls 0 = 0 := by simp [atL]
structure Cr (ls : List Ln) (x : Rdr) (j : Nat) : Prop where
  hls : x.ls = ls
  e : x.e = 0
  i : x.i = j
  j : j ≤ ls.length
/-- The program's reader and the document's are alike. -/
structure Cor (ls : List Ln) (x : Rdr) (y : Rdg) (j : Nat) : Prop extends Cr ls x j where
  d : x.d = y.d
  bk : ∃ b : Nat, x.book = b ∧ y.book = atL ls b ∧ b ≤ ls.length
  rw : ∃ b : Nat, x.rows = b ∧ y.rows.length = y.d.ways.length ∧ (∀ k, k < y.d.ways.length → y.rows.getD k 0 = atL ls (b + k)) ∧ b + y.d.ways.length ≤ ls.length
  od : ∃ b : Nat, x.fr = b ∧ y.orders.length = y.d.ords.length ∧ (∀ k, k < y.d.ords.length → y.orders.getD k 0 = atL ls (b + k)) ∧ b + y.d.ords.length ≤ ls.length
  tr : ∃ T : List Nat, x.truck = T.map (fun (n : Nat) => (n : Int)) ∧ y.trucks = T.map (atL ls) ∧ (∀ n ∈ T, n ≤ ls.length) ∧ T.length = y.d.trks.length
/-- It has failed, as the document does. -/
structure Bad (ls : List Ln) (x : Rdr) (R : Rdg × Int × Int) : Prop where
  hls : x.ls = ls
  e : x.e ≠ 0
  r : R.2 = (atL ls x.i.toNat, x.e)
  i : 0 ≤ x.i ∧ x.i ≤ ls.length
def Stt (P : Rdr → Rdg → Nat → Prop) (ls : List Ln) (x : Rdr) (R : Rdg × Int × Int) : Prop := (∃ y j, Cor ls x y j ∧ runR y (atL ls j) (ls.drop j) = R ∧ P x y j) ∨ Bad ls x R
section
variable {ls : List Ln} {x : Rdr} {y y' : Rdg} {j : Nat} {R : Rdg × Int × Int}
theorem step_ok (h : j < ls.length) (hw : wrds ls[j] ≠ []) (ht : takeR y (wrds ls[j]) (atL ls j) = (y', 0)) (hr : runR y (atL ls j) (ls.drop j) = R) : runR y' (atL ls (j + 1)) (ls.drop (j + 1)) = R := by
  rw [List.drop_eq_getElem_cons h] at hr
  simp only [runR] at hr
  rw [if_neg hw, ht, if_pos rfl] at hr
  rw [atL_succ h]; exact hr
theorem step_bad {e : Int} (h : j < ls.length) (ht : (takeR y (wrds ls[j]) (atL ls j)).2 = e) (he : e ≠ 0) (he7 : wrds ls[j] = [] → e = 7) (hr : runR y (atL ls j) (ls.drop j) = R) : R.2 = (atL ls j, e) := by
  rw [List.drop_eq_getElem_cons h] at hr
  simp only [runR] at hr
  by_cases hw : wrds ls[j] = []
  · rw [if_pos hw] at hr; rw [he7 hw, ← hr]
  · rw [if_neg hw, ht, if_neg he] at hr; rw [← hr]
theorem step_end (h : j = ls.length) (hn : y.next ≠ 6) (hr : runR y (atL ls j) (ls.drop j) = R) : R.2 = (atL ls j, 8) := by
  rw [List.drop_of_length_le (by omega)] at hr
  simp only [runR] at hr
  rw [if_neg hn] at hr; rw [← hr]
theorem Cr.cur (c : Cr ls x j) (h : j < ls.length) : x.cur = ls[j] := by
  unfold Rdr.cur; rw [c.i, c.hls]; simp [List.getD, h]
/-- What a line tells. -/
theorem line_cases (c : Cr ls x j) (f : Ln) (n : Int) :
    ((lineX x f n).2 = 0 ∧ ∃ h : j < ls.length, wrds ls[j] ≠ [] ∧ (wrds ls[j]).headD [] = f ∧ (n < 0 ∨ ((wrds ls[j]).length : Int) = n + 1) ∧ (lineX x f n).1 = wrds ls[j]) ∨
    ((lineX x f n).2 = 7 ∧ ∃ h : j < ls.length, ¬ (wrds ls[j] ≠ [] ∧ (wrds ls[j]).headD [] = f ∧ (n < 0 ∨ ((wrds ls[j]).length : Int) = n + 1))) ∨
    ((lineX x f n).2 = 8 ∧ j = ls.length) := by
  have hj := c.j
  unfold lineX
  rw [if_pos c.e, c.i, c.hls]
  by_cases h : j < ls.length
  · rw [if_pos (show (j : Int) < (ls.length : Int) by omega), c.cur h]
    by_cases q : wrds ls[j] ≠ [] ∧ (wrds ls[j]).headD [] = f ∧ (n < 0 ∨ ((wrds ls[j]).length : Int) = n + 1)
    · rw [if_pos q]; exact .inl ⟨rfl, h, q.1, q.2.1, q.2.2, rfl⟩
    · rw [if_neg q]; exact .inr (.inl ⟨rfl, h, q⟩)
  · rw [if_neg (show ¬ (j : Int) < (ls.length : Int) by omega)]; exact .inr (.inr ⟨rfl, by omega⟩)
/-- A row of numbers. -/
theorem row_cases (c : Cr ls x j) (f : Ln) (n : Int) (hn : 0 ≤ n) :
    ((rowX x f n).2 = { x with i := x.i + 1 } ∧ ∃ h : j < ls.length, wrds ls[j] ≠ [] ∧ (wrds ls[j]).headD [] = f ∧ (rowR (wrds ls[j]) f n).2 = 0 ∧ (rowX x f n).1 = (rowR (wrds ls[j]) f n).1) ∨
    (∃ e, e ≠ 0 ∧ (rowX x f n).2 = { x with e := e } ∧ ((∃ h : j < ls.length, (rowR (wrds ls[j]) f n).2 = e ∧ (wrds ls[j] = [] → e = 7)) ∨ (e = 8 ∧ j = ls.length))) := by
  unfold rowX
  rcases line_cases c f n with ⟨h1, h, h2, h3, h4, h5⟩ | ⟨h1, h, h2⟩ | ⟨h1, h⟩
  · rw [if_pos h1, h5]
    have hr : rowR (wrds ls[j]) f n = allR (wrds ls[j]).tail := by unfold rowR; rw [if_pos ⟨h3, by omega⟩]
    by_cases q : (allR (wrds ls[j]).tail).2 = 0
    · rw [if_pos q]; exact .inl ⟨rfl, h, h2, h3, by rw [hr]; exact q, by rw [hr]⟩
    · rw [if_neg q]; exact .inr ⟨_, q, rfl, .inl ⟨h, by rw [hr], fun z => absurd z h2⟩⟩
  · rw [if_neg (by omega), h1]
    refine .inr ⟨7, by decide, rfl, .inl ⟨h, ?_, fun _ => rfl⟩⟩
    unfold rowR
    by_cases q : wrds ls[j] = []
    · rw [q, if_neg (by intro z; have := z.2; simp at this; omega)]
    · rw [if_neg (fun z => h2 ⟨q, z.1, .inr z.2⟩)]
  · rw [if_neg (by omega), h1]
    exact .inr ⟨8, by decide, rfl, .inr ⟨rfl, h⟩⟩
theorem Cr.bad (c : Cr ls x j) {e : Int} (he : e ≠ 0) (hr : R.2 = (atL ls j, e)) : Bad ls { x with e := e } R :=
  ⟨c.hls, he, by simp only [c.i]; simpa using hr, by simp only [c.i]; have := c.j; omega⟩
theorem Bad.line (b : Bad ls x R) (f : Ln) (n : Int) : lineX x f n = ([], x.e) := by unfold lineX; rw [if_neg b.e]
theorem Bad.row (b : Bad ls x R) (f : Ln) (n : Int) : rowX x f n = ([], x) := by unfold rowX; rw [b.line, if_neg b.e]
theorem Bad.next (b : Bad ls x R) : nextX x = [] := by unfold nextX; rw [if_neg (fun h => b.e h.1)]
theorem head_ok (h : Stt (fun _ y _ => y.next = 0 ∧ y.d = dep0) ls x R) : Stt (fun _ y _ => y.next = 1 ∧ y.d = dep0) ls (headX x) R := by
  rcases h with ⟨y, j, c, hr, hy, hd⟩ | b
  · unfold headX
    rcases line_cases c.toCr hlW 1 with ⟨h1, h, h2, h3, h4, h5⟩ | ⟨h1, h, h2⟩ | ⟨h1, h⟩
    · rw [if_pos h1, h5]
      obtain ⟨a, b, hw⟩ : ∃ a b, wrds ls[j] = [a, b] := by
        have : (wrds ls[j]).length = 2 := by omega
        match hw : wrds ls[j], this with
        | [a, b], _ => exact ⟨a, b, rfl⟩
      rw [hw] at h3
      have ha : a = hlW := h3
      rw [hw]
      by_cases q : b = [49]
      · have ht : takeR y (wrds ls[j]) (atL ls j) = ({ y with next := 1 }, 0) := by
          unfold takeR firstR; rw [if_pos (by omega), if_pos hy, hw, ha, q, if_pos rfl]
        rw [if_pos (show [a, b].getD 1 [] = [49] from q)]
        refine .inl ⟨_, j + 1, ?_, step_ok h h2 ht hr, rfl, hd⟩
        exact ⟨⟨c.hls, c.e, by simp [c.i], h⟩, c.d, c.bk, c.rw, c.od, c.tr⟩
      · rw [if_neg (show ¬ [a, b].getD 1 [] = [49] from q)]
        refine .inr (c.toCr.bad (by decide) (step_bad h ?_ (by decide) (fun _ => rfl) hr))
        unfold takeR firstR; rw [if_pos (by omega), if_pos hy, hw, if_neg (fun z => q (by simp at z; exact z.2))]
    · rw [if_neg (by omega), h1]
      refine .inr (c.toCr.bad (by decide) (step_bad h ?_ (by decide) (fun _ => rfl) hr))
      unfold takeR firstR; rw [if_pos (by omega), if_pos hy, if_neg (fun z => h2 (by rw [z]; exact ⟨by simp, rfl, .inr (by simp)⟩))]
    · rw [if_neg (by omega), h1]
      exact .inr (c.toCr.bad (by decide) (step_end h (by omega) hr))
  · refine .inr ?_
    unfold headX; rw [b.line, if_neg b.e]; exact b
theorem rules_ok (h : Stt (fun _ y _ => y.next = 1 ∧ y.d = dep0) ls x R) : Stt (fun _ y _ => y.next = 2 ∧ y.d.ways = [] ∧ y.d.ords = [] ∧ y.d.trks = []) ls (rulesX x) R := by
  rcases h with ⟨y, j, c, hr, hy, hd⟩ | b
  · have c' : Cor ls { x with book := x.i } { y with book := atL ls j } j := ⟨⟨c.hls, c.e, c.i, c.j⟩, c.d, ⟨j, c.i, rfl, c.j⟩, c.rw, c.od, c.tr⟩
    unfold rulesX
    simp only
    rcases row_cases c'.toCr bookW 19 (by decide) with ⟨h1, h, h2, h3, h4, h5⟩ | ⟨e, he, h1, h⟩
    · rw [h1, h5, if_pos c.e]
      have ht : takeR y (wrds ls[j]) (atL ls j) = ({ y with d := { y.d with bk := (rowR (wrds ls[j]) bookW 19).1 }, book := atL ls j, next := 2 }, 0) := by
        unfold takeR firstR; rw [if_pos (by omega), if_neg (by omega), if_pos hy, if_pos h4]
      refine .inl ⟨_, j + 1, ?_, step_ok h h2 ht hr, rfl, ?_⟩
      · exact ⟨⟨c.hls, c.e, by simp [c.i], h⟩, by simp only; rw [c.d], ⟨j, c.i, rfl, c.j⟩, c.rw, c.od, c.tr⟩
      · simp only; rw [hd]; exact ⟨rfl, rfl, rfl⟩
    · rw [h1, if_neg he]
      refine .inr (c'.toCr.bad he ?_)
      rcases h with ⟨h, h2, h3⟩ | ⟨rfl, h⟩
      · refine step_bad h ?_ he h3 hr
        unfold takeR firstR; rw [if_pos (by omega), if_neg (by omega), if_pos hy, if_neg (by rw [h2]; exact he)]; exact h2
      · exact step_end h (by omega) hr
  · refine .inr ?_
    have b' : Bad ls { x with book := x.i } R := ⟨b.hls, b.e, b.r, b.i⟩
    unfold rulesX; simp only; rw [b'.row, if_neg b.e]; exact b'

theorem wrds_nil : wrds [] = [] := by decide
def hd (ls : List Ln) (j : Nat) : Ln := (wrds (ls.getD j [])).headD []
theorem hd_lt (h : j < ls.length) : hd ls j = (wrds ls[j]).headD [] := by unfold hd; simp [List.getD, h]
theorem hd_ge (h : ls.length ≤ j) : hd ls j = [] := by unfold hd; simp [List.getD, h, wrds_nil]
theorem Cr.next (c : Cr ls x j) : nextX x = hd ls j := by
  unfold nextX
  by_cases h : j < ls.length
  · rw [if_pos ⟨c.e, by rw [c.i, c.hls]; omega⟩, c.cur h, hd_lt h]
  · rw [if_neg (by rw [c.i, c.hls]; omega), hd_ge (by omega)]
theorem hd_some {f : Ln} (hf : f ≠ []) (h : hd ls j = f) : ∃ h : j < ls.length, wrds ls[j] ≠ [] ∧ (wrds ls[j]).headD [] = f := by
  by_cases q : j < ls.length
  · rw [hd_lt q] at h
    exact ⟨q, fun z => by rw [z] at h; exact hf h.symm, h⟩
  · rw [hd_ge (by omega)] at h; exact absurd h.symm hf
theorem waysGo_ok (n : Int) (hn : 0 ≤ n) : ∀ (k : Nat) (x : Rdr), Stt (fun x y j => y.next = (if k = 0 then 4 else 3) ∧ y.places = n ∧ (y.d.ways.length : Int) + k = n ∧ y.d.ords = [] ∧ y.d.trks = [] ∧ x.rows + y.d.ways.length = j) ls x R →
    Stt (fun _ y _ => y.next = 4 ∧ (y.d.ways.length : Int) = n ∧ y.d.ords = [] ∧ y.d.trks = []) ls (waysGo n k x) R
  | 0, x, h => by
    rcases h with ⟨y, j, c, hr, h1, h2, h3, h4, h5, h6⟩ | b
    · exact .inl ⟨y, j, c, hr, by simpa using h1, by simpa using h3, h4, h5⟩
    · exact .inr b
  | k + 1, x, h => by
    unfold waysGo
    refine waysGo_ok n hn k _ ?_
    rcases h with ⟨y, j, c, hr, h1, h2, h3, h4, h5, h6⟩ | b
    · rw [if_neg (by omega)] at h1
      rcases row_cases c.toCr rowW n hn with ⟨g1, h, g2, g3, g4, g5⟩ | ⟨e, he, g1, h⟩
      · rw [g1, g5]
        obtain ⟨b, r1, r2, r3, r4⟩ := c.rw
        have ht : takeR y (wrds ls[j]) (atL ls j) = ({ y with d := { y.d with ways := y.d.ways ++ [(rowR (wrds ls[j]) rowW n).1] }, rows := y.rows ++ [atL ls j], next := if ((y.rows.length + 1 : Nat) : Int) = y.places then 4 else y.next }, 0) := by
          unfold takeR firstR; rw [if_pos (by omega), if_neg (by omega), if_neg (by omega), if_neg (by omega), h2, if_pos g4]
        have hjb : j = b + y.d.ways.length := by omega
        refine .inl ⟨_, j + 1, ?_, step_ok h g2 ht hr, ?_, h2, by simp; omega, h4, h5, by simp; omega⟩
        refine ⟨⟨c.hls, c.e, by simp [c.i], h⟩, by simp only; rw [c.d], c.bk, ⟨b, r1, by simp [r2], fun i hi => ?_, by simp; omega⟩, c.od, c.tr⟩
        · simp only [List.length_append, List.length_cons, List.length_nil] at hi
          by_cases q : i < y.d.ways.length
          · have := r3 i q
            simp only [List.getD] at this ⊢
            rw [List.getElem?_append_left (by omega)]; exact this
          · obtain rfl : i = y.d.ways.length := by omega
            simp only [List.getD]
            rw [List.getElem?_append_right (by omega), r2, hjb]; simp
        · simp only
          rw [h2, h1, r2]
          by_cases q : k = 0
          · rw [if_pos q, if_pos (by omega)]
          · rw [if_neg q, if_neg (by omega)]
      · rw [g1]
        refine .inr ?_
        have hb : R.2 = (atL ls j, e) := by
          rcases h with ⟨h, g2, g3⟩ | ⟨rfl, h⟩
          · refine step_bad h ?_ he g3 hr
            unfold takeR firstR; rw [if_pos (by omega), if_neg (by omega), if_neg (by omega), if_neg (by omega), h2, if_neg (by rw [g2]; exact he)]; exact g2
          · exact step_end h (by omega) hr
        have := c.toCr.bad he hb
        exact ⟨this.hls, this.e, this.r, this.i⟩
    · rw [b.row]
      exact .inr ⟨b.hls, b.e, b.r, b.i⟩
theorem ways_ok (h : Stt (fun _ y _ => y.next = 2 ∧ y.d.ways = [] ∧ y.d.ords = [] ∧ y.d.trks = []) ls x R) : Stt (fun _ y _ => y.next = 4 ∧ 0 < y.d.ways.length ∧ y.d.ords = [] ∧ y.d.trks = []) ls (waysX x) R := by
  rcases h with ⟨y, j, c, hr, hy, hd1, hd2, hd3⟩ | b
  · unfold waysX
    rcases row_cases c.toCr placesW 1 (by decide) with ⟨h1, h, h2, h3, h4, h5⟩ | ⟨e, he, h1, h⟩
    · rw [h1, h5, if_pos c.e]
      obtain ⟨l, hl⟩ : ∃ l, (rowR (wrds ls[j]) placesW 1).1.getD 0 0 = l := ⟨_, rfl⟩
      rw [hl]
      have htk : takeR y (wrds ls[j]) (atL ls j) = if l < 1 ∨ 200 < l then (y, 4) else ({ y with places := l, next := 3 }, 0) := by
        unfold takeR firstR; rw [if_pos (by omega), if_neg (by omega), if_neg (by omega), if_pos hy, if_pos h4, hl]
      by_cases q : l < 1 ∨ 200 < l
      · rw [if_pos q] at htk ⊢
        have := c.toCr.bad (show (4 : Int) ≠ 0 by decide) (step_bad h (by rw [htk]) (by decide) (fun z => absurd z h2) hr)
        exact .inr ⟨this.hls, this.e, this.r, this.i⟩
      · rw [if_neg q] at htk ⊢
        have := waysGo_ok (ls := ls) (R := R) l (by omega) l.toNat { x with i := x.i + 1, rows := x.i + 1 } (.inl ⟨{ y with places := l, next := 3 }, j + 1, ⟨⟨c.hls, c.e, by simp [c.i], h⟩, c.d, c.bk, ⟨j + 1, by simp [c.i], ?_, fun k hk => ?_, ?_⟩, c.od, c.tr⟩, step_ok h h2 htk hr, ?_, rfl, ?_, hd2, hd3, ?_⟩)
        · rcases this with ⟨y', j', c', hr', g1, g2, g3, g4⟩ | b
          · exact .inl ⟨y', j', c', hr', g1, by omega, g3, g4⟩
          · exact .inr b
        · obtain ⟨b, r1, r2, r3, r4⟩ := c.rw
          exact r2
        · rw [hd1] at hk; simp at hk
        · simp only; rw [hd1]; simp; omega
        · rw [if_neg (by omega)]
        · simp only; rw [hd1]; simp; omega
        · simp only; rw [hd1, c.i]; simp
    · rw [h1, if_neg he]
      refine .inr (c.toCr.bad he ?_)
      rcases h with ⟨h, h2, h3⟩ | ⟨rfl, h⟩
      · refine step_bad h ?_ he h3 hr
        unfold takeR firstR; rw [if_pos (by omega), if_neg (by omega), if_neg (by omega), if_pos hy, if_neg (by rw [h2]; exact he)]; exact h2
      · exact step_end h (by omega) hr
  · refine .inr ?_
    unfold waysX; rw [b.row, if_neg b.e]; exact b
theorem ordsGo_ok : ∀ (k : Nat) (x : Rdr), Stt (fun x y j => y.next = 4 ∧ 0 < y.d.ways.length ∧ y.d.trks = [] ∧ x.fr + y.d.ords.length = j ∧ ls.length ≤ j + k) ls x R →
    Stt (fun _ y j => y.next = 4 ∧ 0 < y.d.ways.length ∧ y.d.trks = [] ∧ hd ls j ≠ ordW) ls (ordsGo k x) R
  | 0, x, h => by
    rcases h with ⟨y, j, c, hr, h1, h2, h3, h4, h5⟩ | b
    · exact .inl ⟨y, j, c, hr, h1, h2, h3, by rw [hd_ge (by omega)]; decide⟩
    · exact .inr b
  | k + 1, x, h => by
    unfold ordsGo
    rcases h with ⟨y, j, c, hr, h1, h2, h3, h4, h5⟩ | b
    · rw [c.toCr.next]
      by_cases q : hd ls j = ordW
      · obtain ⟨h, g1, g2⟩ := hd_some (by decide) q
        have ht : takeR y (wrds ls[j]) (atL ls j) = ({ y with d := { y.d with ords := y.d.ords ++ [OrdR.o (ordR (wrds ls[j]))] }, orders := y.orders ++ [atL ls j] }, OrdR.e (ordR (wrds ls[j]))) := by
          unfold takeR; rw [if_neg (by omega), if_neg (by omega), if_pos ⟨g2, h1⟩]
        rw [if_pos q, c.toCr.cur h]
        by_cases qe : OrdR.e (ordR (wrds ls[j])) = 0
        · rw [if_pos qe]
          rw [qe] at ht
          obtain ⟨b, r1, r2, r3, r4⟩ := c.od
          refine ordsGo_ok k _ (.inl ⟨_, j + 1, ?_, step_ok h g1 ht hr, h1, h2, h3, by simp; omega, by omega⟩)
          refine ⟨⟨c.hls, c.e, by simp [c.i], h⟩, by simp only; rw [c.d], c.bk, c.rw, ⟨b, r1, by simp [r2], fun i hi => ?_, by simp; omega⟩, c.tr⟩
          simp only [List.length_append, List.length_cons, List.length_nil] at hi
          by_cases q : i < y.d.ords.length
          · have := r3 i q
            simp only [List.getD] at this ⊢
            rw [List.getElem?_append_left (by omega)]; exact this
          · obtain rfl : i = y.d.ords.length := by omega
            have hjb : j = b + y.d.ords.length := by omega
            simp only [List.getD]
            rw [List.getElem?_append_right (by omega), r2, hjb]; simp
        · rw [if_neg qe]
          exact .inr (c.toCr.bad qe (step_bad h (by rw [ht]) qe (fun z => absurd z g1) hr))
      · rw [if_neg q]
        exact .inl ⟨y, j, c, hr, h1, h2, h3, q⟩
    · rw [b.next, if_neg (by decide)]; exact .inr b
theorem orders_ok (h : Stt (fun _ y _ => y.next = 4 ∧ 0 < y.d.ways.length ∧ y.d.ords = [] ∧ y.d.trks = []) ls x R) : Stt (fun _ y j => y.next = 4 ∧ 0 < y.d.ways.length ∧ y.d.trks = [] ∧ hd ls j ≠ ordW) ls (ordersX x) R := by
  unfold ordersX
  refine ordsGo_ok _ _ ?_
  rcases h with ⟨y, j, c, hr, hy, hd1, hd2, hd3⟩ | b
  · obtain ⟨b, r1, r2, r3, r4⟩ := c.od
    exact .inl ⟨y, j, ⟨⟨c.hls, c.e, c.i, c.j⟩, c.d, c.bk, c.rw, ⟨j, c.i, r2, fun k hk => by rw [hd2] at hk; simp at hk, by rw [hd2]; simpa using c.j⟩, c.tr⟩, hr, hy, hd1, hd3, by simp only; rw [hd2, c.i]; simp, by unfold Rdr.left; rw [c.hls, c.i]; omega⟩
  · exact .inr ⟨b.hls, b.e, b.r, b.i⟩
/-- The reader, with the truck in hand. -/
def wt (x : Rdr) (t : Trk) (acc : List Rec) : Rdr := { x with d := { x.d with trks := x.d.trks ++ [{ t with past := acc }] } }
theorem addPast_snoc {l : List Trk} {t : Trk} {r : Rec} : addPast (l ++ [t]) r = l ++ [{ t with past := t.past ++ [r] }] := by simp [addPast]
theorem recW3_len {w : List Ln} (h : w.length ≠ 3) : recW3 w = (⟨0, 0, 0⟩, 7) := by
  unfold recW3; split
  · simp at h
  · rfl
theorem pastGo_ok (t : Trk) : ∀ (k : Nat) (acc : List Rec) (x : Rdr) (y : Rdg) (j : Nat), Cor ls (wt x t acc) y j → runR y (atL ls j) (ls.drop j) = R → y.next = 5 → 0 < y.d.ways.length → ls.length ≤ j + k →
    (∃ y' j', Cor ls (wt (pastGo k acc x).2 t (pastGo k acc x).1) y' j' ∧ runR y' (atL ls j') (ls.drop j') = R ∧ y'.next = 5 ∧ 0 < y'.d.ways.length ∧ hd ls j' ≠ pastW ∧ j ≤ j') ∨ Bad ls (pastGo k acc x).2 R
  | 0, acc, x, y, j, c, hr, hy, hw, hk => .inl ⟨y, j, c, hr, hy, hw, by rw [hd_ge (by omega)]; decide, Nat.le_refl _⟩
  | k + 1, acc, x, y, j, c, hr, hy, hw, hk => by
    have cr : Cr ls x j := ⟨c.hls, c.e, c.i, c.j⟩
    unfold pastGo
    rw [cr.next]
    by_cases q : hd ls j = pastW
    · obtain ⟨h, g1, g2⟩ := hd_some (by decide) q
      rw [if_pos q, cr.cur h]
      have htk : takeR y (wrds ls[j]) (atL ls j) = (if (recW3 (wrds ls[j])).2 = 0 then ({ y with d := { y.d with trks := addPast y.d.trks (recW3 (wrds ls[j])).1 } }, 0) else (y, (recW3 (wrds ls[j])).2)) := by
        unfold takeR; rw [if_neg (by omega), if_neg (by omega), if_neg (by omega), if_neg (by rw [g2]; decide), if_pos ⟨g2, hy⟩]
      by_cases qe : (recW3 (wrds ls[j])).2 = 0
      · rw [if_pos qe] at htk ⊢
        have hd' : y.d.trks = x.d.trks ++ [{ t with past := acc }] := by rw [← c.d]; rfl
        rw [hd', addPast_snoc] at htk
        have hc1 : Cor ls (wt { x with i := x.i + 1 } t (acc ++ [(recW3 (wrds ls[j])).1])) { y with d := { y.d with trks := x.d.trks ++ [{ t with past := acc ++ [(recW3 (wrds ls[j])).1] }] } } (j + 1) := by
          refine ⟨⟨c.hls, c.e, by simp [wt, cr.i], h⟩, by simp only [wt]; rw [← c.d]; rfl, c.bk, c.rw, c.od, ?_⟩
          obtain ⟨T, t1, t2, t3, t4⟩ := c.tr
          exact ⟨T, t1, t2, t3, by rw [t4, hd']; simp⟩
        rcases pastGo_ok t k (acc ++ [(recW3 (wrds ls[j])).1]) { x with i := x.i + 1 } _ (j + 1) hc1 (step_ok h g1 htk hr) hy hw (by omega) with ⟨y', j', a1, a2, a3, a4, a5, a6⟩ | b
        · exact .inl ⟨y', j', a1, a2, a3, a4, a5, by omega⟩
        · exact .inr b
      · rw [if_neg qe] at htk ⊢
        exact .inr (cr.bad qe (step_bad h (by rw [htk]) qe (fun z => absurd z g1) hr))
    · rw [if_neg q]
      exact .inl ⟨y, j, c, hr, hy, hw, q, Nat.le_refl _⟩
def NxtT (ls : List Ln) (y : Rdg) (j : Nat) : Prop := (y.next = 4 ∧ hd ls j ≠ ordW) ∨ (y.next = 5 ∧ hd ls j ≠ pastW)
theorem trksGo_ok : ∀ (k : Nat) (x : Rdr), Stt (fun _ y j => NxtT ls y j ∧ 0 < y.d.ways.length ∧ ls.length ≤ j + k) ls x R →
    Stt (fun _ y j => NxtT ls y j ∧ 0 < y.d.ways.length ∧ hd ls j ≠ truckW) ls (trksGo k x) R
  | 0, x, h => by
    rcases h with ⟨y, j, c, hr, h1, h2, h3⟩ | b
    · exact .inl ⟨y, j, c, hr, h1, h2, by rw [hd_ge (by omega)]; decide⟩
    · exact .inr b
  | k + 1, x, h => by
    unfold trksGo
    rcases h with ⟨y, j, c, hr, h1, h2, h3⟩ | b
    · rw [c.toCr.next]
      by_cases q : hd ls j = truckW
      · rw [if_pos q]
        simp only
        have cr : Cr ls { x with truck := x.truck ++ [x.i] } j := ⟨c.hls, c.e, c.i, c.j⟩
        have hn : ¬ y.next < 4 ∧ ¬ y.next = 6 := by rcases h1 with h | h <;> omega
        rcases row_cases cr truckW 5 (by decide) with ⟨g1, h, g2, g3, g4, g5⟩ | ⟨e, he, g1, h⟩
        · rw [g1, g5, if_pos c.e]
          obtain ⟨t, ht⟩ : ∃ t, trkOf (rowR (wrds ls[j]) truckW 5).1 = t := ⟨_, rfl⟩
          have htp : t.past = [] := by rw [← ht]; rfl
          have htk : takeR y (wrds ls[j]) (atL ls j) = ({ y with d := { y.d with trks := y.d.trks ++ [t] }, trucks := y.trucks ++ [atL ls j], next := 5 }, 0) := by
            unfold takeR; rw [if_neg hn.1, if_neg hn.2, if_neg (by rw [g3]; intro z; exact absurd z.1 (by decide)), if_pos g3, if_pos g4, ht]
          rw [ht]
          have hcor : Cor ls (wt { x with truck := x.truck ++ [x.i], i := x.i + 1 } t []) { y with d := { y.d with trks := y.d.trks ++ [t] }, trucks := y.trucks ++ [atL ls j], next := 5 } (j + 1) := by
            refine ⟨⟨c.hls, c.e, by simp [wt, c.i], h⟩, ?_, c.bk, c.rw, c.od, ?_⟩
            · simp only [wt]; rw [c.d]; congr 2; rw [← htp]
            · obtain ⟨T, t1, t2, t3, t4⟩ := c.tr
              exact ⟨T ++ [j], by simp [wt, t1, c.i], by simp [t2], fun n hn => by simp at hn; rcases hn with hn | rfl; exact t3 n hn; omega, by simp [t4]⟩
          have hleft : ls.length ≤ j + 1 + ({ x with truck := x.truck ++ [x.i], i := x.i + 1 } : Rdr).left := by unfold Rdr.left; simp only; rw [c.hls, c.i]; omega
          rcases pastGo_ok t _ [] _ _ _ hcor (step_ok h g2 htk hr) rfl h2 hleft with ⟨y', j', a1, a2, a3, a4, a5, a6⟩ | b
          · have a1e : (pastGo ({ x with truck := x.truck ++ [x.i], i := x.i + 1 } : Rdr).left [] { x with truck := x.truck ++ [x.i], i := x.i + 1 }).2.e = 0 := a1.e
            rw [if_pos a1e]
            exact trksGo_ok k _ (.inl ⟨y', j', a1, a2, .inr ⟨a3, a5⟩, a4, by omega⟩)
          · rw [if_neg b.e]; exact .inr b
        · rw [g1, if_neg he]
          refine .inr (cr.bad he ?_)
          rcases h with ⟨h, g2, g3⟩ | ⟨rfl, h⟩
          · have g2' : (wrds ls[j]).headD [] = truckW := by rw [← hd_lt h]; exact q
            refine step_bad h ?_ he g3 hr
            unfold takeR; rw [if_neg hn.1, if_neg hn.2, if_neg (by rw [g2']; intro z; exact absurd z.1 (by decide)), if_pos g2', if_neg (by rw [g2]; exact he)]; exact g2
          · exact step_end h hn.2 hr
      · rw [if_neg q]
        exact .inl ⟨y, j, c, hr, h1, h2, q⟩
    · rw [b.next, if_neg (by decide)]; exact .inr b
theorem trucks_ok (h : Stt (fun _ y j => y.next = 4 ∧ 0 < y.d.ways.length ∧ y.d.trks = [] ∧ hd ls j ≠ ordW) ls x R) : Stt (fun _ y j => NxtT ls y j ∧ 0 < y.d.ways.length ∧ hd ls j ≠ truckW) ls (trucksX x) R := by
  unfold trucksX
  refine trksGo_ok _ _ ?_
  rcases h with ⟨y, j, c, hr, hy, h1, h2, h3⟩ | b
  · exact .inl ⟨y, j, c, hr, .inl ⟨hy, h3⟩, h1, by unfold Rdr.left; rw [c.hls, c.i]; omega⟩
  · exact .inr b
theorem end_ok (h : Stt (fun _ y j => NxtT ls y j ∧ 0 < y.d.ways.length ∧ hd ls j ≠ truckW) ls x R) : (∃ y, Cor ls (endX x) y ls.length ∧ R = (y, atL ls ls.length, 0) ∧ 0 < y.d.ways.length) ∨ Bad ls (endX x) R := by
  rcases h with ⟨y, j, c, hr, hy, h1, h2⟩ | b
  · have hn : ¬ y.next < 4 ∧ ¬ y.next = 6 := by rcases hy with h | h <;> omega
    unfold endX
    rcases line_cases c.toCr endW 0 with ⟨g1, h, g2, g3, g4, g5⟩ | ⟨g1, h, g2⟩ | ⟨g1, h⟩
    · rw [if_pos g1]
      have hw : wrds ls[j] = [endW] := by
        have : (wrds ls[j]).length = 1 := by omega
        match hw : wrds ls[j], this with
        | [a], _ => rw [hw] at g3; have : a = endW := g3; rw [this]
      have htk : takeR y (wrds ls[j]) (atL ls j) = ({ y with next := 6 }, 0) := by
        unfold takeR; rw [hw, if_neg hn.1, if_neg hn.2, if_neg (by intro z; exact absurd z.1 (by decide)), if_neg (by decide), if_neg (by intro z; exact absurd z.1 (by decide)), if_pos rfl]
      have hr' := step_ok h g2 htk hr
      have cr : Cr ls { x with i := x.i + 1 } (j + 1) := ⟨c.hls, c.e, by simp [c.i], h⟩
      have hxl := congrArg List.length c.hls
      have hxi := c.i
      by_cases q : x.i + 1 < (x.ls.length : Int)
      · rw [if_pos q]
        refine .inr ?_
        have hlt : j + 1 < ls.length := by omega
        refine cr.bad (by decide) (step_bad hlt ?_ (by decide) (fun _ => rfl) hr')
        unfold takeR; rw [if_neg (by simp), if_pos rfl]
      · rw [if_neg q]
        have hj : j + 1 = ls.length := by omega
        refine .inl ⟨{ y with next := 6 }, ⟨⟨c.hls, c.e, by simp only; omega, Nat.le_refl _⟩, c.d, c.bk, c.rw, c.od, c.tr⟩, ?_, h1⟩
        rw [hj, List.drop_of_length_le (Nat.le_refl _)] at hr'
        simp only [runR] at hr'
        rw [if_pos trivial] at hr'; exact hr'.symm
    · rw [if_neg (by omega), g1]
      refine .inr (c.toCr.bad (by decide) (step_bad h ?_ (by decide) (fun _ => rfl) hr))
      have q1 : wrds ls[j] ≠ [endW] := fun z => g2 (by rw [z]; exact ⟨by simp, rfl, .inr (by simp)⟩)
      rw [hd_lt h] at h2
      unfold takeR; rw [if_neg hn.1, if_neg hn.2]
      rcases hy with ⟨a, b⟩ | ⟨a, b⟩
      · rw [hd_lt h] at b
        rw [if_neg (fun z => b z.1), if_neg h2, if_neg (fun z => by omega), if_neg q1]
      · rw [hd_lt h] at b
        rw [if_neg (fun z => by omega), if_neg h2, if_neg (fun z => b z.1), if_neg q1]
    · rw [if_neg (by omega), g1]
      exact .inr (c.toCr.bad (by decide) (step_end h hn.2 hr))
  · refine .inr ?_
    unfold endX; rw [b.line, if_neg b.e]; exact b
end
end ZD
open Go Go.AM Go.Proofs Go.AM.Pl
set_option maxRecDepth 100000
set_option maxHeartbeats 4000000
namespace ZD
theorem scan_at {α β : Type} {f : Nat → α → Option β} {e : β} : ∀ (l : List α) (k : Nat), scan f k l = some e → ∃ i, ∃ h : i < l.length, f (k + i) l[i] = some e
  | [], _, hs => by simp [scan] at hs
  | x :: t, k, hs => by
    simp only [scan] at hs
    split at hs
    · rename_i e1 he
      cases hs
      exact ⟨0, by simp, he⟩
    · obtain ⟨i, h, h1⟩ := scan_at t (k + 1) hs
      exact ⟨i + 1, by simp; omega, by simpa [Nat.add_assoc, Nat.add_comm 1 i] using h1⟩
theorem chkW_ix {w : List (List Int)} (h0 : 0 < w.length) : ∃ i : Nat, (chkW w).1 = i ∧ i < w.length := by
  unfold chkW
  split
  · exact ⟨0, rfl, h0⟩
  split
  · exact ⟨0, rfl, h0⟩
  · cases hs : scan (chkR w.length) 0 w with
    | none => exact ⟨0, rfl, h0⟩
    | some e =>
      obtain ⟨i, hi, h1⟩ := scan_at w 0 hs
      unfold chkR at h1
      split at h1
      · simp at h1
      · cases h1; exact ⟨i, by simp, hi⟩
theorem ordsC_ix {l : List Ord} {n : Int} (h : (ordsC l n).2 ≠ 0) : ∃ i : Nat, (ordsC l n).1 = i ∧ i < l.length := by
  unfold ordsC at h ⊢
  split
  · exact ⟨0, rfl, by omega⟩
  · rename_i q
    rw [if_neg q] at h
    cases hs : scan (ordF l n) 0 l with
    | none => rw [hs] at h; simp at h
    | some e =>
      obtain ⟨i, hi, h1⟩ := scan_at l 0 hs
      unfold ordF at h1
      split at h1
      · cases h1; exact ⟨i, by simp, hi⟩
      split at h1
      · cases h1; exact ⟨i, by simp, hi⟩
      split at h1
      · cases h1; exact ⟨i, by simp, hi⟩
      · simp at h1
theorem trksC_ix {l : List Trk} {n : Int} (h : (trksC l n).2 ≠ 0) : ∃ i : Nat, (trksC l n).1 = i ∧ i < l.length := by
  unfold trksC at h ⊢
  split
  · exact ⟨0, rfl, by omega⟩
  · rename_i q
    rw [if_neg q] at h
    cases hs : scan (trkF l n) 0 l with
    | none => rw [hs] at h; simp at h
    | some e =>
      obtain ⟨i, hi, h1⟩ := scan_at l 0 hs
      unfold trkF at h1
      split at h1
      · cases h1; exact ⟨i, by simp, hi⟩
      split at h1
      · cases h1; exact ⟨i, by simp, hi⟩
      split at h1
      · cases h1; exact ⟨i, by simp, hi⟩
      · simp at h1
/-- Where a depot is wrong lies in it. -/
theorem depC_ix {d : Dep} (h : (depC d).2.2 ≠ 0) (hw : 0 < d.ways.length) : (depC d).1 = 1 ∨ ((depC d).1 = 2 ∧ ∃ i : Nat, (depC d).2.1 = i ∧ i < d.ways.length) ∨ ((depC d).1 = 3 ∧ ∃ i : Nat, (depC d).2.1 = i ∧ i < d.ords.length) ∨
    (((depC d).1 = 4 ∨ (depC d).1 = 5) ∧ ∃ i : Nat, (depC d).2.1 = i ∧ i < d.trks.length) := by
  unfold depC at h ⊢
  split
  · exact .inl rfl
  rename_i q1
  rw [if_neg q1] at h
  split
  · exact .inr (.inl ⟨rfl, chkW_ix hw⟩)
  rename_i q2
  rw [if_neg q2] at h
  split
  · rename_i q; exact .inr (.inr (.inl ⟨rfl, ordsC_ix q⟩))
  rename_i q3
  rw [if_neg q3] at h
  split
  · rename_i q; exact .inr (.inr (.inr ⟨.inl rfl, trksC_ix q⟩))
  rename_i q4
  rw [if_neg q4] at h
  cases hs : scan (trkM d.bk) 0 d.trks with
  | none => rw [hs] at h; exact absurd rfl h
  | some e =>
    obtain ⟨i, hi, h1⟩ := scan_at d.trks 0 hs
    unfold trkM at h1
    split at h1
    · simp at h1
    · cases h1; exact .inr (.inr (.inr ⟨.inr rfl, i, by simp [trkT], hi⟩))
section
variable {ls : List Ln} {x : Rdr} {y y' : Rdg} {j : Nat} {R : Rdg × Int × Int}
theorem check_ok (h : (∃ y, Cor ls x y ls.length ∧ R = (y, atL ls ls.length, 0) ∧ 0 < y.d.ways.length) ∨ Bad ls x R) :
    finR R = (if (checkX x).e = 0 then ((checkX x).d, 0, 0) else (dep0, atL ls (checkX x).i.toNat, (checkX x).e)) ∧ 0 ≤ (checkX x).i ∧ (checkX x).i ≤ ls.length ∧ (checkX x).ls = ls := by
  rcases h with ⟨y, c, rfl, hw⟩ | b
  · unfold checkX
    rw [if_pos c.e, c.d]
    have hfin : finR (y, atL ls ls.length, 0) = if (depC y.d).2.2 = 0 then (y.d, 0, 0) else (dep0, placeR y (depC y.d), (depC y.d).2.2) := by unfold finR; rw [if_pos rfl]
    rw [hfin]
    by_cases q : (depC y.d).2.2 = 0
    · rw [if_pos q, if_pos q, if_pos c.e, c.d, c.i, c.hls]
      exact ⟨rfl, by omega, by omega, rfl⟩
    · rw [if_neg q, if_neg q]
      simp only
      rw [if_neg q]
      obtain ⟨C, hC⟩ : ∃ C, depC y.d = C := ⟨_, rfl⟩
      have hix := depC_ix q hw
      rw [hC] at hix q ⊢
      rcases hix with h1 | ⟨h1, i, h2, h3⟩ | ⟨h1, i, h2, h3⟩ | ⟨h1, i, h2, h3⟩
      · obtain ⟨b, b1, b2, b3⟩ := c.bk
        unfold placeR
        rw [if_pos h1, if_pos h1, b1, b2]
        exact ⟨by simp, by omega, by omega, c.hls⟩
      · obtain ⟨b, b1, b2, b3, b4⟩ := c.rw
        unfold placeR
        rw [if_neg (by omega), if_pos h1, if_neg (by omega), if_pos h1, b1, h2]
        refine ⟨?_, by omega, by omega, c.hls⟩
        rw [show ((i : Nat) : Int).toNat = i by omega, b3 i h3, show ((b : Int) + (i : Int)).toNat = b + i by omega]
      · obtain ⟨b, b1, b2, b3, b4⟩ := c.od
        unfold placeR
        rw [if_neg (by omega), if_neg (by omega), if_pos h1, if_neg (by omega), if_neg (by omega), if_pos h1, b1, h2]
        refine ⟨?_, by omega, by omega, c.hls⟩
        rw [show ((i : Nat) : Int).toNat = i by omega, b3 i h3, show ((b : Int) + (i : Int)).toNat = b + i by omega]
      · obtain ⟨T, b1, b2, b3, b4⟩ := c.tr
        unfold placeR
        rw [if_neg (by omega), if_neg (by omega), if_neg (by omega), if_neg (by omega), if_neg (by omega), if_neg (by omega), b1, b2, h2]
        have hi : i < T.length := by omega
        have := b3 _ (List.getElem_mem hi)
        simp only [List.getD, show ((i : Nat) : Int).toNat = i by omega, List.getElem?_map, List.getElem?_eq_getElem hi, Option.map_some, Option.getD_some]
        refine ⟨by simp, by omega, by omega, c.hls⟩
  · have hc : checkX x = x := by unfold checkX; rw [if_neg b.e]
    rw [hc, if_neg b.e]
    have hr := b.r
    refine ⟨?_, b.i.1, b.i.2, b.hls⟩
    unfold finR
    rw [hr, if_neg b.e]
end
/-- The program reads as the document does. -/
theorem all_ok (ls : List Ln) : finR (runR rdg0 0 ls) = (if (allX ls).e = 0 then ((allX ls).d, 0, 0) else (dep0, atL ls (allX ls).i.toNat, (allX ls).e)) ∧ 0 ≤ (allX ls).i ∧ (allX ls).i ≤ ls.length ∧ (allX ls).ls = ls := by
  unfold allX
  refine check_ok (end_ok (trucks_ok (orders_ok (ways_ok (rules_ok (head_ok (.inl ⟨rdg0, 0, ⟨⟨rfl, rfl, rfl, by omega⟩, rfl, ⟨0, rfl, by simp [rdg0, atL_zero], by omega⟩, ⟨0, rfl, rfl, fun k hk => by simp [rdg0, dep0] at hk, by simp [rdg0, dep0]⟩, ⟨0, rfl, rfl, fun k hk => by simp [rdg0, dep0] at hk, by simp [rdg0, dep0]⟩, ⟨[], rfl, rfl, by simp, rfl⟩⟩, by rw [atL_zero]; rfl, rfl, rfl⟩)))))))
end ZD

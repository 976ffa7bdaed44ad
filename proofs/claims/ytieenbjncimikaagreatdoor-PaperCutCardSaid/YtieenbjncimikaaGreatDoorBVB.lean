/- A depot's lines are read as it; what is cut off is none. No condition. -/
import Derived.Test.YtieenbjncimikaaGreatDoorBVA
import Derived.Test.YtieenbjncimikaaGreatDoorBQA
import Derived.Test.YtieenbjncimikaaGreatDoorBPH
import Derived.Test.YtieenbjncimikaaGreatDoorBQE
set_option linter.all false
open Go Go.AM Go.Proofs Go.AM.Pl
set_option maxRecDepth 100000
set_option maxHeartbeats 4000000
namespace ZD
/-- Lines are read well. -/
def goR : Rdg → Int → List Ln → Option Rdg
  | x, _, [] => some x
  | x, a, l :: r => if wrds l = [] then none else if (takeR x (wrds l) a).2 = 0 then goR (takeR x (wrds l) a).1 (a + l.length + 1) r else none
theorem goR_run : ∀ (ls : List Ln) (x y : Rdg) (a : Int), goR x a ls = some y → runR x a ls = (y, a + (unl ls).length, if y.next = 6 then 0 else 8)
  | [], x, y, a, h => by simp only [goR, Option.some.injEq] at h; subst h; simp [runR, unl]
  | l :: r, x, y, a, h => by
    simp only [goR] at h
    by_cases h1 : wrds l = []
    · rw [if_pos h1] at h; cases h
    rw [if_neg h1] at h
    by_cases h2 : (takeR x (wrds l) a).2 = 0
    · rw [if_pos h2] at h
      have := goR_run r _ y _ h
      simp only [runR]
      rw [if_neg h1, if_pos h2, this, unl_cons]
      simp only [List.length_append, List.length_cons, Prod.mk.injEq, and_true, true_and]
      omega
    · rw [if_neg h2] at h; cases h
theorem goR_app : ∀ (p q : List Ln) (x : Rdg) (a : Int), goR x a (p ++ q) = (goR x a p).bind fun y => goR y (a + (unl p).length) q
  | [], q, x, a => by simp [goR, unl]
  | l :: p, q, x, a => by
    simp only [List.cons_append, goR]
    split
    · rfl
    split
    · rw [goR_app p q]
      congr 1; funext y; congr 1
      rw [unl_cons]; simp only [List.length_append, List.length_cons]; omega
    · rfl
theorem goR_end {y : Rdg} {a : Int} {q : List Ln} (h : y.next = 6) (hq : q ≠ []) : goR y a q = none := by
  cases q with
  | nil => exact absurd rfl hq
  | cons l r =>
    simp only [goR]
    split
    · rfl
    · have : (takeR y (wrds l) a).2 = 7 := by
        unfold takeR; rw [if_neg (by omega), if_pos h]
      rw [if_neg (by omega)]
theorem wrds_jn {w : List Ln} (h0 : w ≠ []) (h : ∀ x ∈ w, wok x) : wrds (jn w) = w := by
  obtain ⟨ws, h1, h2⟩ := splR_jn h0 h
  unfold wrds wordsR
  rw [h1]
  have : ws ≠ [] := by rintro rfl; exact h0 (by simpa using h2.symm)
  simp only [if_neg this, h2]
theorem goR_cons {w : List Ln} {x x' : Rdg} {a : Int} {r : List Ln} (h0 : w ≠ []) (h : ∀ u ∈ w, wok u) (ht : takeR x w a = (x', 0)) : goR x a (jn w :: r) = goR x' (a + (jn w).length + 1) r := by
  simp only [goR, wrds_jn h0 h]
  rw [if_neg h0, ht, if_pos rfl]
def rowWs (w : Ln) (l : List Int) : List Ln := w :: l.map Lib.itoa
def ordWs (o : Ord) : List Ln := ordW :: Lib.itoa o.a :: Lib.itoa o.b :: Lib.itoa o.c :: Lib.itoa o.d :: o.os.map toldS
def pastWs (r : Rec) : List Ln := [pastW, [letR r.k], toldL r.f r.t]
def trkNs (t : Trk) : List Int := [t.id, t.home, t.room, t.fixed, t.rate]
def trkWs (t : Trk) : List (List Ln) := rowWs truckW (trkNs t) :: t.past.map pastWs
/-- The words of a depot's lines. -/
def wsD (d : Dep) : List (List Ln) := [hlW, [49]] :: rowWs bookW d.bk :: rowWs placesW [(d.ways.length : Int)] :: (d.ways.map (rowWs rowW) ++ d.ords.map ordWs ++ d.trks.flatMap trkWs ++ [[endW]])
/-- A depot's lines. -/
def lnD (d : Dep) : List Ln := (wsD d).map jn
theorem unl_map {α : Type} (f : α → Ln) (l : List α) : unl (l.map f) = l.flatMap fun x => f x ++ [10] := by simp [unl, List.flatMap, Function.comp_def]
theorem unl_flat {α : Type} (f : α → List (List Ln)) (l : List α) : unl ((l.flatMap f).map jn) = l.flatMap fun x => unl ((f x).map jn) := by
  induction l with
  | nil => rfl
  | cons a r ih => simp only [List.flatMap_cons, List.map_append, unl_append, ih]
theorem unl_trk (t : Trk) : unl ((trkWs t).map jn) = trkL t := by
  unfold trkL trkWs
  simp only [List.map_cons, List.map_map, unl_cons, unl_map, Function.comp_def, rowT, numbersL, rowWs, trkNs, pastWs, jn]
  have : pastL = fun x : Rec => Lib.join [pastW, [letR x.k], toldL x.f x.t] [32] ++ [10] := rfl
  rw [this]; simp
theorem unl_lnD (d : Dep) : unl (lnD d) = depT d := by
  unfold lnD wsD depT depT0
  simp only [List.map_cons, List.map_append, unl_cons, unl_append, unl_flat, unl_trk]
  simp only [List.map_map, unl_map, List.map_cons, List.map_nil, Function.comp_def]
  have h2 : jn [endW] ++ 10 :: unl [] = endT := by rw [jn_one]; rfl
  have h3 : ∀ x : Ord, jn (ordWs x) ++ [10] = ordLn x := fun x => rfl
  have h4 : ∀ x : List Int, jn (rowWs rowW x) ++ [10] = rowT rowW x := fun x => rfl
  simp only [h2, h3, h4, headT]
  simp only [rowT, numbersL, rowWs, List.append_assoc, List.cons_append, List.nil_append]
  rfl
/-- A depot whose lines can be read. -/
structure Dep.rd (d : Dep) : Prop where
  b1 : d.bk.length = 19
  b2 : ∀ n ∈ d.bk, 0 ≤ n ∧ n ≤ M9
  w1 : 1 ≤ d.ways.length ∧ d.ways.length ≤ 200
  w2 : ∀ l ∈ d.ways, l.length = d.ways.length ∧ ∀ n ∈ l, 0 ≤ n ∧ n ≤ M9
  o1 : ∀ o ∈ d.ords, (0 ≤ o.a ∧ o.a ≤ M9) ∧ (0 ≤ o.b ∧ o.b ≤ M9) ∧ (-M9 ≤ o.c ∧ o.c ≤ M9) ∧ (0 ≤ o.d ∧ o.d ≤ M9) ∧ ∀ s ∈ o.os, 0 ≤ s.f0 ∧ s.f0 < s.f1 ∧ s.f1 ≤ 40320
  t1 : ∀ t ∈ d.trks, ∀ n ∈ trkNs t, 0 ≤ n ∧ n ≤ M9
  t2 : ∀ t ∈ d.trks, ∀ r ∈ t.past, kOk r.k = true ∧ 0 ≤ r.f ∧ r.f < r.t ∧ r.t ≤ 40320
theorem rowWs_ok {w : Ln} {l : List Int} (hw : (w != [] && w.all prt) = true) : ∀ u ∈ rowWs w l, wok u := by
  intro u hu
  rcases List.mem_cons.1 hu with rfl | hu
  · exact wok_lit hw
  · obtain ⟨n, _, rfl⟩ := List.mem_map.1 hu; exact wok_itoaS n
theorem rowR_ws {w : Ln} {l : List Int} {n : Int} (hn : (l.length : Int) = n) (hl : ∀ m ∈ l, 0 ≤ m ∧ m ≤ M9) : rowR (rowWs w l) w n = (l, 0) := by
  unfold rowR rowWs
  rw [if_pos ⟨rfl, by simp; omega⟩]
  unfold allR
  rw [List.tail_cons, numsR_itoa l 0 [] hl]; rfl
theorem ordWs_ok {o : Ord} (h : ∀ s ∈ o.os, 0 ≤ s.f0 ∧ s.f0 < s.f1 ∧ s.f1 ≤ 40320) : ∀ u ∈ ordWs o, wok u := by
  intro u hu
  unfold ordWs at hu
  simp only [List.mem_cons, List.mem_map] at hu
  rcases hu with rfl | rfl | rfl | rfl | rfl | ⟨s, hs, rfl⟩
  · exact wok_lit (by rfl)
  · exact wok_itoaS _
  · exact wok_itoaS _
  · exact wok_itoaS _
  · exact wok_itoaS _
  · have := h s hs; exact wok_told this.1 (by omega)
theorem ordR_ws {o : Ord} (ha : 0 ≤ o.a ∧ o.a ≤ M9) (hb : 0 ≤ o.b ∧ o.b ≤ M9) (hc : -M9 ≤ o.c ∧ o.c ≤ M9) (hd : 0 ≤ o.d ∧ o.d ≤ M9) (h : ∀ s ∈ o.os, 0 ≤ s.f0 ∧ s.f0 < s.f1 ∧ s.f1 ≤ 40320) : ordR (ordWs o) = (o.a, o.b, o.c, o.d, o.os, 0) := by
  have m9 : M9 = 1000000000 := rfl
  have e : ∀ n : Int, 0 ≤ n ∧ n ≤ M9 → numR (Lib.itoa n) M9 = (n, 0) := fun n hn => by rw [numR_itoa M9 hn.1 (by omega), if_neg (by omega)]
  unfold ordWs ordR ord5
  simp only [if_true, e _ ha, e _ hb, e _ hd, sgnR_itoa hc.1 hc.2, spansR_told o.os [] h, List.nil_append]
theorem pastWs_ok {r : Rec} (h1 : kOk r.k = true) (h2 : 0 ≤ r.f) (h3 : r.f < r.t) : ∀ u ∈ pastWs r, wok u := by
  intro u hu
  unfold pastWs at hu
  simp only [List.mem_cons, List.mem_nil_iff, or_false] at hu
  rcases hu with rfl | rfl | rfl
  · exact wok_lit (by rfl)
  · obtain e | e | e | e := kOk_cases h1 <;> rw [e] <;> exact wok_lit (by rfl)
  · exact wok_told h2 (by omega)
theorem recW3_ws {r : Rec} (h1 : kOk r.k = true) (h2 : 0 ≤ r.f) (h3 : r.f < r.t) (h4 : r.t ≤ 40320) : recW3 (pastWs r) = (r, 0) := by
  have e : spanR (toldL r.f r.t) = (r.f, r.t, 0) := span_ok h2 h3 h4
  have e2 : kndL [letR r.k] = (r.k, true) := kindR_letR h1
  unfold recW3 pastWs
  simp only [e, e2, if_true]
end ZD
open Go Go.AM Go.Proofs Go.AM.Pl
set_option maxRecDepth 100000
set_option maxHeartbeats 4000000
namespace ZD
theorem tk_hl {x : Rdg} {a : Int} (h : x.next = 0) : takeR x [hlW, [49]] a = ({ x with next := 1 }, 0) := by
  unfold takeR firstR; rw [if_pos (by omega), if_pos h, if_pos rfl]
theorem tk_book {x : Rdg} {a : Int} {b : List Int} (h : x.next = 1) (hl : b.length = 19) (hb : ∀ m ∈ b, 0 ≤ m ∧ m ≤ M9) : takeR x (rowWs bookW b) a = ({ x with d := { x.d with bk := b }, book := a, next := 2 }, 0) := by
  unfold takeR firstR; rw [if_pos (by omega), if_neg (by omega), if_pos h, rowR_ws (by omega) hb, if_pos rfl]
theorem tk_places {x : Rdg} {a n : Int} (h : x.next = 2) (h1 : 1 ≤ n) (h2 : n ≤ 200) : takeR x (rowWs placesW [n]) a = ({ x with places := n, next := 3 }, 0) := by
  have m9 : M9 = 1000000000 := rfl
  unfold takeR firstR
  rw [if_pos (by omega), if_neg (by omega), if_neg (by omega), if_pos h, rowR_ws (by simp) (by simp; omega)]
  simp only [if_true, List.getD_cons_zero]
  rw [if_neg (by omega)]
theorem tk_row {x : Rdg} {a : Int} {l : List Int} (h : x.next = 3) (hl : (l.length : Int) = x.places) (hb : ∀ m ∈ l, 0 ≤ m ∧ m ≤ M9) : takeR x (rowWs rowW l) a = ({ x with d := { x.d with ways := x.d.ways ++ [l] }, rows := x.rows ++ [a], next := if ((x.rows.length + 1 : Nat) : Int) = x.places then 4 else x.next }, 0) := by
  unfold takeR firstR
  rw [if_pos (by omega), if_neg (by omega), if_neg (by omega), if_neg (by omega), rowR_ws hl hb, if_pos rfl]
theorem tk_ord {x : Rdg} {a : Int} {o : Ord} (h : x.next = 4) (ha : 0 ≤ o.a ∧ o.a ≤ M9) (hb : 0 ≤ o.b ∧ o.b ≤ M9) (hc : -M9 ≤ o.c ∧ o.c ≤ M9) (hd : 0 ≤ o.d ∧ o.d ≤ M9) (ho : ∀ s ∈ o.os, 0 ≤ s.f0 ∧ s.f0 < s.f1 ∧ s.f1 ≤ 40320) : takeR x (ordWs o) a = ({ x with d := { x.d with ords := x.d.ords ++ [o] }, orders := x.orders ++ [a] }, 0) := by
  unfold takeR
  rw [if_neg (by omega), if_neg (by omega), if_pos ⟨rfl, h⟩, ordR_ws ha hb hc hd ho]; rfl
theorem tk_trk {x : Rdg} {a : Int} {t : Trk} (h : x.next = 4 ∨ x.next = 5) (ht : ∀ n ∈ trkNs t, 0 ≤ n ∧ n ≤ M9) : takeR x (rowWs truckW (trkNs t)) a = ({ x with d := { x.d with trks := x.d.trks ++ [{ t with past := [] }] }, trucks := x.trucks ++ [a], next := 5 }, 0) := by
  unfold takeR
  rw [if_neg (by omega), if_neg (by omega), if_neg (fun z => absurd z.1 (by simp [rowWs]; decide)), if_pos (by rfl), rowR_ws (by rfl) ht, if_pos rfl]; rfl
theorem tk_past {x : Rdg} {a : Int} {r : Rec} (h : x.next = 5) (h1 : kOk r.k = true) (h2 : 0 ≤ r.f) (h3 : r.f < r.t) (h4 : r.t ≤ 40320) : takeR x (pastWs r) a = ({ x with d := { x.d with trks := addPast x.d.trks r } }, 0) := by
  unfold takeR
  rw [if_neg (by omega), if_neg (by omega), if_neg (fun z => absurd z.1 (by simp [pastWs]; decide)), if_neg (by simp [pastWs]; decide), if_pos ⟨by rfl, h⟩, recW3_ws h1 h2 h3 h4, if_pos rfl]
theorem tk_end {x : Rdg} {a : Int} (h : x.next = 4 ∨ x.next = 5) : takeR x [endW] a = ({ x with next := 6 }, 0) := by
  unfold takeR
  rw [if_neg (by omega), if_neg (by omega), if_neg (fun z => absurd z.1 (by decide)), if_neg (by decide), if_neg (fun z => absurd z.1 (by decide)), if_pos rfl]
theorem go_rows : ∀ (ws : List (List Int)) (x : Rdg) (a : Int), x.next = 3 → ws ≠ [] → ((x.rows.length + ws.length : Nat) : Int) = x.places → (∀ l ∈ ws, (l.length : Int) = x.places ∧ ∀ n ∈ l, 0 ≤ n ∧ n ≤ M9) → ∃ y, goR x a ((ws.map (rowWs rowW)).map jn) = some y ∧ y.d = { x.d with ways := x.d.ways ++ ws } ∧ y.next = 4
  | [], _, _, _, h, _, _ => absurd rfl h
  | l :: r, x, a, h, _, hp, hw => by
    have hl := hw l (by simp)
    have ht := tk_row (a := a) h hl.1 hl.2
    simp only [List.map_cons]
    rw [goR_cons (by simp [rowWs]) (rowWs_ok (by rfl)) ht]
    simp only [List.length_cons] at hp
    cases r with
    | nil =>
      rw [if_pos (by simpa using hp)]
      exact ⟨_, rfl, rfl, rfl⟩
    | cons l2 r =>
      rw [if_neg (by simp only [List.length_cons] at hp; omega)]
      obtain ⟨y, h1, h2, h3⟩ := go_rows (l2 :: r) { x with d := { x.d with ways := x.d.ways ++ [l] }, rows := x.rows ++ [a] } (a + (jn (rowWs rowW l)).length + 1) h (by simp) (by simp only [List.length_append, List.length_cons, List.length_nil] at hp ⊢; omega) (fun z hz => hw z (by simp [hz]))
      refine ⟨y, h1, ?_, h3⟩
      rw [h2]; simp
theorem go_ords : ∀ (os : List Ord) (x : Rdg) (a : Int), x.next = 4 → (∀ o ∈ os, (0 ≤ o.a ∧ o.a ≤ M9) ∧ (0 ≤ o.b ∧ o.b ≤ M9) ∧ (-M9 ≤ o.c ∧ o.c ≤ M9) ∧ (0 ≤ o.d ∧ o.d ≤ M9) ∧ ∀ s ∈ o.os, 0 ≤ s.f0 ∧ s.f0 < s.f1 ∧ s.f1 ≤ 40320) → ∃ y, goR x a ((os.map ordWs).map jn) = some y ∧ y.d = { x.d with ords := x.d.ords ++ os } ∧ y.next = 4
  | [], x, a, h, _ => ⟨x, rfl, by simp, h⟩
  | o :: r, x, a, h, ho => by
    obtain ⟨q1, q2, q3, q4, q5⟩ := ho o (by simp)
    simp only [List.map_cons]
    rw [goR_cons (by simp [ordWs]) (ordWs_ok q5) (tk_ord h q1 q2 q3 q4 q5)]
    obtain ⟨y, h1, h2, h3⟩ := go_ords r { x with d := { x.d with ords := x.d.ords ++ [o] }, orders := x.orders ++ [a] } (a + (jn (ordWs o)).length + 1) h (fun z hz => ho z (by simp [hz]))
    exact ⟨y, h1, by rw [h2]; simp, h3⟩
theorem go_past : ∀ (rs : List Rec) (l : List Trk) (t : Trk) (x : Rdg) (a : Int), x.next = 5 → x.d.trks = l ++ [t] → (∀ r ∈ rs, kOk r.k = true ∧ 0 ≤ r.f ∧ r.f < r.t ∧ r.t ≤ 40320) → ∃ y, goR x a ((rs.map pastWs).map jn) = some y ∧ y.d = { x.d with trks := l ++ [{ t with past := t.past ++ rs }] } ∧ y.next = 5
  | [], l, t, x, a, h, hx, _ => ⟨x, rfl, by simp only [List.append_nil]; rw [← hx], h⟩
  | r :: rs, l, t, x, a, h, hx, hr => by
    obtain ⟨q1, q2, q3, q4⟩ := hr r (by simp)
    simp only [List.map_cons]
    rw [goR_cons (by simp [pastWs]) (pastWs_ok q1 q2 q3) (tk_past h q1 q2 q3 q4), hx, addPast_snoc]
    obtain ⟨y, h1, h2, h3⟩ := go_past rs l { t with past := t.past ++ [r] } { x with d := { x.d with trks := l ++ [{ t with past := t.past ++ [r] }] } } (a + (jn (pastWs r)).length + 1) h rfl (fun z hz => hr z (by simp [hz]))
    exact ⟨y, h1, by rw [h2]; simp, h3⟩
theorem go_trks : ∀ (ts : List Trk) (x : Rdg) (a : Int), (x.next = 4 ∨ x.next = 5) → (∀ t ∈ ts, ∀ n ∈ trkNs t, 0 ≤ n ∧ n ≤ M9) → (∀ t ∈ ts, ∀ r ∈ t.past, kOk r.k = true ∧ 0 ≤ r.f ∧ r.f < r.t ∧ r.t ≤ 40320) → ∃ y, goR x a ((ts.flatMap trkWs).map jn) = some y ∧ y.d = { x.d with trks := x.d.trks ++ ts } ∧ (y.next = 4 ∨ y.next = 5)
  | [], x, a, h, _, _ => ⟨x, rfl, by simp, h⟩
  | t :: r, x, a, h, ht, hr => by
    rw [List.flatMap_cons, List.map_append, goR_app]
    have e : (trkWs t).map jn = jn (rowWs truckW (trkNs t)) :: (t.past.map pastWs).map jn := rfl
    rw [e, goR_cons (by simp [rowWs]) (rowWs_ok (by rfl)) (tk_trk h (ht t (by simp)))]
    obtain ⟨y, h1, h2, h3⟩ := go_past t.past x.d.trks { t with past := [] } { x with d := { x.d with trks := x.d.trks ++ [{ t with past := [] }] }, trucks := x.trucks ++ [a], next := 5 } (a + (jn (rowWs truckW (trkNs t))).length + 1) rfl rfl (hr t (by simp))
    rw [h1]
    simp only [Option.bind_some]
    obtain ⟨z, k1, k2, k3⟩ := go_trks r y (a + (unl (jn (rowWs truckW (trkNs t)) :: (t.past.map pastWs).map jn)).length) (.inr h3) (fun u hu => ht u (by simp [hu])) (fun u hu => hr u (by simp [hu]))
    exact ⟨z, k1, by rw [k2, h2]; simp, k3⟩
/-- A depot's lines are read as it. -/
theorem go_dep {d : Dep} (h : d.rd) : ∃ y, goR rdg0 0 (lnD d) = some y ∧ y.d = d ∧ y.next = 6 := by
  obtain ⟨b1, b2, w1, w2, o1, t1, t2⟩ := h
  obtain ⟨bk, ws, os, ts⟩ := d
  simp only at b1 b2 w1 w2 o1 t1 t2
  unfold lnD wsD
  simp only [List.map_cons, List.map_append]
  rw [goR_cons (by simp) (by intro u hu; simp only [List.mem_cons, List.mem_nil_iff, or_false] at hu; rcases hu with rfl | rfl <;> exact wok_lit (by rfl)) (tk_hl rfl)]
  rw [goR_cons (by simp [rowWs]) (rowWs_ok (by rfl)) (tk_book rfl b1 b2)]
  rw [goR_cons (by simp [rowWs]) (rowWs_ok (by rfl)) (tk_places rfl (by omega) (by omega))]
  rw [List.append_assoc, List.append_assoc, goR_app]
  obtain ⟨y1, h1, d1, n1⟩ := go_rows ws { rdg0 with d := { rdg0.d with bk := bk }, book := 0 + (jn [hlW, [49]]).length + 1, places := (ws.length : Int), next := 3 } (0 + (jn [hlW, [49]]).length + 1 + (jn (rowWs bookW bk)).length + 1 + (jn (rowWs placesW [(ws.length : Int)])).length + 1) rfl (by rintro rfl; simp at w1) (by simp [rdg0]) (fun l hl => ⟨by have := (w2 l hl).1; simp only; omega, (w2 l hl).2⟩)
  rw [h1]; simp only [Option.bind_some]
  rw [goR_app]
  obtain ⟨y2, h2, d2, n2⟩ := go_ords os y1 (0 + (jn [hlW, [49]]).length + 1 + (jn (rowWs bookW bk)).length + 1 + (jn (rowWs placesW [(ws.length : Int)])).length + 1 + (unl ((ws.map (rowWs rowW)).map jn)).length) n1 o1
  rw [h2]; simp only [Option.bind_some]
  rw [goR_app]
  obtain ⟨y3, h3, d3, n3⟩ := go_trks ts y2 (0 + (jn [hlW, [49]]).length + 1 + (jn (rowWs bookW bk)).length + 1 + (jn (rowWs placesW [(ws.length : Int)])).length + 1 + (unl ((ws.map (rowWs rowW)).map jn)).length + (unl ((os.map ordWs).map jn)).length) (.inl n2) t1 t2
  rw [h3]; simp only [Option.bind_some, List.map_nil]
  rw [goR_cons (by simp) (by intro u hu; simp only [List.mem_cons, List.mem_nil_iff, or_false] at hu; subst hu; exact wok_lit (by rfl)) (tk_end n3)]
  refine ⟨_, rfl, ?_, rfl⟩
  simp only [d3, d2, d1]
  simp [rdg0, dep0]
/-- A depot that may be is readable. -/
theorem rd_of {d : Dep} (hb : d.bk.length = 19) (h : (depC d).2.2 = 0) : d.rd := by
  have m9 : M9 = 1000000000 := rfl
  have hc0 := depC_0 h
  unfold depC at h
  by_cases q1 : okB d.bk = false
  · rw [if_pos q1] at h; simp at h
  rw [if_neg q1] at h
  by_cases q2 : (chkW d.ways).2.2 ≠ 0
  · rw [if_pos q2] at h; exact absurd h q2
  rw [if_neg q2] at h
  by_cases q3 : (ordsC d.ords d.ways.length).2 ≠ 0
  · rw [if_pos q3] at h; exact absurd h q3
  clear h
  have q2 : (chkW d.ways).2.2 = 0 := Decidable.of_not_not q2
  have q3 : (ordsC d.ords d.ways.length).2 = 0 := Decidable.of_not_not q3
  have hw : (1 ≤ d.ways.length ∧ d.ways.length ≤ 200) ∧ ∀ l ∈ d.ways, l.length = d.ways.length ∧ ∀ n ∈ l, 0 ≤ n ∧ n ≤ M9 := by
    unfold chkW at q2
    by_cases p1 : d.ways.length = 0
    · rw [if_pos p1] at q2; simp at q2
    rw [if_neg p1] at q2
    by_cases p2 : 200 < d.ways.length
    · rw [if_pos p2] at q2; simp at q2
    rw [if_neg p2] at q2
    refine ⟨by omega, fun l hl => ?_⟩
    have hn : scan (chkR d.ways.length) 0 d.ways = none := by
      cases hs : scan (chkR d.ways.length) 0 d.ways with
      | none => rfl
      | some e =>
        obtain ⟨i, x, h1, _⟩ := scan_some _ 0 hs
        rw [hs] at q2
        unfold chkR at h1
        by_cases z : (rowC x i d.ways.length).2 = 0
        · rw [if_pos z] at h1; cases h1
        · rw [if_neg z] at h1; cases h1; exact absurd q2 z
    obtain ⟨i, hi, rfl⟩ := List.mem_iff_getElem.1 hl
    have hr := scan_all _ 0 hn i hi
    unfold chkR at hr
    by_cases z : (rowC d.ways[i] (0 + i : Nat) d.ways.length).2 = 0
    case neg => rw [if_neg z] at hr; cases hr
    unfold rowC at z
    by_cases p3 : (d.ways[i].length : Int) = d.ways.length
    case neg => rw [if_neg p3] at z; simp at z
    rw [if_pos p3] at z
    refine ⟨by omega, fun n hn2 => ?_⟩
    have hn3 : scan (cellF (0 + i : Nat)) 0 d.ways[i] = none := by
      cases hs : scan (cellF (0 + i : Nat)) 0 d.ways[i] with
      | none => rfl
      | some e =>
        obtain ⟨k, x, h1, _⟩ := scan_some _ 0 hs
        rw [hs] at z
        unfold cellF at h1
        split at h1
        · cases h1; simp at z
        split at h1
        · cases h1; simp at z
        · cases h1
    obtain ⟨k, hk, rfl⟩ := List.mem_iff_getElem.1 hn2
    have hk2 := scan_all _ 0 hn3 k hk
    unfold cellF at hk2
    split at hk2
    · cases hk2
    · omega
  refine ⟨hb, ?_, hw.1, hw.2, ?_, ?_, ?_⟩
  · have q1 : okB d.bk = true := by simpa using q1
    unfold okB at q1
    rw [Bool.and_eq_true] at q1
    have key : ∀ (l : List Int) (i : Nat), wit i l = true → ∀ n ∈ l, 0 ≤ n ∧ n ≤ M9 := by
      intro l
      induction l with
      | nil => intro i _ n hn; cases hn
      | cons m r ih =>
        intro i hi n hn
        simp only [wit, Bool.and_eq_true] at hi
        rcases List.mem_cons.1 hn with rfl | hn
        · have := hi.1
          unfold wit1 at this
          split at this <;> simp at this <;> omega
        · exact ih _ hi.2 n hn
    exact key _ 0 q1.1
  · intro o ho
    unfold ordsC at q3
    split at q3
    · simp at q3
    have hn : scan (ordF d.ords d.ways.length) 0 d.ords = none := by
      cases hs : scan (ordF d.ords d.ways.length) 0 d.ords with
      | none => rfl
      | some e =>
        obtain ⟨i, x, h1, _⟩ := scan_some _ 0 hs
        rw [hs] at q3
        unfold ordF at h1
        split at h1
        · rename_i z; cases h1; exact absurd q3 z
        split at h1
        · cases h1; simp at q3
        split at h1
        · cases h1; simp at q3
        · cases h1
    obtain ⟨i, hi, rfl⟩ := List.mem_iff_getElem.1 ho
    have hr := scan_all _ 0 hn i hi
    unfold ordF at hr
    by_cases z : ordC d.ords[i] d.ways.length = 0
    case neg => rw [if_pos z] at hr; cases hr
    unfold ordC at z
    split at z
    · simp at z
    split at z
    · simp at z
    split at z
    · simp at z
    rename_i z1 z2 z3
    have hwc := hw.1
    refine ⟨by omega, by omega, by omega, by omega, fun s hs => ?_⟩
    unfold winC at z
    split at z
    · simp at z
    split at z
    · simp at z
    split at z
    · simp at z
    split at z
    · simp at z
    rename_i k1 k2
    have a1 := List.all_eq_true.1 (by simpa using k1) s hs
    have a2 := List.all_eq_true.1 (by simpa using k2) s hs
    simp [okS1] at a1
    simp [okS2] at a2
    omega
  · intro t ht n hn
    have hC := hc0
    unfold trksC at hC
    split at hC
    · simp at hC
    have hnn : scan (trkF d.trks d.ways.length) 0 d.trks = none := by
      cases hs : scan (trkF d.trks d.ways.length) 0 d.trks with
      | none => rfl
      | some e =>
        obtain ⟨i, x, h1, _⟩ := scan_some _ 0 hs
        rw [hs] at hC
        exact absurd hC (trkF_ne h1)
    obtain ⟨i, hi, rfl⟩ := List.mem_iff_getElem.1 ht
    have hr := scan_all _ 0 hnn i hi
    unfold trkF at hr
    by_cases z : trkC d.trks[i] d.ways.length = 0
    case neg => rw [if_pos z] at hr; cases hr
    unfold trkC at z
    split at z
    · simp at z
    split at z
    · simp at z
    split at z
    · simp at z
    rename_i z1 z2 z3
    have hwc := hw.1
    unfold trkNs at hn
    simp only [List.mem_cons, List.mem_nil_iff, or_false] at hn
    rcases hn with rfl | rfl | rfl | rfl | rfl <;> omega
  · intro t ht r hr
    have hp := trksC_past hc0
    have hch := recsC_chn (pastC_recs (hp t ht))
    have h1 := chn_kinds _ _ hch r hr
    have h2 := chn_mem hch r hr
    have h3 := chn_lt _ _ hch r hr
    exact ⟨by simp [kOk]; omega, h2.1, h3, h2.2⟩
end ZD
open Go Go.AM Go.Proofs Go.AM.Pl
set_option maxRecDepth 100000
set_option maxHeartbeats 4000000
namespace ZD
theorem ln_no10 (d : Dep) (h : d.rd) : ∀ s ∈ lnD d, 10 ∉ s := by
  have key : ∀ w : List Ln, (∀ u ∈ w, wok u) → 10 ∉ jn w := by
    intro w
    induction w with
    | nil => intro _; decide
    | cons a r ih =>
      intro hw
      have ha : 10 ∉ a := fun z => prt_ne10 ((hw a (by simp)).2 _ z) rfl
      cases r with
      | nil => rw [jn_one]; exact ha
      | cons b r =>
        rw [jn_cons _ _ (by simp)]
        simp only [List.mem_append, List.mem_cons, not_or]
        exact ⟨ha, by decide, ih fun u hu => hw u (by simp [hu])⟩
  intro s hs
  obtain ⟨w, hw, rfl⟩ := List.mem_map.1 hs
  refine key w ?_
  unfold wsD at hw
  simp only [List.mem_cons, List.mem_append, List.mem_map, List.mem_flatMap, List.mem_nil_iff, or_false] at hw
  rcases hw with rfl | rfl | rfl | (((⟨l, hl, rfl⟩ | ⟨o, ho, rfl⟩) | ⟨t, ht, hw⟩) | rfl)
  · intro u hu; simp only [List.mem_cons, List.mem_nil_iff, or_false] at hu; rcases hu with rfl | rfl <;> exact wok_lit (by rfl)
  · exact rowWs_ok (by rfl)
  · exact rowWs_ok (by rfl)
  · exact rowWs_ok (by rfl)
  · exact ordWs_ok (h.o1 o ho).2.2.2.2
  · unfold trkWs at hw
    rcases List.mem_cons.1 hw with rfl | hw
    · exact rowWs_ok (by rfl)
    · obtain ⟨r, hr, rfl⟩ := List.mem_map.1 hw
      obtain ⟨a, b, c, _⟩ := h.t2 t ht r hr
      exact pastWs_ok a b c
  · intro u hu; simp only [List.mem_cons, List.mem_nil_iff, or_false] at hu; subst hu; exact wok_lit (by rfl)
theorem lin_dep {d : Dep} (h : d.rd) : lin [] (depT d) = some (lnD d) := by
  rw [← unl_lnD]; exact lin_unl _ (ln_no10 d h)
/-- A depot's text is parsed as it. -/
theorem par_dep {d : Dep} (hb : d.bk.length = 19) (h : (depC d).2.2 = 0) : parR (depT d) = (d, 0, 0) := by
  have hr := rd_of hb h
  unfold parR
  rw [lin_dep hr]
  obtain ⟨y, h1, h2, h3⟩ := go_dep hr
  simp only [goR_run _ _ _ _ h1, h3, if_true, finR]
  rw [h2, if_pos h]
/-- Beginnings of lines that are ended. -/
theorem unl_cut : ∀ (ls : List Ln), (∀ s ∈ ls, 10 ∉ s) → ∀ k, k ≤ (unl ls).length → lin [] ((unl ls).take k) = none ∨ ∃ p q, ls = p ++ q ∧ (unl ls).take k = unl p ∧ lin [] ((unl ls).take k) = some p
  | [], _, k, hk => .inr ⟨[], [], rfl, by simp [unl], by simp [unl, lin]⟩
  | s :: r, h, k, hk => by
    rw [unl_cons] at hk ⊢
    have hs : 10 ∉ s := h s (by simp)
    by_cases q : k ≤ s.length
    · rw [List.take_append_of_le_length q]
      cases k with
      | zero => exact .inr ⟨[], s :: r, rfl, by simp [unl], by simp [lin]⟩
      | succ k =>
        left
        have e : s.take (k + 1) = s.take k ++ [s[k]] := List.take_succ_eq_append_getElem (by omega)
        rw [e]
        refine lin_open _ _ _ fun z => hs ?_
        rw [← z]; exact List.getElem_mem _
    · have e : (s ++ 10 :: unl r).take k = s ++ 10 :: (unl r).take (k - s.length - 1) := by
        rw [List.take_append, List.take_of_length_le (by omega)]
        obtain ⟨j, hj⟩ : ∃ j, k - s.length = j + 1 := ⟨k - s.length - 1, by omega⟩
        rw [hj, List.take_succ_cons]; simp
      rw [e, lin_line s [] _ hs]
      have hk2 : k - s.length - 1 ≤ (unl r).length := by simp only [List.length_append, List.length_cons] at hk; omega
      rcases unl_cut r (fun x hx => h x (by simp [hx])) (k - s.length - 1) hk2 with h1 | ⟨p, q2, h1, h2, h3⟩
      · rw [h1]; exact .inl rfl
      · refine .inr ⟨s :: p, q2, by rw [h1]; rfl, by rw [h2, unl_cons], ?_⟩
        rw [h3]; rfl
/-- A depot's text that is cut off is none. -/
theorem par_cut {d : Dep} (hb : d.bk.length = 19) (h : (depC d).2.2 = 0) {k : Nat} (hk : k < (depT d).length) : parR ((depT d).take k) = (dep0, (k : Int), 8) := by
  have hr := rd_of hb h
  obtain ⟨y, h1, h2, h3⟩ := go_dep hr
  have hn := ln_no10 d hr
  rw [← unl_lnD] at hk ⊢
  have hlen : ((unl (lnD d)).take k).length = k := by rw [List.length_take]; omega
  unfold parR
  rcases unl_cut (lnD d) hn k (by omega) with e | ⟨p, q, e1, e2, e3⟩
  · rw [e]; simp only [hlen]
  · rw [e3]
    have hq : q ≠ [] := by
      rintro rfl
      rw [List.append_nil] at e1
      rw [e2, ← e1] at hlen; omega
    rw [e1, goR_app] at h1
    cases hp : goR rdg0 0 p with
    | none => rw [hp] at h1; cases h1
    | some z =>
      rw [hp, Option.bind_some] at h1
      have hz : z.next ≠ 6 := fun c => by rw [goR_end c hq] at h1; cases h1
      simp only [goR_run _ _ _ _ hp, finR, if_neg hz]
      rw [← e2, hlen, if_neg (by decide)]; simp
theorem lin_take_tx {d : Dep} (hr : d.rd) (ht : Tx (lnD d)) {k : Nat} : ∀ ls, lin [] ((depT d).take k) = some ls → Tx ls := by
  intro ls hl
  rw [← unl_lnD] at hl
  by_cases hk : k ≤ (unl (lnD d)).length
  · rcases unl_cut (lnD d) (ln_no10 d hr) k hk with e | ⟨p, q, e1, e2, e3⟩
    · rw [e] at hl; cases hl
    · rw [e3] at hl; cases hl
      rw [e1] at ht
      refine ⟨fun l h => ht.1 l (by simp [h]), ?_⟩
      have := ht.2; simp at this; omega
  · rw [List.take_of_length_le (by omega), lin_unl _ (ln_no10 d hr)] at hl; cases hl; exact ht
theorem flat_len {α β : Type} {f : α → List β} {n : Nat} : ∀ (l : List α), (∀ x ∈ l, (f x).length ≤ n) → (l.flatMap f).length ≤ l.length * n
  | [], _ => by simp
  | a :: r, h => by
    have := flat_len r fun x hx => h x (by simp [hx])
    have := h a (by simp)
    rw [List.flatMap_cons, List.length_append, List.length_cons, Nat.add_mul]; omega
/-- Its lines are small. -/
theorem ln_tx {d : Dep} (h : d.tell) (hb : d.bk.length = 19) : Tx (lnD d) := by
  obtain ⟨hbk, hw, hwn, ho, hon, ht, htn⟩ := h
  constructor
  · intro l hl
    obtain ⟨w, hw2, rfl⟩ := List.mem_map.1 hl
    unfold wsD at hw2
    simp only [List.mem_cons, List.mem_append, List.mem_map, List.mem_flatMap, List.mem_nil_iff, or_false] at hw2
    rcases hw2 with rfl | rfl | rfl | (((⟨v, hv, rfl⟩ | ⟨o, ho2, rfl⟩) | ⟨t, ht2, hw2⟩) | rfl)
    · decide
    · have := num_small (w := bookW) (by simp [bookW]) hbk (by omega); exact Nat.le_trans this (by decide)
    · have := num_small (w := placesW) (l := [(d.ways.length : Int)]) (by simp [placesW]) (by simp; unfold i64B; omega) (by simp); exact Nat.le_trans this (by decide)
    · have := num_small (w := rowW) (l := v) (by simp [rowW]) (hw v hv).1 (by have := (hw v hv).2; omega); exact Nat.le_trans this (by decide)
    · have := ord_small (ho o ho2).1 (ho o ho2).2
      have e : (ordLn o).length = (jn (ordWs o)).length + 1 := by unfold ordLn; simp; rfl
      omega
    · unfold trkWs at hw2
      rcases List.mem_cons.1 hw2 with rfl | hw2
      · obtain ⟨i1, i2, i3, i4, i5⟩ := (ht t ht2).1
        have := num_small (w := truckW) (l := [t.id, t.home, t.room, t.fixed, t.rate]) (by simp [truckW]) (by simp; exact ⟨i1, i2, i3, i4, i5⟩) (by simp); exact Nat.le_trans this (by decide)
      · obtain ⟨r, hr, rfl⟩ := List.mem_map.1 hw2
        have := past_small ((ht t ht2).2.1 r hr).2.1 ((ht t ht2).2.1 r hr).2.2
        have e : (pastL r).length = (jn (pastWs r)).length + 1 := by unfold pastL; simp; rfl
        omega
    · decide
  · unfold lnD wsD
    have := flat_len (f := trkWs) (n := 4001) d.trks fun t h2 => by unfold trkWs; have := (ht t h2).2.2; simp; omega
    simp only [List.length_map, List.length_cons, List.length_append, List.length_nil]
    omega
theorem dep_len {d : Dep} (h : d.tell) (hb : d.bk.length = 19) : (depT d).length ≤ 4000000000 := by
  obtain ⟨hbk, hw, hwn, ho, hon, ht, htn⟩ := h
  have h1 := num_small (w := bookW) (by simp [bookW]) hbk (by omega)
  have h2 := num_small (w := placesW) (l := [(d.ways.length : Int)]) (by simp [placesW]) (by simp; unfold i64B; omega) (by simp)
  have h3 := flat_small (f := rowT rowW) (n := 300000) d.ways fun x hx => row_small (hw x hx).1 (hw x hx).2
  have h4 := flat_small (f := ordLn) (n := 5000) d.ords fun x hx => ord_small (ho x hx).1 (ho x hx).2
  have h5 := flat_small (f := trkL) (n := 5000000) d.trks fun x hx => trk_small (ht x hx)
  have h6 : headT.length = 10 := by decide
  have h7 : endT.length = 4 := by decide
  unfold depT depT0
  simp only [List.length_append, rowT, List.length_cons, List.length_nil] at *
  omega
/-- The line of an order that may be is read as it. -/
theorem ord_back {d : Dep} (hr : d.rd) {o : Ord} (ho : o ∈ d.ords) : readO o.l = (o.a, o.b, o.c, o.d, o.os, 0) := by
  obtain ⟨q1, q2, q3, q4, q5⟩ := hr.o1 o ho
  obtain ⟨ws, h1, h2⟩ := splR_jn (ls := ordWs o) (by simp [ordWs]) (ordWs_ok q5)
  unfold readO
  have e : o.l = jn (ordWs o) := rfl
  rw [e, h1]
  simp only [h2]
  exact ordR_ws q1 q2 q3 q4 q5
end ZD

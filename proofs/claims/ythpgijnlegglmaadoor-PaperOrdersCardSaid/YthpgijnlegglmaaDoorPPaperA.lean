/- Layer 31, plain: an order's line, and the order of a line. -/
import Derived.Test.YthpgijnlegglmaaDoorX22
import Derived.Test.YthpgijnlegglmaaDoorX23
import Derived.Test.YthpgijnlegglmaaDoorX25
import Derived.Test.YthpgijnlegglmaaDoorX26
import Derived.Test.YthpgijnlegglmaaDoorExtI
import Derived.Test.YthpgijnlegglmaaDoorPWordE
namespace Go.Proofs.YthpgijnlegglmaaDoor.Pure
set_option linter.unusedVariables false
set_option linter.unusedSimpArgs false
open Go.RowKit Go.Proofs.YthpgijnlegglmaaDoor.Y0 Go.Proofs.YthpgijnlegglmaaDoor.X1 Go.Proofs.YthpgijnlegglmaaDoor.X2 Go.Proofs.YthpgijnlegglmaaDoor.Ext Go.Proofs.YthpgijnlegglmaaDoorW.PrintWords Go.Proofs.YthpgijnlegglmaaDoorW.PrintLast Go.Proofs.YthpgijnlegglmaaDoorW.PrintMore

abbrev Spn := S23
/-! ### Joining -/
abbrev jn (ls : List (List UInt8)) : List UInt8 := Lib.join ls [32]
theorem jn_one (x : List UInt8) : jn [x] = x := by simp [jn, Lib.join, List.intercalate]
theorem jn_cons (x : List UInt8) (r : List (List UInt8)) (h : r ≠ []) : jn (x :: r) = x ++ 32 :: jn r := by
  cases r with
  | nil => exact absurd rfl h
  | cons y r => simp [jn, Lib.join, List.intercalate, List.intersperse]
theorem jn_append : ∀ (p q : List (List UInt8)), p ≠ [] → q ≠ [] → jn (p ++ q) = jn p ++ 32 :: jn q
  | [], _, h, _ => absurd rfl h
  | [x], q, _, hq => by rw [List.singleton_append, jn_cons x q hq, jn_one]
  | x :: y :: r, q, _, hq => by rw [List.cons_append, jn_cons x _ (by simp), jn_append (y :: r) q (by simp) hq, jn_cons x (y :: r) (by simp)]; simp
theorem jn_snoc (p : List (List UInt8)) (x : List UInt8) (h : p ≠ []) : jn (p ++ [x]) = jn p ++ 32 :: x := by rw [jn_append p [x] h (by simp), jn_one]
theorem jn_flat (p q : List (List UInt8)) (h : p ≠ []) : jn (jn p :: q) = jn (p ++ q) := by
  cases q with
  | nil => rw [jn_one, List.append_nil]
  | cons y r => rw [jn_cons _ _ (by simp), jn_append p (y :: r) h (by simp)]
theorem jn_len (B : Nat) : ∀ (ls : List (List UInt8)), (∀ x ∈ ls, x.length ≤ B) → (jn ls).length ≤ ls.length * (B + 1)
  | [], _ => by simp [jn, Lib.join, List.intercalate]
  | [x], h => by rw [jn_one]; have := h x (by simp); simp; omega
  | x :: y :: r, h => by
    have h1 := jn_len B (y :: r) (fun z hz => h z (by simp [hz]))
    have h2 := h x (by simp)
    rw [jn_cons x (y :: r) (by simp), List.length_append, List.length_cons]
    simp only [List.length_cons] at h1 ⊢
    have : (r.length + 1 + 1) * (B + 1) = (r.length + 1) * (B + 1) + (B + 1) := by rw [Nat.add_mul (r.length + 1) 1]; omega
    omega
theorem Join_list (ls : List (List UInt8)) (h1 : ls.length ≤ 1000000000) (h2 : (jn ls).length ≤ 1000000000) : word_Join.f (ls.map mk) = some (mk (jn ls)) := by
  have e : joinB (ls.map mk) (strOfNums [32]) = jn ls := by
    show Lib.join ((ls.map mk).map (·.data.toList)) [32] = _
    rw [List.map_map, show ((fun x : ByteArray => x.data.toList) ∘ mk) = id from rfl, List.map_id]
  unfold word_Join.f strings_Join.f
  rw [if_pos ⟨by simp; omega, by rw [e]; omega⟩, e]
  rfl
theorem refjoin_loop (ls : List (List UInt8)) (h1 : ls.length ≤ 1000000) (h2 : ∀ p, p <+: ls → (jn p).length ≤ 1000000000) : ∀ (q p : List (List UInt8)), ls = p ++ q → Ev (fun k => haulierref06_Join.l0 k (ls.map mk) (mk (jn p)) (p.length : Int)) (mk (jn ls)) := by
  intro q
  induction q with
  | nil =>
    intro p e
    rw [List.append_nil] at e
    subst e
    exact Ev.step (f := fun _ => some (mk (jn ls))) (fun k => by simp only [haulierref06_Join.l0, List.length_map]; rw [if_neg (by omega)]) (Ev.now _)
  | cons x q ih =>
    intro p e
    have hd : ls.drop p.length = x :: q := by rw [e]; simp
    obtain ⟨e1, hlt, _⟩ := rdOf_drop hd
    have c1 : (p.length : Int) < (ls.length : Int) := by omega
    have c2 : (0 : Int) ≤ (p.length : Int) := by omega
    have e3 : wrap64 ((p.length : Int) + 1) = ((p.length + 1 : Nat) : Int) := by unfold wrap64; omega
    have b1 := h2 p ⟨x :: q, e.symm⟩
    have b2 := h2 (p ++ [x]) ⟨q, by rw [e]; simp⟩
    have nx := ih (p ++ [x]) (by rw [e]; simp)
    rw [List.length_append, List.length_singleton] at nx
    by_cases h0 : p = []
    · subst h0
      have hx : (jn [x]).length ≤ 1000000000 := by simpa using b2
      rw [jn_one] at hx
      refine Ev.step (f := fun k => haulierref06_Join.l0 k (ls.map mk) (mk (jn ([] ++ [x]))) (([] : List (List UInt8)).length + 1 : Nat)) (fun k => ?_) nx
      simp only [haulierref06_Join.l0, List.length_map]
      rw [if_pos c1, if_neg (by simp), if_pos c2, e1, e3]
      have e5 : mk (jn []) ++ mk x = mk (jn ([] ++ [x])) := by rw [append_mk, List.nil_append, jn_one]; rfl
      rw [e5, if_pos (by rw [size_mk, size_mk]; have : (jn []).length = 0 := rfl; omega)]
    · have hp : 0 < p.length := List.length_pos_iff.2 h0
      rw [jn_snoc p x h0] at b2 nx
      rw [List.length_append, List.length_cons] at b2
      refine Ev.step (f := fun k => haulierref06_Join.l0 k (ls.map mk) (mk (jn p ++ 32 :: x)) ((p.length + 1 : Nat) : Int)) (fun k => ?_) nx
      have e6 : mk (jn p) ++ (⟨#[32]⟩ : ByteArray) = mk (jn p ++ [32]) := append_mk (jn p) [32]
      simp only [haulierref06_Join.l0, List.length_map]
      rw [if_pos c1, if_pos (by omega), if_pos (by rw [size_mk]; omega), if_pos c2, e1, e6, if_pos (by rw [size_mk, size_mk, List.length_append]; simp; omega), e3, append_mk]
      simp
theorem refJoin_list (ls : List (List UInt8)) (h1 : ls.length ≤ 1000000) (h2 : ∀ p, p <+: ls → (jn p).length ≤ 1000000000) : Ev (fun k => haulierref06_Join.f k (ls.map mk)) (mk (jn ls)) := refjoin_loop ls h1 h2 ls [] rfl
/-! ### Numbers as a line -/
def numbersL (first : List UInt8) (l : List Int) : List UInt8 := jn (first :: l.map Lib.itoa)
theorem rd_drop_int {l : List Int} {i : Nat} {n : Int} {r : List Int} (h : l.drop i = n :: r) : rd l (i : Int) = n ∧ i < l.length ∧ l.drop (i + 1) = r := by
  have hl : i < l.length := by
    rcases Nat.lt_or_ge i l.length with h' | h'
    · exact h'
    · rw [List.drop_of_length_le h'] at h; cases h
  rw [List.drop_eq_getElem_cons hl] at h
  injection h with h1 h2
  exact ⟨by simp [rd, List.getD_eq_getElem?_getD, hl, h1], hl, h2⟩
theorem numbers_loop (l : List Int) (hl : ∀ n ∈ l, i64B n) (hn : l.length ≤ 1000000) : ∀ (rest : List Int) (i : Nat) (acc : List (List UInt8)), l.drop i = rest → i ≤ l.length → acc.length ≤ i + 1 → (jn (acc ++ rest.map Lib.itoa)).length ≤ 1000000000 →
    Ev (fun k => paper_numbers.l0 k (acc.map mk) l (l.length : Int) (i : Int)) (mk (jn (acc ++ rest.map Lib.itoa))) := by
  intro rest
  induction rest with
  | nil =>
    intro i acc hd hil ha hb
    have hi : l.length ≤ i := by simpa using hd
    rw [List.map_nil, List.append_nil] at hb ⊢
    have hacc : acc.length ≤ 1000000000 := by omega
    exact Ev.step (f := fun k => (word_Join.f (acc.map mk)).bind fun t => some t) (fun k => by simp only [paper_numbers.l0]; rw [if_neg (by omega)]) (Ev.congr (f := fun _ => some (mk (jn acc))) (fun k => by rw [Join_list acc hacc hb]; rfl) (Ev.now _))
  | cons n r ih =>
    intro i acc hd hil ha hb
    obtain ⟨e1, h1, h2⟩ := rd_drop_int hd
    have hm := hl n (List.mem_of_mem_drop (hd ▸ List.mem_cons_self))
    have c1 : (i : Int) < (l.length : Int) := by omega
    have c2 : (0 : Int) ≤ (i : Int) := by omega
    have e3 : wrap64 ((i : Int) + 1) = ((i + 1 : Nat) : Int) := by unfold wrap64; omega
    have c4 : (acc.map mk).length < 8796093022208 := by rw [List.length_map]; omega
    rw [List.map_cons, show acc ++ Lib.itoa n :: r.map Lib.itoa = (acc ++ [Lib.itoa n]) ++ r.map Lib.itoa by simp] at hb ⊢
    refine Ev.step (f := fun k => paper_numbers.l0 k ((acc ++ [Lib.itoa n]).map mk) l (l.length : Int) ((i + 1 : Nat) : Int)) (fun k => ?_) (ih (i + 1) _ h2 (by omega) (by simp; omega) hb)
    simp only [paper_numbers.l0]
    rw [if_pos c1, if_pos c2, if_pos c1, e1, Print_tells n hm.1 hm.2]
    simp only [Option.bind_some, if_pos c4, e3, List.map_append, List.map_cons, List.map_nil]
theorem numbers_tells (first : List UInt8) (l : List Int) (hl : ∀ n ∈ l, i64B n) (hn : l.length ≤ 1000000) (hb : (numbersL first l).length ≤ 1000000000) : Ev (fun k => paper_numbers.f k (mk first) l) (mk (numbersL first l)) :=
  numbers_loop l hl hn l 0 [first] rfl (Nat.zero_le _) (by simp) hb
/-! ### An order's line -/
def ordW : List UInt8 := [111, 114, 100, 101, 114]
def toldS (s : Spn) : List UInt8 := toldL s.f0 s.f1
def orderL (a b c d : Int) (os : List Spn) : List UInt8 := jn (ordW :: Lib.itoa a :: Lib.itoa b :: Lib.itoa c :: Lib.itoa d :: os.map toldS)
def spanB64 (s : Spn) : Prop := i64B s.f0 ∧ i64B s.f1
theorem rd_drop_spn {l : List Spn} {i : Nat} {r : Spn} {rs : List Spn} (h : l.drop i = r :: rs) : rd_T23 l (i : Int) = r ∧ i < l.length ∧ l.drop (i + 1) = rs := by
  have hl : i < l.length := by
    rcases Nat.lt_or_ge i l.length with h' | h'
    · exact h'
    · rw [List.drop_of_length_le h'] at h; cases h
  rw [List.drop_eq_getElem_cons hl] at h
  injection h with h1 h2
  exact ⟨by simp [rd_T23, List.getD_eq_getElem?_getD, hl, h1], hl, h2⟩
theorem told_len' (a b : Int) (ha : i64B a) (hb : i64B b) : (toldL a b).length ≤ 41 := by
  have h1 := itoa_len a ha.1 ha.2
  have h2 := itoa_len b hb.1 hb.2
  unfold toldL
  rw [List.length_append, List.length_cons]
  omega
theorem order_loop (l : List Spn) (hl : ∀ s ∈ l, spanB64 s) (hn : l.length ≤ 1000000) : ∀ (rest : List Spn) (i : Nat) (acc : List (List UInt8)), l.drop i = rest → i ≤ l.length → acc.length ≤ i + 1 → (jn (acc ++ rest.map toldS)).length ≤ 1000000000 →
    Ev (fun k => paper_Order.l0 k (acc.map mk) l (l.length : Int) (i : Int)) (mk (jn (acc ++ rest.map toldS))) := by
  intro rest
  induction rest with
  | nil =>
    intro i acc hd hil ha hb
    have hi : l.length ≤ i := by simpa using hd
    rw [List.map_nil, List.append_nil] at hb ⊢
    have hacc : acc.length ≤ 1000000000 := by omega
    exact Ev.step (f := fun k => (word_Join.f (acc.map mk)).bind fun t => some t) (fun k => by simp only [paper_Order.l0]; rw [if_neg (by omega)]) (Ev.congr (f := fun _ => some (mk (jn acc))) (fun k => by rw [Join_list acc hacc hb]; rfl) (Ev.now _))
  | cons s r ih =>
    intro i acc hd hil ha hb
    obtain ⟨e1, h1, h2⟩ := rd_drop_spn hd
    have hm := hl s (List.mem_of_mem_drop (hd ▸ List.mem_cons_self))
    have c1 : (i : Int) < (l.length : Int) := by omega
    have c2 : (0 : Int) ≤ (i : Int) := by omega
    have e3 : wrap64 ((i : Int) + 1) = ((i + 1 : Nat) : Int) := by unfold wrap64; omega
    have c4 : (acc.map mk).length < 8796093022208 := by rw [List.length_map]; omega
    rw [List.map_cons, show acc ++ toldS s :: r.map toldS = (acc ++ [toldS s]) ++ r.map toldS by simp] at hb ⊢
    refine Ev.step (f := fun k => paper_Order.l0 k ((acc ++ [toldS s]).map mk) l (l.length : Int) ((i + 1 : Nat) : Int)) (fun k => ?_) (ih (i + 1) _ h2 (by omega) (by simp; omega) hb)
    simp only [paper_Order.l0]
    rw [if_pos c1, if_pos c2, if_pos c1, e1, Told_tells _ _ hm.1 hm.2]
    simp only [Option.bind_some, if_pos c4, e3, List.map_append, List.map_cons, List.map_nil]
    rfl
theorem jn_bound {ls : List (List UInt8)} (h : ∀ x ∈ ls, x.length ≤ 100) (hn : ls.length ≤ 100000) : (jn ls).length ≤ 1000000000 := by
  have := jn_len 100 ls h
  have : ls.length * (100 + 1) ≤ 100000 * 101 := Nat.mul_le_mul_right _ hn
  omega
theorem itoa_len' {a : Int} (h : i64B a) : (Lib.itoa a).length ≤ 100 := by have := itoa_len a h.1 h.2; omega
theorem Order_tells (a b c d : Int) (os : List Spn) (ha : i64B a) (hb : i64B b) (hc : i64B c) (hd : i64B d) (hos : ∀ s ∈ os, spanB64 s) (hn : os.length ≤ 1000) : Ev (fun k => paper_Order.f k a b c d os) (mk (orderL a b c d os)) := by
  unfold paper_Order.f
  have hnum : ∀ n ∈ ([a, b, c, d] : List Int), i64B n := by
    intro n hm
    simp only [List.mem_cons, List.not_mem_nil, or_false] at hm
    rcases hm with rfl | rfl | rfl | rfl <;> assumption
  have hsm : ∀ x ∈ [ordW, Lib.itoa a, Lib.itoa b, Lib.itoa c, Lib.itoa d], x.length ≤ 100 := by
    intro x hm
    simp only [List.mem_cons, List.not_mem_nil, or_false] at hm
    rcases hm with rfl | rfl | rfl | rfl | rfl
    · decide
    · exact itoa_len' ha
    · exact itoa_len' hb
    · exact itoa_len' hc
    · exact itoa_len' hd
  have nt := numbers_tells ordW [a, b, c, d] hnum (by simp) (jn_bound hsm (by simp))
  refine Ev.bind (f := fun k t => _) nt ?_
  have e : orderL a b c d os = jn ([numbersL ordW [a, b, c, d]] ++ os.map toldS) := by
    unfold orderL numbersL
    rw [List.singleton_append, jn_flat _ _ (by simp)]
    rfl
  have hbig : (orderL a b c d os).length ≤ 1000000000 := by
    refine jn_bound (fun x hm => ?_) (by simp; omega)
    simp only [List.mem_cons] at hm
    rcases hm with h | h | h | h | h | h
    · exact hsm x (by simp [h])
    · exact hsm x (by simp [h])
    · exact hsm x (by simp [h])
    · exact hsm x (by simp [h])
    · exact hsm x (by simp [h])
    · obtain ⟨s, hs, rfl⟩ := List.mem_map.1 h
      have := told_len' s.f0 s.f1 (hos s hs).1 (hos s hs).2
      unfold toldS
      omega
  rw [e] at hbig ⊢
  exact order_loop os hos (by omega) os 0 [numbersL ordW [a, b, c, d]] rfl (Nat.zero_le _) (by simp) hbig
theorem prefix_len {p ls : List (List UInt8)} (h : p <+: ls) : p.length ≤ ls.length := h.length_le
theorem reforder_loop (a b c d : Int) (l : List Spn) (hl : ∀ s ∈ l, spanB64 s) (hn : l.length ≤ 1000) : ∀ (rest : List Spn) (i : Nat) (acc : List (List UInt8)), l.drop i = rest → i ≤ l.length → acc.length ≤ i + 5 → (∀ x ∈ acc ++ rest.map toldS, x.length ≤ 100) →
    Ev (fun k => haulierref31_Order.l0 k (acc.map mk) (i : Int) a b c d l) (mk (jn (acc ++ rest.map toldS))) := by
  intro rest
  induction rest with
  | nil =>
    intro i acc hd hil ha hb
    have hi : l.length ≤ i := by simpa using hd
    rw [List.map_nil, List.append_nil] at hb ⊢
    have jl := refJoin_list acc (by omega) (fun p hp => jn_bound (fun x hx => hb x (hp.subset hx)) (by have := hp.length_le; omega))
    exact Ev.step (f := fun k => (haulierref06_Join.f k (acc.map mk)).bind fun t => some t) (fun k => by simp only [haulierref31_Order.l0]; rw [if_neg (by omega)]) (Ev.bind (f := fun _ t => some t) jl (Ev.now _))
  | cons s r ih =>
    intro i acc hd hil ha hb
    obtain ⟨e1, h1, h2⟩ := rd_drop_spn hd
    have hm := hl s (List.mem_of_mem_drop (hd ▸ List.mem_cons_self))
    have c1 : (i : Int) < (l.length : Int) := by omega
    have c2 : (0 : Int) ≤ (i : Int) := by omega
    have e3 : wrap64 ((i : Int) + 1) = ((i + 1 : Nat) : Int) := by unfold wrap64; omega
    have c4 : (acc.map mk).length < 8796093022208 := by rw [List.length_map]; omega
    rw [List.map_cons, show acc ++ toldS s :: r.map toldS = (acc ++ [toldS s]) ++ r.map toldS by simp] at hb ⊢
    refine Ev.step (f := fun k => (haulierref06_Told.f k s.f0 s.f1).bind fun t => haulierref31_Order.l0 k (acc.map mk ++ [t]) ((i + 1 : Nat) : Int) a b c d l) (fun k => ?_) ?_
    · simp only [haulierref31_Order.l0]
      rw [if_pos c1, if_pos c2, e1]
      simp only [if_pos c4, e3]
    · refine Ev.bind (f := fun k t => _) (refTold_tells _ _ hm.1 hm.2) ?_
      have := ih (i + 1) _ h2 (by omega) (by simp; omega) hb
      rw [List.map_append] at this
      exact this
theorem refOrder_tells (a b c d : Int) (os : List Spn) (ha : i64B a) (hb : i64B b) (hc : i64B c) (hd : i64B d) (hos : ∀ s ∈ os, spanB64 s) (hn : os.length ≤ 1000) : Ev (fun k => haulierref31_Order.f k a b c d os) (mk (orderL a b c d os)) := by
  unfold haulierref31_Order.f
  refine Ev.bind (f := fun k t => _) (refPrint_tells a ha.1 ha.2) ?_
  refine Ev.bind (f := fun k t => _) (refPrint_tells b hb.1 hb.2) ?_
  refine Ev.bind (f := fun k t => _) (refPrint_tells c hc.1 hc.2) ?_
  refine Ev.bind (f := fun k t => _) (refPrint_tells d hd.1 hd.2) ?_
  exact reforder_loop a b c d os hos hn os 0 [ordW, Lib.itoa a, Lib.itoa b, Lib.itoa c, Lib.itoa d] rfl (Nat.zero_le _) (by simp) (fun x hm => by
    simp only [List.mem_append, List.mem_cons, List.not_mem_nil, or_false] at hm
    rcases hm with (h | h | h | h | h) | h
    · rw [h]; decide
    · rw [h]; exact itoa_len' ha
    · rw [h]; exact itoa_len' hb
    · rw [h]; exact itoa_len' hc
    · rw [h]; exact itoa_len' hd
    · obtain ⟨s, hs, rfl⟩ := List.mem_map.1 h
      have := told_len' s.f0 s.f1 (hos s hs).1 (hos s hs).2
      unfold toldS
      omega)
/-! ### The order of a line -/
abbrev OrdR := Int × Int × Int × Int × List Spn × Int
def zer (e : Int) : OrdR := (0, 0, 0, 0, [], e)
def M9 : Int := 1000000000
def isMin : List UInt8 → Bool
  | 45 :: _ => true
  | _ => false
theorem isMin_not {c : UInt8} {r : List UInt8} (h : c ≠ 45) : isMin (c :: r) = false := by
  unfold isMin
  split
  · rename_i e; injection e with e _; exact absurd e h
  · rfl
def sgnR (l : List UInt8) : Int × Int :=
  if isMin l = true then (if (numR (l.drop 1) M9).2 = 0 then (if (numR (l.drop 1) M9).1 = 0 then (0, 7) else (-(numR (l.drop 1) M9).1, 0)) else (0, (numR (l.drop 1) M9).2)) else numR l M9
def spansR : List (List UInt8) → List Spn → List Spn × Int
  | [], os => (os, 0)
  | w :: r, os => if (spanR w).2.2 = 0 then spansR r (os ++ [⟨(spanR w).1, (spanR w).2.1⟩]) else ([], (spanR w).2.2)
def ord5 (w1 w2 w3 w4 : List UInt8) (r : List (List UInt8)) : OrdR :=
  if (numR w1 M9).2 = 0 then (if (numR w2 M9).2 = 0 then (if (sgnR w3).2 = 0 then (if (numR w4 M9).2 = 0 then
    (if (spansR r []).2 = 0 then ((numR w1 M9).1, (numR w2 M9).1, (sgnR w3).1, (numR w4 M9).1, (spansR r []).1, 0) else zer (spansR r []).2)
    else zer (numR w4 M9).2) else zer (sgnR w3).2) else zer (numR w2 M9).2) else zer (numR w1 M9).2
def ordR : List (List UInt8) → OrdR
  | w0 :: w1 :: w2 :: w3 :: w4 :: r => if w0 = ordW then ord5 w1 w2 w3 w4 r else zer 7
  | _ => zer 7
def readO (l : List UInt8) : OrdR := match splR l with
  | .ok ws => ordR (ws.map (·.2))
  | .error _ => zer 7
theorem numR_zero {l : List UInt8} {m : Int} (h : (numR l m).2 ≠ 0) : (numR l m).1 = 0 := by
  unfold numR at h ⊢
  split
  · split
    · split
      · rfl
      · rename_i h1 h2 h3; rw [if_pos h1, if_pos h2, if_neg h3] at h; exact absurd rfl h
    · rfl
  · rfl
theorem number_tells (w : List UInt8) (hw : w.length ≤ 4294967280) : Ev (fun k => paper_number.f k (mk w)) (numR w M9) := by
  unfold paper_number.f
  have nt := Number_tells (mk w) 1000000000 (by rw [size_mk]; omega)
  rw [data_mk] at nt
  exact Ev.bind (f := fun k bt => some (bt.1, bt.2)) nt (Ev.now _)
theorem cut_minus (l : List UInt8) : strings_CutPrefix.f (mk l) (⟨#[45]⟩ : ByteArray) = some (if isMin l = true then (mk (l.drop 1), true) else (mk l, false)) := by
  have hz : ((⟨#[45]⟩ : ByteArray).size : Int) = 1 := rfl
  have hl : ((mk l).size : Int) = (l.length : Int) := rfl
  have hH : stringslite_HasPrefix.f (mk l) (⟨#[45]⟩ : ByteArray) = some (isMin l) := by
    unfold stringslite_HasPrefix.f
    rw [hz, hl]
    cases l with
    | nil => rfl
    | cons c r =>
      rw [if_pos (by simp; omega), if_pos (by omega), if_pos (by simp; omega), show ((1 : Int)).toNat = 1 from rfl, extract_mk, toList_mk, show (⟨#[45]⟩ : ByteArray).toList = [45] from toList_mk [45]]
      by_cases hc : c = 45
      · subst hc; rfl
      · simp only [List.drop_zero, Nat.sub_zero, List.take_succ_cons, List.take_zero]
        rw [show ([c] == ([45] : List UInt8)) = false by simp [hc], isMin_not hc]
  unfold strings_CutPrefix.f stringslite_CutPrefix.f
  rw [hH, hz, hl]
  cases l with
  | nil => rfl
  | cons c r =>
    by_cases hc : c = 45
    · subst hc
      simp only [Option.bind_some, show isMin (45 :: r) = true from rfl, if_true]
      rw [if_pos (by omega), if_pos (by simp; omega), show ((1 : Int)).toNat = 1 from rfl, extract_mk]
      simp only [Option.bind_some]
      congr 3
      simp [size_mk]
    · simp only [Option.bind_some, isMin_not hc, Bool.false_eq_true, if_false]
theorem numR_range (l : List UInt8) (m : Int) : 0 ≤ (numR l m).1 ∧ (numR l m).1 ≤ 9223372036854775807 := by
  unfold numR
  split
  · split
    · split
      · simp
      · rename_i h _; refine ⟨?_, ?_⟩ <;> simp only [] <;> omega
    · simp
  · simp
theorem signed_tells (w : List UInt8) (hw : w.length ≤ 4294967280) : Ev (fun k => paper_signed.f k (mk w)) (sgnR w) := by
  unfold paper_signed.f sgnR
  simp only [cut_minus, Option.bind_some]
  have jt : ∀ x n, Ev (fun k => paper_signed.j0 k x n true) (0, 7) := fun x n => Ev.step (f := fun _ => some (0, 7)) (fun k => by simp only [paper_signed.j0]; rfl) (Ev.now _)
  have jf : ∀ n, Ev (fun k => paper_signed.j0 k false n false) (n, 0) := fun n => Ev.step (f := fun _ => some (n, 0)) (fun k => by simp only [paper_signed.j0]; rfl) (Ev.now _)
  have jm : ∀ n, Ev (fun k => paper_signed.j0 k true n false) (wrap64 (-n), 0) := fun n => Ev.step (f := fun _ => some (wrap64 (-n), 0)) (fun k => by simp only [paper_signed.j0]; rfl) (Ev.now _)
  cases hm : isMin w with
  | true =>
    simp only [if_true]
    refine Ev.bind (f := fun k bt => _) (number_tells (w.drop 1) (by rw [List.length_drop]; omega)) ?_
    by_cases h : (numR (w.drop 1) M9).2 = 0
    · simp only [if_pos h]
      by_cases h0 : (numR (w.drop 1) M9).1 = 0
      · rw [if_pos h0, h0]; exact jt _ _
      · rw [if_neg h0, beq_eq_false_iff_ne.mpr h0]
        have hb := numR_range (w.drop 1) M9
        have := jm (numR (w.drop 1) M9).1
        rw [wrp (by omega) (by omega)] at this
        exact this
    · simp only [if_neg h]; exact Ev.now _
  | false =>
    simp only [Bool.false_eq_true, if_false]
    refine Ev.bind (f := fun k bt => _) (number_tells w hw) ?_
    by_cases h : (numR w M9).2 = 0
    · simp only [if_pos h]
      rw [show numR w M9 = ((numR w M9).1, 0) by rw [← h]]
      exact jf _
    · simp only [if_neg h]
      rw [show numR w M9 = (0, (numR w M9).2) by rw [← numR_zero h]]
      exact Ev.now _
end Go.Proofs.YthpgijnlegglmaaDoor.Pure

/- What functions of the program tell (numbers, records); what is handed in. No condition. -/
import Derived.Test.YtieenbjncimikaaGreatDoorBSB
import Derived.Test.YtieenbjncimikaaGreatDoorBAmE
set_option linter.all false
open Go Go.AM Go.Proofs Go.AM.Pl
set_option maxRecDepth 100000
namespace ZD
set_option maxHeartbeats 1000000 in
theorem s29 {lo : Nat} {l : List UInt8} {h : H} (h1 : l.length ≤ 300000) : den cx lo 29 [.t l] h = some (ordV (readO l), h) := by
  refine den_pure (fn := Tryz.f29) (by rfl) (by rfl) (by rfl) (by rfl) (by simp [Tryz.f29]) (by simp) ?_
  cases hs : splR l with
  | error p =>
    have e : readO l = zer 7 := by unfold readO; rw [hs]
    rw [e]
    simp (maxSteps := 2000000) (disch := first | omega | (simp; done) | (simp; omega) | assumption) [Tryz.f29, argsE, s42, hs, resV, boxV, boxO, fresh_no, List.filter_cons, setB, aggN, op_build, List.set, Cl1_tup, Cl1_agg, Cl1_vs, ordV, Ord.v, Ord.cs, OrdR.o, OrdR.e, zer, spns]
  | ok ws =>
    have e : readO l = ordR (ws.map (·.2)) := by unfold readO; rw [hs]
    have hc := splR_count hs
    have hw := splR_wl hs
    have e91 := s91 (lo := h.length) (ws := ws) (h := h) (by omega) (fun x hx => by have := hw x hx; omega)
    rw [e]
    simp only [ordV, Ord.v, Ord.cs] at e91 ⊢
    simp (maxSteps := 2000000) (disch := first | omega | (simp; done) | (simp; omega) | assumption) [Tryz.f29, argsE, s42, hs, resV, boxV, boxO, fresh_no, List.filter_cons, setB, aggN, op_build, List.set, Cl1_tup, Cl1_agg, Cl1_vs, e91]
/-- A line's words, or none. -/
def wrdV (x : List (List UInt8) × Bool) : V := .tup [AM.vs .dead 1 (strs x.1), .b x.2]
@[simp] theorem clo_strs (k : Nat) (l : List (List UInt8)) : (strs l).all (clo (k + 1)) = true := by simp [strs]
/-- Numbers, or what is wrong. -/
def numV (x : List Int × Int) : V := .tup [AM.vs .dead 1 (ints x.1), .i x.2]
theorem ints_snoc {l : List Int} {x : Int} : ints (l ++ [x]) = ints l ++ [.i x] := by simp [ints]
@[simp] theorem clo_ints (k : Nat) (l : List Int) : (ints l).all (clo (k + 1)) = true := by simp [ints]
end ZD
open Go Go.AM Go.Proofs Go.AM.Pl
set_option maxRecDepth 100000
namespace ZD
end ZD
open Go Go.AM Go.Proofs Go.AM.Pl
set_option maxRecDepth 100000
namespace ZD
end ZD
open Go Go.AM Go.Proofs Go.AM.Pl
set_option maxRecDepth 100000
set_option maxHeartbeats 4000000
namespace ZD
structure Rec where
  k : Int
  f : Int
  t : Int
  deriving DecidableEq
def Rec.v (r : Rec) : V := .agg [.i r.k, .i r.f, .i r.t]
def recs (l : List Rec) : List V := l.map Rec.v
@[simp] theorem fg_rec (r : Rec) : fg r.v = r.v := rfl
@[simp] theorem fgL_recs (l : List Rec) : fgL (recs l) = recs l := fgL_mapE _ (fun _ => rfl) l
@[simp] theorem recs_len (l : List Rec) : (recs l).length = l.length := by simp [recs]
@[simp] theorem clo_recs (k : Nat) (l : List Rec) : (recs l).all (clo (k + 2)) = true := by simp [recs, Rec.v]
def kOk (n : Int) : Bool := decide (0 ≤ n) && decide (n < 4)
def inR (n : Int) : Bool := decide (0 ≤ n) && decide (n ≤ 40320)
def recE (r : Rec) : Int := if kOk r.k = true then (if inR r.f = true then (if inR r.t = true then (if r.t ≤ r.f then 3 else 0) else 4) else 4) else 2
theorem s198 {lo : Nat} {n : Int} {h : H} : den cx lo 198 [.i n] h = some (.b (kOk n), h) := by
  refine den_pure (fn := Tryz.f198) (by rfl) (by rfl) (by rfl) (by rfl) (by simp [Tryz.f198]) (by simp) ?_
  by_cases h1 : 0 ≤ n <;> simp (maxSteps := 2000000) (disch := first | omega | (simp; done) | (simp; omega) | assumption) [Tryz.f198, argsE, isC, h1, kOk]
theorem s199 {lo : Nat} {n : Int} {h : H} : den cx lo 199 [.i n] h = some (.b (inR n), h) := by
  refine den_pure (fn := Tryz.f199) (by rfl) (by rfl) (by rfl) (by rfl) (by simp [Tryz.f199]) (by simp) ?_
  by_cases h1 : 0 ≤ n <;> simp (maxSteps := 2000000) (disch := first | omega | (simp; done) | (simp; omega) | assumption) [Tryz.f199, argsE, isC, h1, inR]
theorem s173 {lo : Nat} {r : Rec} {h : H} : den cx lo 173 [r.v] h = some (.i (recE r), h) := by
  refine den_pure (fn := Tryz.f173) (by rfl) (by rfl) (by rfl) (by rfl) (by simp [Tryz.f173]) (by simp) ?_
  by_cases c1 : kOk r.k = true
  case neg => simp (maxSteps := 2000000) (disch := first | omega | (simp; done) | (simp; omega) | assumption) [Tryz.f173, argsE, Rec.v, boxV, boxO, fresh_no, List.filter_cons, setB, aggN, op_build, List.set, s198, c1, recE, isC]
  by_cases c2 : inR r.f = true
  case neg => simp (maxSteps := 2000000) (disch := first | omega | (simp; done) | (simp; omega) | assumption) [Tryz.f173, argsE, Rec.v, boxV, boxO, fresh_no, List.filter_cons, setB, aggN, op_build, List.set, s198, s199, c1, c2, recE, isC]
  by_cases c3 : inR r.t = true
  case neg => simp (maxSteps := 2000000) (disch := first | omega | (simp; done) | (simp; omega) | assumption) [Tryz.f173, argsE, Rec.v, boxV, boxO, fresh_no, List.filter_cons, setB, aggN, op_build, List.set, s198, s199, c1, c2, c3, recE, isC]
  by_cases c4 : r.t ≤ r.f <;> simp (maxSteps := 2000000) (disch := first | omega | (simp; done) | (simp; omega) | assumption) [Tryz.f173, argsE, Rec.v, boxV, boxO, fresh_no, List.filter_cons, setB, aggN, op_build, List.set, s198, s199, c1, c2, c3, c4, recE, isC]
/-- A kind's letter. -/
def letR (k : Int) : UInt8 := if k = 0 then 82 else if k = 1 then 65 else if k = 2 then 87 else 68
theorem kOk_cases {k : Int} (h : kOk k = true) : k = 0 ∨ k = 1 ∨ k = 2 ∨ k = 3 := by simp [kOk] at h; omega
theorem s116 {lo : Nat} {k : Int} {h : H} (hk : kOk k = true) : den cx lo 116 [.i k] h = some (.tup [.s (.int .u8 (letR k).toNat), .b true], h) := by
  refine den_pure (fn := Tryz.f116) (by rfl) (by rfl) (by rfl) (by rfl) (by simp [Tryz.f116]) (by simp) ?_
  obtain rfl | rfl | rfl | rfl := kOk_cases hk <;> simp (maxSteps := 2000000) (disch := first | omega | (simp; done) | (simp; omega) | assumption) [Tryz.f116, argsE, isC, Cl1_tup, Cl1_agg, Cl1_vs, letR]
/-- A record's line. -/
def lineR (r : Rec) : List UInt8 := letR r.k :: 32 :: toldL r.f r.t
end ZD
open Go Go.AM Go.Proofs Go.AM.Pl
set_option maxRecDepth 100000
set_option maxHeartbeats 4000000
namespace ZD
/-- Where the first one is that is not so. -/
def fstNot {α : Type} (p : α → Bool) (l : List α) : Int := match l.findIdx? (fun x => !p x) with
  | some i => i
  | none => -1
theorem fst_neg {α : Type} {p : α → Bool} {l : List α} : (0 ≤ fstNot p l) ↔ l.all p = false := by
  unfold fstNot
  cases h : l.findIdx? (fun x => !p x) with
  | none =>
    rw [List.findIdx?_eq_none_iff] at h
    have : l.all p = true := by rw [List.all_eq_true]; intro x hx; simpa using h x hx
    simp [this]
  | some i =>
    rw [List.findIdx?_eq_some_iff_getElem] at h
    obtain ⟨hi, h1, _⟩ := h
    have : l.all p = false := by rw [List.all_eq_false]; exact ⟨_, List.getElem_mem hi, by simpa using h1⟩
    simp [this]
theorem fst_at {α : Type} {p : α → Bool} {l : List α} {j : Nat} (hj : j < l.length) (h1 : (l.take j).all p = true) (h2 : p l[j] = false) : fstNot p l = j := by
  have : l.findIdx? (fun x => !p x) = some j := by
    rw [List.findIdx?_eq_some_iff_getElem]
    refine ⟨hj, by simp [h2], fun i hi => ?_⟩
    have := List.all_eq_true.1 h1 l[i] (by rw [List.mem_iff_getElem]; exact ⟨i, by simp; omega, by simp⟩)
    simp [this]
  unfold fstNot; rw [this]
theorem fst_no {α : Type} {p : α → Bool} {l : List α} (h1 : l.all p = true) : fstNot p l = -1 := by
  have : l.findIdx? (fun x => !p x) = none := by
    rw [List.findIdx?_eq_none_iff]; intro x hx; simpa using List.all_eq_true.1 h1 x hx
  unfold fstNot; rw [this]
theorem take_all {α : Type} {p : α → Bool} {l : List α} {j : Nat} (hj : j < l.length) (h : p l[j] = true) (h0 : (l.take j).all p = true) : (l.take (j + 1)).all p = true := by
  rw [List.take_succ_eq_append_getElem hj, List.all_append, h0]; simp [h]
def spanOk (s : Spn) : Bool := !(decide (s.f0 < 0) || decide (40320 < s.f1) || decide (s.f1 ≤ s.f0))
/-- Can an order be told? -/
def ordOk (o : Ord) : Bool := okAll [o.a, o.b, o.d] && (decide (-1000000000 ≤ o.c) && decide (o.c ≤ 1000000000)) && o.os.all spanOk
end ZD
open Go Go.AM Go.Proofs Go.AM.Pl
set_option maxRecDepth 100000
set_option maxHeartbeats 4000000
namespace Go.AM
/-- A field's place, type and cells. -/
def fieldAt (P : Program) (t : TypeId) (k : Nat) : Option (Nat × TypeId × Nat) := match P.underlying t with
  | some (.struct fs) => (fs[k]?).map fun f => (f.offset, f.type, P.cellsOf f.type)
  | _ => none
theorem tv_field {P : Program} {m t k o u n : Nat} {us : List V} (h : TV P (m + 1) t us) (hf : fieldAt P t k = some (o, u, n)) : us.length = P.cellsOf t ∧ TV P m u ((us.drop o).take n) := by
  unfold fieldAt at hf
  split at hf
  · rename_i fs hu
    obtain ⟨f, h1, h2⟩ := Option.map_eq_some_iff.1 hf
    cases h2
    simp only [TV, hu] at h
    exact ⟨h.1, h.2 f (by rw [← Array.getElem?_toList] at h1; exact List.mem_of_getElem? h1)⟩
  · cases hf
theorem tv_i64 {P : Program} {m t : Nat} {us : List V} (hu : P.underlying t = some (.int .i64)) (h : TV P (m + 1) t us) : ∃ n : Int, us = [.i n] ∧ i64B n := by
  simp only [TV, hu] at h
  obtain ⟨n, rfl, hw⟩ := h
  refine ⟨n, rfl, ?_⟩
  have e1 : IntKind.i64.min = -9223372036854775808 := rfl
  have e2 : IntKind.i64.max = 9223372036854775807 := rfl
  simp [Lit.wf, e1, e2] at hw
  unfold i64B; omega
theorem tv_str {P : Program} {m t : Nat} {us : List V} (hu : P.underlying t = some .string) (h : TV P (m + 1) t us) : ∃ l : List UInt8, us = [.t l] := by
  simp only [TV, hu] at h
  obtain ⟨s, rfl, _⟩ := h
  exact ⟨s.data.toList, rfl⟩
theorem tv_row {α : Type} {P : Program} {m t e : Nat} {us : List V} {f : α → V} {ok : α → Prop} (hu : P.underlying t = some (.slice e)) (h : TV P (m + 1) t us) (hf : ∀ us, us.length = P.cellsOf e → TV P m e us → ∃ x, mkV P e us = f x ∧ ok x) : ∃ l : List α, us = [AM.vs .dead (P.cellsOf e) (l.map f)] ∧ ∀ x ∈ l, ok x := by
  simp only [TV, hu] at h
  obtain ⟨l, rfl, _, h⟩ := h
  have key : ∀ l : List V, (∀ v ∈ l, ∃ us, v = mkV P e us ∧ us.length = P.cellsOf e ∧ TV P m e us) → ∃ xs : List α, l = xs.map f ∧ ∀ x ∈ xs, ok x := by
    intro l
    induction l with
    | nil => exact fun _ => ⟨[], rfl, fun _ h => by cases h⟩
    | cons v l ih =>
      intro h
      obtain ⟨us, rfl, h2, h3⟩ := h v (by simp)
      obtain ⟨x, h4, h5⟩ := hf us h2 h3
      obtain ⟨xs, rfl, h6⟩ := ih fun u hu => h u (by simp [hu])
      exact ⟨x :: xs, by rw [h4]; rfl, fun y hy => by rcases List.mem_cons.1 hy with rfl | hy; exact h5; exact h6 y hy⟩
  obtain ⟨xs, rfl, h'⟩ := key l h
  exact ⟨xs, rfl, h'⟩
theorem mk_agg {P : Program} {t : TypeId} {us : List V} (h : ∃ fs, P.underlying t = some (.struct fs)) : mkV P t us = .agg us := by
  obtain ⟨fs, h⟩ := h; simp [mkV, h]
end Go.AM
namespace ZD
@[simp] theorem recs_get {l : List Rec} {j : Nat} (h : j < (recs l).length) : (recs l)[j] = (l[j]'(by simpa using h)).v := by simp [recs]
@[simp] theorem ints_get {l : List Int} {j : Nat} (h : j < (ints l).length) : (ints l)[j] = .i (l[j]'(by simpa using h)) := by simp [ints]
@[simp] theorem spns_get {l : List Spn} {j : Nat} (h : j < (spns l).length) : (spns l)[j] = Spn.v (l[j]'(by simpa using h)) := by simp [spns]
@[simp] theorem wds_get {l : List Wd} {j : Nat} (h : j < (wds l).length) : (wds l)[j] = wdv (l[j]'(by simpa using h)) := by simp [wds]
@[simp] theorem strs_get {l : List (List UInt8)} {j : Nat} (h : j < (strs l).length) : (strs l)[j] = .t (l[j]'(by simpa using h)) := by simp [strs]
theorem u3' : cx.P.underlying 3 = some (.int .i64) := by rfl
theorem u9' : cx.P.underlying 9 = some .string := by rfl
theorem tv81 {m : Nat} {us : List V} (h : TV cx.P (m + 1 + 1) 81 us) : ∃ s : Spn, AM.mkV cx.P 81 us = Spn.v s ∧ us = [.i s.f0, .i s.f1] ∧ spanB64 s := by
  obtain ⟨hl, h0⟩ := tv_field (k := 0) (o := 0) (u := 3) (n := 1) h (by rfl)
  obtain ⟨_, h1⟩ := tv_field (k := 1) (o := 1) (u := 3) (n := 1) h (by rfl)
  have e : cx.P.cellsOf 81 = 2 := by rfl
  rw [e] at hl
  match us, hl with
  | [x, y], _ =>
    obtain ⟨a, ha, ra⟩ := tv_i64 u3' h0
    obtain ⟨b, hb, rb⟩ := tv_i64 u3' h1
    simp at ha hb
    subst ha; subst hb
    exact ⟨⟨a, b⟩, mk_agg ⟨_, by rfl⟩, rfl, ra, rb⟩
theorem tv70 {m : Nat} {us : List V} (h : TV cx.P (m + 1 + 1) 70 us) : ∃ r : Rec, AM.mkV cx.P 70 us = Rec.v r := by
  obtain ⟨hl, h0⟩ := tv_field (k := 0) (o := 0) (u := 3) (n := 1) h (by rfl)
  obtain ⟨_, h1⟩ := tv_field (k := 1) (o := 1) (u := 3) (n := 1) h (by rfl)
  obtain ⟨_, h2⟩ := tv_field (k := 2) (o := 2) (u := 3) (n := 1) h (by rfl)
  have e : cx.P.cellsOf 70 = 3 := by rfl
  rw [e] at hl
  match us, hl with
  | [x, y, z], _ =>
    obtain ⟨a, ha, ra⟩ := tv_i64 u3' h0
    obtain ⟨b, hb, rb⟩ := tv_i64 u3' h1
    obtain ⟨c, hc, rc⟩ := tv_i64 u3' h2
    simp at ha hb hc
    subst ha; subst hb; subst hc
    exact ⟨⟨a, b, c⟩, mk_agg ⟨_, by rfl⟩⟩
theorem tv24 {m : Nat} {us : List V} (h : TV cx.P (m + 1 + 1 + 1 + 1) 24 us) : ∃ o : Ord, us = o.cs ∧ i64B o.a ∧ i64B o.b ∧ i64B o.c ∧ i64B o.d ∧ ∀ s ∈ o.os, spanB64 s := by
  obtain ⟨hl, h0⟩ := tv_field (k := 0) (o := 0) (u := 3) (n := 1) h (by rfl)
  obtain ⟨_, h1⟩ := tv_field (k := 1) (o := 1) (u := 3) (n := 1) h (by rfl)
  obtain ⟨_, h2⟩ := tv_field (k := 2) (o := 2) (u := 3) (n := 1) h (by rfl)
  obtain ⟨_, h3⟩ := tv_field (k := 3) (o := 3) (u := 3) (n := 1) h (by rfl)
  obtain ⟨_, h4⟩ := tv_field (k := 4) (o := 4) (u := 22) (n := 1) h (by rfl)
  have e : cx.P.cellsOf 24 = 5 := by rfl
  rw [e] at hl
  match us, hl with
  | [x0, x1, x2, x3, x4], _ =>
    obtain ⟨a, ha, ra⟩ := tv_i64 u3' h0
    obtain ⟨b, hb, rb⟩ := tv_i64 u3' h1
    obtain ⟨c, hc, rc⟩ := tv_i64 u3' h2
    obtain ⟨d, hd, rd⟩ := tv_i64 u3' h3
    obtain ⟨os, ho, ro⟩ := tv_row (e := 81) (f := Spn.v) (ok := spanB64) (by rfl) h4 (fun us _ h => let ⟨s, h1, _, h3⟩ := tv81 h; ⟨s, h1, h3⟩)
    simp at ha hb hc hd ho
    subst ha; subst hb; subst hc; subst hd; subst ho
    exact ⟨⟨a, b, c, d, os⟩, rfl, ra, rb, rc, rd, ro⟩
theorem ints_row {m : Nat} {us : List V} (h : TV cx.P (m + 1 + 1) 26 us) : ∃ l : List Int, us = [AM.vs .dead 1 (ints l)] ∧ ∀ n ∈ l, i64B n := by
  refine tv_row (e := 3) (f := V.i) (ok := i64B) (by rfl) h (fun us _ h => ?_)
  obtain ⟨n, rfl, hn⟩ := tv_i64 u3' h
  exact ⟨n, by simp [AM.mkV, u3'], hn⟩
end ZD

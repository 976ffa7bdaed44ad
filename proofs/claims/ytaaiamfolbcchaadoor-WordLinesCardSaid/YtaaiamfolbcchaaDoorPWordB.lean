/- The plain law of WordNumbers: a text's number, a number's text, a text's span, a span's text. -/
import Derived.Test.YtaaiamfolbcchaaDoorPWordA
namespace Go.Proofs.YtaaiamfolbcchaaDoor.Pure
set_option linter.unusedVariables false
set_option linter.unusedSimpArgs false
open Go.RowKit Go.Proofs.YtaaiamfolbcchaaDoor.Y0 Go.Proofs.YtaaiamfolbcchaaDoor.X1 Go.Proofs.YtaaiamfolbcchaaDoor.Ext Go.Proofs.YtaaiamfolbcchaaDoorW.PrintWords Go.Proofs.YtaaiamfolbcchaaDoorW.PrintLast Go.Proofs.YtaaiamfolbcchaaDoorW.PrintMore

theorem numR_err {l : List UInt8} {most : Int} (h : numT l = true) : (numR l most).2 = 0 ∨ numR l most = (0, 4) := by
  unfold numR
  rw [if_pos h]
  split
  · split
    · exact .inr rfl
    · exact .inl rfl
  · exact .inr rfl
/-- The span of two texts. -/
def spanP (p q : List UInt8) : Int × Int × Int :=
  if numT p = true ∧ numT q = true then
    (if (numR p 40320).2 = 0 then (if (numR q 40320).2 = 0 then (if (numR p 40320).1 ≥ (numR q 40320).1 then (0, 0, 3) else ((numR p 40320).1, (numR q 40320).1, 0)) else (0, 0, 4)) else (0, 0, 4))
  else (0, 0, 7)
def spanR (l : List UInt8) : Int × Int × Int := match splitL 45 l with
  | [p, q] => spanP p q
  | _ => (0, 0, 7)
theorem dash_no {l : List UInt8} (h : 45 ∈ l) : numT l = false := by
  unfold numT
  rw [Bool.and_eq_false_iff]
  left
  rw [List.all_eq_false]
  exact ⟨45, h, by decide⟩
theorem spanR_none {l : List UInt8} (h : 45 ∉ l) : spanR l = (0, 0, 7) := by unfold spanR; rw [splitL_none h]
theorem spanR_one {p q : List UInt8} (hp : 45 ∉ p) (hq : 45 ∉ q) : spanR (p ++ 45 :: q) = spanP p q := by unfold spanR; rw [splitL_hit q hp, splitL_none hq]
theorem spanR_two {p q : List UInt8} (hp : 45 ∉ p) (hq : 45 ∈ q) : spanR (p ++ 45 :: q) = (0, 0, 7) := by
  obtain ⟨a, b, rfl, ha⟩ := (cases_at q 45).resolve_left (fun h => h hq)
  unfold spanR
  rw [splitL_hit _ hp, splitL_hit _ ha]
  split
  · rename_i x y e
    injection e with e1 e2
    injection e2 with e3 e4
    exact absurd e4 (splitL_ne 45 b)
  · rfl
theorem wordSpan_parts (p q : List UInt8) (hp : p.length ≤ 4294967281) (hq : q.length ≤ 4294967281) :
    Ev (fun k => (word_decimal.f k (mk p)).bind fun t105 => (if t105 = true then ((word_decimal.f k (mk q)).bind fun t106 => (word_Span.j0 k (mk p) (mk q) (!t106))) else (word_Span.j0 k (mk p) (mk q) true))) (spanP p q) := by
  have j7 : Ev (fun k => word_Span.j0 k (mk p) (mk q) true) (0, 0, 7) := Ev.step (f := fun _ => some (0, 0, 7)) (fun k => by simp only [word_Span.j0]; rw [if_pos trivial]) (Ev.now _)
  refine Ev.bind (f := fun k t105 => (if t105 = true then ((word_decimal.f k (mk q)).bind fun t106 => (word_Span.j0 k (mk p) (mk q) (!t106))) else (word_Span.j0 k (mk p) (mk q) true))) (decimal_tells (mk p) hp) ?_
  rw [data_mk]
  unfold spanP
  by_cases h1 : numT p = true
  case neg =>
    rw [if_neg (fun h => h1 h.1)]
    exact Ev.congr (fun k => by rw [if_neg h1]) j7
  refine Ev.congr (f := fun k => (word_decimal.f k (mk q)).bind fun t106 => (word_Span.j0 k (mk p) (mk q) (!t106))) (fun k => by rw [if_pos h1]) ?_
  refine Ev.bind (f := fun k t106 => word_Span.j0 k (mk p) (mk q) (!t106)) (decimal_tells (mk q) hq) ?_
  rw [data_mk]
  by_cases h2 : numT q = true
  case neg =>
    rw [if_neg (fun h => h2 h.2)]
    exact Ev.congr (fun k => by rw [show (!numT q) = true by simpa using h2]) j7
  rw [if_pos ⟨h1, h2⟩, h2]
  have np := Number_tells (mk p) 40320 hp
  have nq := Number_tells (mk q) 40320 hq
  rw [data_mk] at np nq
  refine Ev.step (f := fun k => ((word_Number.f k (mk p) 40320).bind fun bt107 => (if bt107.2 = 0 then ((word_Number.f k (mk q) 40320).bind fun bt109 => (if bt109.2 = 0 then (if bt107.1 ≥ bt109.1 then (some (0, 0, 3)) else (some (bt107.1, bt109.1, 0))) else (some (0, 0, bt109.2)))) else (some (0, 0, bt107.2))))) (fun k => by simp only [word_Span.j0]; rw [if_neg (by decide)]) ?_
  refine Ev.bind (f := fun k bt107 => (if bt107.2 = 0 then ((word_Number.f k (mk q) 40320).bind fun bt109 => (if bt109.2 = 0 then (if bt107.1 ≥ bt109.1 then (some ((0 : Int), (0 : Int), (3 : Int))) else (some (bt107.1, bt109.1, 0))) else (some (0, 0, bt109.2)))) else (some (0, 0, bt107.2)))) np ?_
  by_cases e1 : (numR p 40320).2 = 0
  case neg =>
    rw [if_neg e1]
    have := (numR_err (most := 40320) h1).resolve_left e1
    exact Ev.congr (f := fun _ => some (0, 0, 4)) (fun k => by rw [if_neg e1, this]) (Ev.now _)
  rw [if_pos e1]
  refine Ev.congr (f := fun k => (word_Number.f k (mk q) 40320).bind fun bt109 => (if bt109.2 = 0 then (if (numR p 40320).1 ≥ bt109.1 then (some ((0 : Int), (0 : Int), (3 : Int))) else (some ((numR p 40320).1, bt109.1, 0))) else (some (0, 0, bt109.2)))) (fun k => by rw [if_pos e1]) ?_
  refine Ev.bind (f := fun k bt109 => (if bt109.2 = 0 then (if (numR p 40320).1 ≥ bt109.1 then (some ((0 : Int), (0 : Int), (3 : Int))) else (some ((numR p 40320).1, bt109.1, 0))) else (some (0, 0, bt109.2)))) nq ?_
  by_cases e2 : (numR q 40320).2 = 0
  case neg =>
    have := (numR_err (most := 40320) h2).resolve_left e2
    simp only [if_neg e2]
    rw [this]
    exact Ev.now _
  simp only [if_pos e2]
  refine Ev.congr (f := fun _ => some (if (numR p 40320).1 ≥ (numR q 40320).1 then (0, 0, 3) else ((numR p 40320).1, (numR q 40320).1, 0))) (fun k => ?_) (Ev.now _)
  by_cases h3 : (numR p 40320).1 ≥ (numR q 40320).1
  · rw [if_pos h3, if_pos h3]
  · rw [if_neg h3, if_neg h3]
theorem Span_tells (s : ByteArray) (hs : s.size ≤ 4294967280) : Ev (fun k => word_Span.f k s) (spanR s.data.toList) := by
  have hsz : s.size = s.data.toList.length := Lib.size_eq s
  unfold word_Span.f
  rcases cases_at s.data.toList 45 with h | ⟨p, q, e, hp⟩
  · rw [spanR_none h]
    have H := wordSpan_parts s.data.toList [] (by omega) (by simp)
    rw [show spanP s.data.toList [] = (0, 0, 7) from if_neg (fun h => by have := h.2; simp [numT, head48] at this)] at H
    exact Ev.congr (fun k => by rw [Cut_miss s 45 (by omega) h]; rfl) H
  · have hl : s.size = p.length + 1 + q.length := by rw [hsz, e]; simp; omega
    have H := wordSpan_parts p q (by omega) (by omega)
    have e2 : spanR s.data.toList = spanP p q := by
      rw [e]
      by_cases hq : 45 ∈ q
      · rw [spanR_two hp hq]
        unfold spanP
        rw [if_neg (fun h => by rw [dash_no hq] at h; exact absurd h.2 (by decide))]
      · exact spanR_one hp hq
    rw [e2]
    exact Ev.congr (fun k => by rw [Cut_hit s 45 p q (by omega) e hp]; rfl) H

/-! ### The document's span -/
theorem ref_end (p q : List UInt8) (hp : p.length ≤ 4294967280) (hq : q.length ≤ 4294967280) (i : Int) (hi : (p.length : Int) + 1 + q.length ≤ i) :
    Ev (fun k => haulierref06_Span.l0 k (mk (p ++ 45 :: q)) p.length i) (spanP p q) := by
  have hsz : ((mk (p ++ 45 :: q)).size : Int) = (p.length : Int) + 1 + q.length := by rw [size_mk]; simp; omega
  have x1 : (mk (p ++ 45 :: q)).extract 0 (p.length : Int).toNat = mk p := by rw [extract_mk]; simp
  have w1 : wrap64 ((p.length : Int) + 1) = (p.length : Int) + 1 := wrp (by omega) (by omega)
  have x2 : (mk (p ++ 45 :: q)).extract ((p.length : Int) + 1).toNat (mk (p ++ 45 :: q)).size = mk q := by
    rw [extract_mk, size_mk, show ((p.length : Int) + 1).toNat = p.length + 1 by omega]
    congr 1
    rw [List.take_of_length_le (by simp; omega)]
    simp
  have j7 : Ev (fun k => haulierref06_Span.j1 k (mk (p ++ 45 :: q)) p.length true) (0, 0, 7) := Ev.step (f := fun _ => some (0, 0, 7)) (fun k => by simp only [haulierref06_Span.j1]; rw [if_pos trivial]) (Ev.now _)
  refine Ev.step (f := fun k => ((haulierref06_Text.f k (mk p)).bind fun t128 => (if t128 = true then ((haulierref06_Text.f k (mk q)).bind fun t129 => (haulierref06_Span.j1 k (mk (p ++ 45 :: q)) p.length (!t129))) else (haulierref06_Span.j1 k (mk (p ++ 45 :: q)) p.length true)))) (fun k => ?_) ?_
  · simp only [haulierref06_Span.l0]
    rw [if_neg (by omega), if_neg (by omega), if_pos (by omega), if_pos (by omega), x1, w1, if_pos (show (0 : Int) ≤ (p.length : Int) + 1 by omega), if_pos (show (p.length : Int) + 1 ≤ ((mk (p ++ 45 :: q)).size : Int) by omega), x2]
  refine Ev.bind (f := fun k t128 => (if t128 = true then ((haulierref06_Text.f k (mk q)).bind fun t129 => (haulierref06_Span.j1 k (mk (p ++ 45 :: q)) p.length (!t129))) else (haulierref06_Span.j1 k (mk (p ++ 45 :: q)) p.length true))) (text_tells (mk p) (by rw [size_mk]; omega)) ?_
  rw [data_mk]
  unfold spanP
  by_cases h1 : numT p = true
  case neg =>
    rw [if_neg (fun h => h1 h.1)]
    exact Ev.congr (fun k => by rw [if_neg h1]) j7
  refine Ev.congr (f := fun k => (haulierref06_Text.f k (mk q)).bind fun t129 => (haulierref06_Span.j1 k (mk (p ++ 45 :: q)) p.length (!t129))) (fun k => by rw [if_pos h1]) ?_
  refine Ev.bind (f := fun k t129 => haulierref06_Span.j1 k (mk (p ++ 45 :: q)) p.length (!t129)) (text_tells (mk q) (by rw [size_mk]; omega)) ?_
  rw [data_mk]
  by_cases h2 : numT q = true
  case neg =>
    rw [if_neg (fun h => h2 h.2)]
    exact Ev.congr (fun k => by rw [show (!numT q) = true by simpa using h2]) j7
  rw [if_pos ⟨h1, h2⟩, h2]
  have np := refNumber_tells (mk p) 40320 (by rw [size_mk]; omega)
  have nq := refNumber_tells (mk q) 40320 (by rw [size_mk]; omega)
  rw [data_mk] at np nq
  refine Ev.step (f := fun k => ((haulierref06_Number.f k (mk p) 40320).bind fun bt130 => ((haulierref06_Number.f k (mk q) 40320).bind fun bt132 => (if bt130.2 = 0 then (haulierref06_Span.j2 k bt130.1 bt132.1 (bt132.2 != 0)) else (haulierref06_Span.j2 k bt130.1 bt132.1 true))))) (fun k => ?_) ?_
  · simp only [haulierref06_Span.j1]
    rw [if_neg (by decide), if_pos (by omega), if_pos (by omega), x1, w1]
    simp only [if_pos (show (0 : Int) ≤ (p.length : Int) + 1 by omega), if_pos (show (p.length : Int) + 1 ≤ ((mk (p ++ 45 :: q)).size : Int) by omega), x2]
  refine Ev.bind (f := fun k bt130 => ((haulierref06_Number.f k (mk q) 40320).bind fun bt132 => (if bt130.2 = 0 then (haulierref06_Span.j2 k bt130.1 bt132.1 (bt132.2 != 0)) else (haulierref06_Span.j2 k bt130.1 bt132.1 true)))) np ?_
  refine Ev.bind (f := fun k bt132 => (if (numR p 40320).2 = 0 then (haulierref06_Span.j2 k (numR p 40320).1 bt132.1 (bt132.2 != 0)) else (haulierref06_Span.j2 k (numR p 40320).1 bt132.1 true))) nq ?_
  have j4 : ∀ x y, Ev (fun k => haulierref06_Span.j2 k x y true) (0, 0, 4) := fun x y => Ev.step (f := fun _ => some (0, 0, 4)) (fun k => by simp only [haulierref06_Span.j2]; rw [if_pos trivial]) (Ev.now _)
  by_cases e1 : (numR p 40320).2 = 0
  case neg =>
    rw [if_neg e1]
    exact Ev.congr (fun k => by rw [if_neg e1]) (j4 _ _)
  rw [if_pos e1]
  by_cases e2 : (numR q 40320).2 = 0
  case neg =>
    rw [if_neg e2]
    exact Ev.congr (fun k => by rw [if_pos e1, show ((numR q 40320).2 != 0) = true by simpa using e2]) (j4 _ _)
  rw [if_pos e2]
  refine Ev.congr (f := fun k => haulierref06_Span.j2 k (numR p 40320).1 (numR q 40320).1 false) (fun k => by rw [if_pos e1, show ((numR q 40320).2 != 0) = false by simpa using e2]) ?_
  refine Ev.step (f := fun _ => some (if (numR p 40320).1 ≥ (numR q 40320).1 then (0, 0, 3) else ((numR p 40320).1, (numR q 40320).1, 0))) (fun k => ?_) (Ev.now _)
  simp only [haulierref06_Span.j2]
  rw [if_neg (by decide)]
  by_cases h3 : (numR p 40320).1 ≥ (numR q 40320).1
  · rw [if_pos h3, if_pos h3]
  · rw [if_neg h3, if_neg h3]
theorem mem_dash {c : UInt8} : ((c.toNat : Int) = 45) ↔ c = 45 := ⟨fun h => by
  have : c.toNat = 45 := by omega
  rw [← UInt8.ofNat_toNat (x := c), this]
  rfl, fun h => by rw [h]; rfl⟩
theorem ref_second (s : ByteArray) (hs : s.size ≤ 4294967280) (at_ : Int) (ha : 0 ≤ at_) : ∀ (rest : List UInt8) (i : Int), 0 ≤ i → s.data.toList.drop i.toNat = rest →
    (45 ∈ rest → Ev (fun k => haulierref06_Span.l0 k s at_ i) (0, 0, 7)) ∧ (45 ∉ rest → ∀ r : Int × Int × Int, (∀ j : Int, (s.size : Int) ≤ j → Ev (fun k => haulierref06_Span.l0 k s at_ j) r) → Ev (fun k => haulierref06_Span.l0 k s at_ i) r) := by
  intro rest
  induction rest with
  | nil =>
    intro i h0 h
    exact ⟨fun hm => absurd hm (by simp), fun _ r hr => hr i (drop_end h0 h)⟩
  | cons c r ih =>
    intro i h0 h
    obtain ⟨hlt, hb, hd, _⟩ := drop_at h0 h
    obtain ⟨i1, i2⟩ := ih (i + 1) (by omega) hd
    by_cases hc : c = 45
    · refine ⟨fun _ => Ev.step (f := fun _ => some (0, 0, 7)) (fun k => ?_) (Ev.now _), fun hm => absurd (by rw [hc]; exact List.mem_cons_self) hm⟩
      simp only [haulierref06_Span.l0]
      rw [if_pos hlt, if_pos h0, hb, if_pos (mem_dash.2 hc), if_pos ha]
    · have step : ∀ k, haulierref06_Span.l0 (k + 1) s at_ i = haulierref06_Span.l0 k s at_ (i + 1) := fun k => by
        simp only [haulierref06_Span.l0]
        rw [if_pos hlt, if_pos h0, hb, if_neg (fun e => hc (mem_dash.1 e)), wrp (n := i + 1) (by omega) (by omega)]
      refine ⟨fun hm => Ev.step step (i1 ?_), fun hm x hx => Ev.step step (i2 (fun e => hm (List.mem_cons_of_mem _ e)) x hx)⟩
      rcases List.mem_cons.1 hm with e | e
      · exact absurd e.symm hc
      · exact e
theorem refSpan_tells (s : ByteArray) (hs : s.size ≤ 4294967280) : Ev (fun k => haulierref06_Span.f k s) (spanR s.data.toList) := by
  have hsz : s.size = s.data.toList.length := Lib.size_eq s
  suffices H : ∀ (rest p : List UInt8) (i : Int), i = p.length → s.data.toList = p ++ rest → 45 ∉ p → Ev (fun k => haulierref06_Span.l0 k s (-1) i) (spanR s.data.toList) from H s.data.toList [] 0 rfl rfl (by simp)
  intro rest
  induction rest with
  | nil =>
    intro p i hi e hp
    have hd : s.data.toList.drop i.toNat = [] := by rw [e, hi]; simp
    have he := drop_end (by omega) hd
    rw [spanR_none (by rw [e]; simpa using hp)]
    refine Ev.step (f := fun k => haulierref06_Span.j1 k s (-1) true) (fun k => ?_) (Ev.step (f := fun _ => some (0, 0, 7)) (fun k => by simp only [haulierref06_Span.j1]; rw [if_pos trivial]) (Ev.now _))
    simp only [haulierref06_Span.l0]
    rw [if_neg (by omega), if_pos (by omega)]
  | cons c r ih =>
    intro p i hi e hp
    have hd0 : s.data.toList.drop i.toNat = c :: r := by rw [e, hi]; simp
    obtain ⟨hlt, hb, hd, _⟩ := drop_at (by omega) hd0
    by_cases hc : c = 45
    · subst hc
      obtain ⟨i1, i2⟩ := ref_second s hs i (by omega) r (i + 1) (by omega) hd
      refine Ev.step (f := fun k => haulierref06_Span.l0 k s i (i + 1)) (fun k => ?_) ?_
      · simp only [haulierref06_Span.l0]
        rw [if_pos hlt, if_pos (by omega), hb, if_pos (mem_dash.2 rfl), if_neg (by omega), wrp (n := i + 1) (by omega) (by omega)]
      · by_cases hr : 45 ∈ r
        · rw [e, spanR_two hp hr]
          exact i1 hr
        · rw [e, spanR_one hp hr]
          refine i2 hr _ (fun j hj => ?_)
          have hl : s.size = p.length + 1 + r.length := by rw [hsz, e]; simp; omega
          have := ref_end p r (by omega) (by omega) j (by omega)
          rw [← e, ← hi] at this
          exact this
    · have := ih (p ++ [c]) (i + 1) (by rw [hi]; simp) (by rw [e]; simp) (by simp only [List.mem_append, List.mem_singleton]; rintro (h | h); exact hp h; exact hc h.symm)
      refine Ev.step (f := fun k => haulierref06_Span.l0 k s (-1) (i + 1)) (fun k => ?_) this
      simp only [haulierref06_Span.l0]
      rw [if_pos hlt, if_pos (by omega), hb, if_neg (fun e => hc (mem_dash.1 e)), wrp (n := i + 1) (by omega) (by omega)]

/-! ### The law -/
theorem alive_span : Ev (fun k => word_Span.f k (⟨#[54, 48, 45, 57, 48]⟩ : ByteArray)) (60, 90, 0) := by
  have := Span_tells (⟨#[54, 48, 45, 57, 48]⟩ : ByteArray) (by decide)
  have e : spanR (⟨#[54, 48, 45, 57, 48]⟩ : ByteArray).data.toList = (60, 90, 0) := by decide +kernel
  rw [e] at this
  exact this
end Go.Proofs.YtaaiamfolbcchaaDoor.Pure

/- What functions of the program tell (numbers, records); what is handed in. No condition. -/
import Derived.Test.YtieenbjncimikaaGreatDoorSB
import Derived.Test.YtieenbjncimikaaGreatDoorAmE
set_option linter.all false
open Go Go.AM Go.Proofs Go.AM.Pl
set_option maxRecDepth 100000
namespace ZD
set_option maxHeartbeats 1000000 in
theorem s29 {lo : Nat} {l : List UInt8} {h : H} (h1 : l.length ≤ 300000) : den cx lo 29 [.t l] h = some (ordV (readO l), h) := by
  refine den_pure (fn := Tryz.f29) (by rfl) (by rfl) (by rfl) (by rfl) (by simp [Tryz.f29]) (by simp) ?_
  cases hs : splR l with
  | error p =>
    have e : readO l = zer 7 := by unfold readO; rw [hs]
    rw [e]
    simp (maxSteps := 2000000) (disch := first | omega | (simp; done) | (simp; omega) | assumption) [Tryz.f29, argsE, s42, hs, resV, boxV, boxO, fresh_no, List.filter_cons, setB, aggN, op_build, List.set, Cl1_tup, Cl1_agg, Cl1_vs, ordV, Ord.v, Ord.cs, OrdR.o, OrdR.e, zer, spns]
  | ok ws =>
    have e : readO l = ordR (ws.map (·.2)) := by unfold readO; rw [hs]
    have hc := splR_count hs
    have hw := splR_wl hs
    have e91 := s91 (lo := h.length) (ws := ws) (h := h) (by omega) (fun x hx => by have := hw x hx; omega)
    rw [e]
    simp only [ordV, Ord.v, Ord.cs] at e91 ⊢
    simp (maxSteps := 2000000) (disch := first | omega | (simp; done) | (simp; omega) | assumption) [Tryz.f29, argsE, s42, hs, resV, boxV, boxO, fresh_no, List.filter_cons, setB, aggN, op_build, List.set, Cl1_tup, Cl1_agg, Cl1_vs, e91]
set_option maxHeartbeats 1000000 in
theorem s112 {lo : Nat} {l : List UInt8} {h : H} (h1 : l.length < 4294967281) : den cx lo 112 [.t l] h = some (.tup [.agg [.i (spanR l).1, .i (spanR l).2.1], .i (spanR l).2.2], h) := by
  refine den_pure (fn := Tryz.f112) (by rfl) (by rfl) (by rfl) (by rfl) (by simp [Tryz.f112]) (by simp) ?_
  simp (maxSteps := 2000000) (disch := first | omega | (simp; done) | (simp; omega) | assumption) [Tryz.f112, argsE, boxV, boxO, fresh_no, List.filter_cons, setB, aggN, op_build, List.set]
  obtain ⟨I, hI⟩ : ∃ I : Nat → List Ent → List (Nat × List V) → H → Prop, I = (fun n vs lb g => ∃ (j : Nat) (at_ : Int), n + j = l.length ∧ ((at_ = -1 ∧ 45 ∉ l.take j) ∨ ∃ p q, at_ = (p.length : Int) ∧ l.take j = p ++ 45 :: q ∧ 45 ∉ p ∧ 45 ∉ q) ∧ vs = [.v (.i j), .v (.i at_)] ∧ lb = [(2, [.i 0, .i 0])] ∧ g = h) := ⟨_, rfl⟩
  refine Wp.loopQ I (n := l.length) (by rw [hI]; exact ⟨0, -1, by simp, .inl ⟨rfl, by simp⟩, by simp, by simp, by simp⟩) ?_
  intro n vs lb g hi Q hQ; rw [hI] at hi; obtain ⟨j, at_, hj, hat, rfl, rfl, rfl⟩ := hi
  by_cases hlt : j < l.length
  · have hlt' : (j : Int) < l.length := by omega
    have ht : l.take (j + 1) = l.take j ++ [l[j]] := List.take_succ_eq_append_getElem hlt
    have hd : l = l.take j ++ l[j] :: l.drop (j + 1) := by rw [← List.drop_eq_getElem_cons hlt, List.take_append_drop]
    by_cases q : l[j] = 45
    · have q' := is45.2 q
      rcases hat with ⟨rfl, hno⟩ | ⟨p, r, rfl, he, hp, hr⟩
      · have go : I (n - 1) [.v (.i ((j : Int) + 1)), .v (.i j)] [(2, [.i 0, .i 0])] g := by
          rw [hI]; exact ⟨j + 1, j, by omega, .inr ⟨l.take j, [], by simp; omega, by rw [ht, q], hno, by simp⟩, by simp, rfl, rfl⟩
        clear hI
        simp (maxSteps := 2000000) (disch := first | omega | (simp; done) | (simp; omega) | assumption) [isC, hlt, q', wrap64]
        exact ⟨n - 1, by omega, go⟩
      · have e : spanR l = (0, 0, 7) := by rw [hd, he, q, List.append_assoc]; exact spanR_two hp (by simp)
        have hp0 : (0 : Int) ≤ p.length := by omega
        clear hI he
        simp (maxSteps := 2000000) (disch := first | omega | (simp; done) | (simp; omega) | assumption) [isC, hlt, q', wrap64, boxV, boxO, fresh_no, List.filter_cons, setB, aggN, op_build, List.set, hp0]
        refine hQ _ _ ?_
        simp (maxSteps := 2000000) (disch := first | omega | (simp; done) | (simp; omega) | assumption) [boxV, boxO, fresh_no, List.filter_cons, setB, aggN, op_build, List.set, Cl1_tup, Cl1_agg, Cl1_vs, e]
    · have q' : ¬ (l[j].toNat : Int) = 45 := fun e => q (is45.1 e)
      have go : I (n - 1) [.v (.i ((j : Int) + 1)), .v (.i at_)] [(2, [.i 0, .i 0])] g := by
        rw [hI]; refine ⟨j + 1, at_, by omega, ?_, by simp, rfl, rfl⟩
        rcases hat with ⟨rfl, hno⟩ | ⟨p, r, rfl, he, hp, hr⟩
        · exact .inl ⟨rfl, fun e => by
            rw [ht] at e
            rcases List.mem_append.1 e with e | e
            · exact hno e
            · exact q (List.mem_singleton.1 e).symm⟩
        · exact .inr ⟨p, r ++ [l[j]], rfl, by rw [ht, he]; simp, hp, fun e => by
            rcases List.mem_append.1 e with e | e
            · exact hr e
            · exact q (List.mem_singleton.1 e).symm⟩
      clear hI hat
      simp (maxSteps := 2000000) (disch := first | omega | (simp; done) | (simp; omega) | assumption) [isC, hlt, q', wrap64]
      exact ⟨n - 1, by omega, go⟩
  · obtain rfl : j = l.length := by omega
    rw [List.take_length] at hat
    clear hI
    simp (maxSteps := 2000000) (disch := first | omega | (simp; done) | (simp; omega) | assumption) []
    refine hQ _ _ ?_
    clear hQ
    rcases hat with ⟨rfl, hno⟩ | ⟨p, q, rfl, rfl, hp, hq⟩
    · simp (maxSteps := 2000000) (disch := first | omega | (simp; done) | (simp; omega) | assumption) [isC, boxV, boxO, fresh_no, List.filter_cons, setB, aggN, op_build, List.set, Cl1_tup, Cl1_agg, Cl1_vs, spanR_none hno]
    · simp at h1
      have ht : (p ++ 45 :: q).take p.length = p := by simp
      have hdr : (p ++ 45 :: q).drop (p.length + 1) = q := by simp
      have hp0 : ¬ ((p.length : Int) < 0) := by omega
      have hw : IntKind.i64.wrap ((p.length : Int) + 1) = (p.length : Int) + 1 := wrap64 (by omega) (by omega)
      rw [spanR_one hp hq]
      by_cases hn : numT p = true
      case neg => simp (maxSteps := 2000000) (disch := first | omega | (simp; done) | (simp; omega) | assumption) [isC, boxV, boxO, fresh_no, List.filter_cons, setB, aggN, op_build, List.set, Cl1_tup, Cl1_agg, Cl1_vs, hp0, hw, s151, hn, spanP]
      by_cases hn2 : numT q = true
      case neg => simp (maxSteps := 2000000) (disch := first | omega | (simp; done) | (simp; omega) | assumption) [isC, boxV, boxO, fresh_no, List.filter_cons, setB, aggN, op_build, List.set, Cl1_tup, Cl1_agg, Cl1_vs, hp0, hw, s151, hn, hn2, spanP]
      rcases numR_err (most := 40320) hn with h2 | h2 <;> rcases numR_err (most := 40320) hn2 with h3 | h3
      · by_cases h4 : (numR q 40320).1 ≤ (numR p 40320).1 <;> simp (maxSteps := 2000000) (disch := first | omega | (simp; done) | (simp; omega) | assumption) [isC, boxV, boxO, fresh_no, List.filter_cons, setB, aggN, op_build, List.set, Cl1_tup, Cl1_agg, Cl1_vs, hp0, hw, s151, s110, hn, hn2, spanP, h2, h3, h4]
      · simp (maxSteps := 2000000) (disch := first | omega | (simp; done) | (simp; omega) | assumption) [isC, boxV, boxO, fresh_no, List.filter_cons, setB, aggN, op_build, List.set, Cl1_tup, Cl1_agg, Cl1_vs, hp0, hw, s151, s110, hn, hn2, spanP, h2, h3]
      · simp (maxSteps := 2000000) (disch := first | omega | (simp; done) | (simp; omega) | assumption) [isC, boxV, boxO, fresh_no, List.filter_cons, setB, aggN, op_build, List.set, Cl1_tup, Cl1_agg, Cl1_vs, hp0, hw, s151, s110, hn, hn2, spanP, h2, h3]
      · simp (maxSteps := 2000000) (disch := first | omega | (simp; done) | (simp; omega) | assumption) [isC, boxV, boxO, fresh_no, List.filter_cons, setB, aggN, op_build, List.set, Cl1_tup, Cl1_agg, Cl1_vs, hp0, hw, s151, s110, hn, hn2, spanP, h2, h3]
/-- A line's words, or none. -/
def wrdV (x : List (List UInt8) × Bool) : V := .tup [AM.vs .dead 1 (strs x.1), .b x.2]
@[simp] theorem clo_strs (k : Nat) (l : List (List UInt8)) : (strs l).all (clo (k + 1)) = true := by simp [strs]
set_option maxHeartbeats 1000000 in
theorem s49 {lo : Nat} {l : List UInt8} {h : H} (h1 : l.length ≤ 300000) : den cx lo 49 [.t l] h = some (wrdV (wordsR l), h) := by
  refine den_pure (fn := Tryz.f49) (by rfl) (by rfl) (by rfl) (by rfl) (by simp [Tryz.f49]) (by simp) ?_
  cases hs : splR l with
  | error p =>
    have e : wordsR l = ([], false) := by unfold wordsR; rw [hs]
    rw [e]
    simp (maxSteps := 2000000) (disch := first | omega | (simp; done) | (simp; omega) | assumption) [Tryz.f49, argsE, s108, hs, resV, isC, Cl1_tup, Cl1_agg, Cl1_vs, wrdV, strs]
  | ok ws =>
    by_cases hws : ws = []
    · have e : wordsR l = ([], false) := by unfold wordsR; rw [hs]; simp [hws]
      rw [e]
      simp (maxSteps := 2000000) (disch := first | omega | (simp; done) | (simp; omega) | assumption) [Tryz.f49, argsE, s108, hs, resV, isC, Cl1_tup, Cl1_agg, Cl1_vs, wrdV, strs, hws, wds]
    have e : wordsR l = (ws.map (·.2), true) := by unfold wordsR; rw [hs]; simp [hws]
    have hc := splR_count hs
    have hl0 : ¬ (ws.length = 0) := fun e => hws (List.length_eq_zero_iff.1 e)
    rw [e]
    simp (maxSteps := 2000000) (disch := first | omega | (simp; done) | (simp; omega) | assumption) [Tryz.f49, argsE, s108, hs, resV, isC, hl0, hws]
    refine Wp.loopI (fun n vs lb g => ∃ (j : Nat) (t : Tk), n + j = ws.length ∧ Apd h.length g t ∧ h.length ≤ g.length ∧ vs = [.v (.i j), .v (AM.vs t 1 (strs ((ws.take j).map (·.2))))] ∧ lb = []) (n := ws.length) ⟨0, .nil, by simp, by simp, by simp, by simp [strs], by simp⟩ ?_
    rintro n vs lb g ⟨j, t, hj, ha, hg, rfl, rfl⟩
    simp
    split
    · rename_i hlt
      simp (maxSteps := 2000000) (disch := first | omega | (simp; done) | (simp; omega) | assumption) [wds, wdv, elemsV, isC, wrap64, hlt]
      exact ⟨n - 1, by omega, j + 1, by omega, .tip g.length, Apd_ap hg, by omega, by omega, by simp [strs, List.take_add_one, hlt]⟩
    · obtain rfl : n = 0 := by omega
      obtain rfl : j = ws.length := by omega
      simp (maxSteps := 2000000) (disch := first | omega | (simp; done) | (simp; omega) | assumption) [Cl1_tup, Cl1_agg, Cl1_vs, wrdV, List.take_of_length_le]
/-- Numbers, or what is wrong. -/
def numV (x : List Int × Int) : V := .tup [AM.vs .dead 1 (ints x.1), .i x.2]
theorem ints_snoc {l : List Int} {x : Int} : ints (l ++ [x]) = ints l ++ [.i x] := by simp [ints]
@[simp] theorem clo_ints (k : Nat) (l : List Int) : (ints l).all (clo (k + 1)) = true := by simp [ints]
end ZD
open Go Go.AM Go.Proofs Go.AM.Pl
set_option maxRecDepth 100000
namespace ZD
set_option maxHeartbeats 4000000 in
theorem s52 {lo : Nat} {ls : List (List UInt8)} {load : Int} {h : H} (h1 : ls.length ≤ 100000000) (h2 : ∀ x ∈ ls, x.length ≤ 4294967280) : den cx lo 52 [AM.vs .dead 1 (strs ls), .i load] h = some (numV (numsR load 0 ls []), h) := by
  refine den_pure (fn := Tryz.f52) (by rfl) (by rfl) (by rfl) (by rfl) (by simp [Tryz.f52]) (by simp) ?_
  simp (maxSteps := 2000000) (disch := first | omega | (simp; done) | (simp; omega) | assumption) [Tryz.f52, argsE]
  obtain ⟨I, hI⟩ : ∃ I : Nat → List Ent → List (Nat × List V) → H → Prop, I = (fun n vs lb g => ∃ (j : Nat) (t : Tk) (out : List Int), n + j = ls.length ∧ out.length ≤ j ∧ Apd h.length g t ∧ h.length ≤ g.length ∧ numsR load 0 ls [] = numsR load j (ls.drop j) out ∧ vs = [.v (.i j), .v (AM.vs t 1 (ints out))] ∧ lb = []) := ⟨_, rfl⟩
  refine Wp.loopQ I (n := ls.length) (by rw [hI]; exact ⟨0, .nil, [], by simp, by simp, by simp, by simp, by simp, by simp [ints], by simp⟩) ?_
  intro n vs lb g hi Q hQ; rw [hI] at hi; obtain ⟨j, t, out, hj, ho, ha, hg, he, rfl, rfl⟩ := hi
  by_cases hlt : j < ls.length
  case neg =>
    obtain rfl : j = ls.length := by omega
    rw [List.drop_of_length_le (Nat.le_refl _)] at he
    simp only [numsR] at he
    clear hI
    simp (maxSteps := 2000000) (disch := first | omega | (simp; done) | (simp; omega) | assumption) []
    refine hQ _ _ ?_
    rw [he]
    simp (maxSteps := 2000000) (disch := first | omega | (simp; done) | (simp; omega) | assumption) [Cl1_tup, Cl1_agg, Cl1_vs, numV]
  have hlt' : (j : Int) < ls.length := by omega
  have hwl := h2 _ (List.getElem_mem hlt)
  rw [List.drop_eq_getElem_cons hlt] at he
  simp only [numsR] at he
  have hgo : ∀ x : Int, one9 load j ls[j] = (x, 0) → I (n - 1) [.v (.i ((j : Int) + 1)), .v (AM.vs (.tip g.length) 1 (ints out ++ [.i x]))] [] (apH g t) := by
    intro x hx
    rw [hx, if_pos rfl] at he
    rw [hI]; exact ⟨j + 1, .tip g.length, out ++ [x], by omega, by simp; omega, Apd_ap hg, by simp; omega, he, by rw [ints_snoc]; simp, rfl⟩
  have hbad : ∀ e : Int, e ≠ 0 → (one9 load j ls[j]).2 = e → numsR load 0 ls [] = ([], e) := by
    intro e h0 hx
    rw [he, if_neg (by rw [hx]; exact h0), hx]
  have fin : ∀ e : Int, numsR load 0 ls [] = ([], e) → ∀ s : St, getE s.env 4 = .v (AM.vs .nil 0 []) → getE s.env 5 = .v (.i e) → Q .ret s := by
    intro e he s k1 k2
    refine hQ _ _ ?_
    rw [he]
    simp (maxSteps := 2000000) (disch := first | omega | (simp; done) | (simp; omega) | assumption) [k1, k2, Cl1_tup, Cl1_agg, Cl1_vs, numV, ints]
  clear he hI hQ
  by_cases hl : (j : Int) = load
  · subst hl
    have o9 : one9 (j : Int) j ls[j] = sgnR ls[j] := if_pos rfl
    rw [o9] at hgo hbad
    generalize hw : ls[j] = w at *
    have hr := numR_range w.tail M9
    by_cases hm : isMin w = true
    · obtain ⟨r, rfl⟩ : ∃ r, w = 45 :: r := by
        cases w with
        | nil => simp [isMin] at hm
        | cons c r => by_cases hc : c = 45
                      · exact ⟨r, by rw [hc]⟩
                      · rw [isMin_not hc] at hm; cases hm
      simp at hwl
      simp only [List.tail_cons] at hr
      have hpos : (0 : Int) < (r.length : Int) + 1 := by omega
      by_cases h3 : (numR r M9).2 = 0
      · by_cases h4 : (numR r M9).1 = 0
        · have hb := fin 7 (hbad 7 (by decide) (by simp [sgnR, isMin, h3, h4]))
          simp only [M9] at h3 h4
          simp (maxSteps := 2000000) (disch := first | omega | (simp; done) | (simp; omega) | assumption) [isC, strs, wrap64, hlt, hw, s110, h3, h4, hpos]
          exact hb _ rfl rfl
        · have go := hgo (-(numR r M9).1) (by simp [sgnR, isMin, h3, h4])
          simp only [M9] at h3 h4 hr go
          simp (maxSteps := 2000000) (disch := first | omega | (simp; done) | (simp; omega) | assumption) [isC, strs, wrap64, hlt, hw, s110, h3, h4, hpos, elemsV]
          exact ⟨n - 1, by omega, go⟩
      · have hb := fin (numR r M9).2 (hbad _ h3 (by simp [sgnR, isMin, h3]))
        simp only [M9] at h3 hb
        simp (maxSteps := 2000000) (disch := first | omega | (simp; done) | (simp; omega) | assumption) [isC, strs, wrap64, hlt, hw, s110, h3, hpos]
        exact hb _ rfl rfl
    · have o8 : sgnR w = numR w M9 := by simp [sgnR, hm]
      rw [o8] at hgo hbad
      have hr := numR_range w M9
      have hq : w = [] ∨ ∃ c r, w = c :: r ∧ ¬ (c.toNat : Int) = 45 := by
        cases w with
        | nil => exact .inl rfl
        | cons c r => exact .inr ⟨c, r, rfl, fun e => by rw [is45.1 e] at hm; exact hm rfl⟩
      rcases hq with rfl | ⟨c, r, rfl, hc⟩
      · have h3 : (numR [] M9).2 = 7 := rfl
        have hb := fin 7 (hbad _ (by decide) h3)
        have e7 : numR [] 1000000000 = (0, 7) := rfl
        simp (maxSteps := 2000000) (disch := first | omega | (simp; done) | (simp; omega) | assumption) [isC, strs, wrap64, hlt, hw, s110, e7]
        exact hb _ rfl rfl
      · simp at hwl
        have hpos : (0 : Int) < (r.length : Int) + 1 := by omega
        by_cases h3 : (numR (c :: r) M9).2 = 0
        · have go := hgo (numR (c :: r) M9).1 (by rw [← h3])
          simp only [M9] at h3 hr go
          simp (maxSteps := 2000000) (disch := first | omega | (simp; done) | (simp; omega) | assumption) [isC, strs, wrap64, hlt, hw, hc, hpos, s110, h3, elemsV]
          exact ⟨n - 1, by omega, go⟩
        · have hb := fin (numR (c :: r) M9).2 (hbad _ h3 rfl)
          simp only [M9] at h3 hb
          simp (maxSteps := 2000000) (disch := first | omega | (simp; done) | (simp; omega) | assumption) [isC, strs, wrap64, hlt, hw, hc, hpos, s110, h3]
          exact hb _ rfl rfl
  · have o9 : one9 load j ls[j] = numR ls[j] M9 := if_neg hl
    rw [o9] at hgo hbad
    have hr := numR_range ls[j] M9
    by_cases h3 : (numR ls[j] M9).2 = 0
    · have go := hgo (numR ls[j] M9).1 (by rw [← h3])
      simp only [M9] at h3 hr go
      simp (maxSteps := 2000000) (disch := first | omega | (simp; done) | (simp; omega) | assumption) [isC, strs, wrap64, hlt, hl, s110, h3, elemsV]
      exact ⟨n - 1, by omega, go⟩
    · have hb := fin (numR ls[j] M9).2 (hbad _ h3 rfl)
      simp only [M9] at h3 hb
      simp (maxSteps := 2000000) (disch := first | omega | (simp; done) | (simp; omega) | assumption) [isC, strs, wrap64, hlt, hl, s110, h3]
      exact hb _ rfl rfl
end ZD
open Go Go.AM Go.Proofs Go.AM.Pl
set_option maxRecDepth 100000
namespace ZD
set_option maxHeartbeats 4000000 in
theorem s109 {lo : Nat} {ls : List (List UInt8)} {h : H} (h1 : ls.length ≤ 100000000) (h2 : ∀ x ∈ ls, x.length < 4294967280) : den cx lo 109 [AM.vs .dead 1 (strs ls)] h = some (ordV (ordR ls), h) := by
  refine den_pure (fn := Tryz.f109) (by rfl) (by rfl) (by rfl) (by rfl) (by simp [Tryz.f109]) (by simp) ?_
  by_cases hl : ls.length < 5
  · have e : ordR ls = zer 7 := by
      match ls, hl with
      | [], _ | [_], _ | [_, _], _ | [_, _, _], _ | [_, _, _, _], _ => rfl
    have hl' : (ls.length : Int) < 5 := by omega
    rw [e]
    simp (maxSteps := 2000000) (disch := first | omega | (simp; done) | (simp; omega) | assumption) [Tryz.f109, argsE, hl, hl', isC, boxV, boxO, fresh_no, List.filter_cons, setB, aggN, op_build, List.set, Cl1_tup, Cl1_agg, Cl1_vs, ordV, Ord.v, Ord.cs, OrdR.o, OrdR.e, zer, spns]
  obtain ⟨w0, w1, w2, w3, w4, r, rfl⟩ : ∃ w0 w1 w2 w3 w4 r, ls = w0 :: w1 :: w2 :: w3 :: w4 :: r := by
    match ls, hl with
    | [], h | [_], h | [_, _], h | [_, _, _], h | [_, _, _, _], h => exact absurd (by simp) h
    | w0 :: w1 :: w2 :: w3 :: w4 :: r, _ => exact ⟨w0, w1, w2, w3, w4, r, rfl⟩
  have hl' : ¬ ((r.length : Int) + 1 + 1 + 1 + 1 + 1 < 5) := by omega
  have hl2 : (0 : Int) < (r.length : Int) + 1 + 1 + 1 + 1 + 1 := by omega
  by_cases hw : w0 = ordW
  case neg =>
    have e : ordR (w0 :: w1 :: w2 :: w3 :: w4 :: r) = zer 7 := if_neg hw
    have hw' : ¬ w0 = [111, 114, 100, 101, 114] := hw
    rw [e]
    simp (maxSteps := 2000000) (disch := first | omega | (simp; done) | (simp; omega) | assumption) [Tryz.f109, argsE, hl', hl2, isC, boxV, boxO, fresh_no, List.filter_cons, setB, aggN, op_build, List.set, Cl1_tup, Cl1_agg, Cl1_vs, ordV, Ord.v, Ord.cs, OrdR.o, OrdR.e, zer, spns, strs, hw']
  have e0 : ordR (w0 :: w1 :: w2 :: w3 :: w4 :: r) = ord5 w1 w2 w3 w4 r := if_pos hw
  rw [e0]
  have hw' : w0 = [111, 114, 100, 101, 114] := hw
  simp only [List.mem_cons, forall_eq_or_imp] at h2
  obtain ⟨_, g1, g2, g3, g4, g5⟩ := h2
  have e52 := s52 (lo := h.length) (ls := [w1, w2, w3, w4]) (load := 2) (h := h) (by simp) (by simp; omega)
  simp only [strs, List.map_cons, List.map_nil] at e52
  have hnum := nums4 w1 w2 w3 w4
  by_cases k1 : (numR w1 M9).2 = 0
  case neg =>
    rw [if_neg k1] at hnum
    rw [hnum] at e52
    simp (maxSteps := 2000000) (disch := first | omega | (simp; done) | (simp; omega) | assumption) [Tryz.f109, argsE, hl', hl2, isC, boxV, boxO, fresh_no, List.filter_cons, setB, aggN, op_build, List.set, Cl1_tup, Cl1_agg, Cl1_vs, ordV, Ord.v, Ord.cs, OrdR.o, OrdR.e, zer, spns, strs, hw', e52, numV, k1, ord5]
  rw [if_pos k1] at hnum
  by_cases k2 : (numR w2 M9).2 = 0
  case neg =>
    rw [if_neg k2] at hnum
    rw [hnum] at e52
    simp (maxSteps := 2000000) (disch := first | omega | (simp; done) | (simp; omega) | assumption) [Tryz.f109, argsE, hl', hl2, isC, boxV, boxO, fresh_no, List.filter_cons, setB, aggN, op_build, List.set, Cl1_tup, Cl1_agg, Cl1_vs, ordV, Ord.v, Ord.cs, OrdR.o, OrdR.e, zer, spns, strs, hw', e52, numV, k1, k2, ord5]
  rw [if_pos k2] at hnum
  by_cases k3 : (sgnR w3).2 = 0
  case neg =>
    rw [if_neg k3] at hnum
    rw [hnum] at e52
    simp (maxSteps := 2000000) (disch := first | omega | (simp; done) | (simp; omega) | assumption) [Tryz.f109, argsE, hl', hl2, isC, boxV, boxO, fresh_no, List.filter_cons, setB, aggN, op_build, List.set, Cl1_tup, Cl1_agg, Cl1_vs, ordV, Ord.v, Ord.cs, OrdR.o, OrdR.e, zer, spns, strs, hw', e52, numV, k1, k2, k3, ord5]
  rw [if_pos k3] at hnum
  by_cases k4 : (numR w4 M9).2 = 0
  case neg =>
    rw [if_neg k4] at hnum
    rw [hnum] at e52
    simp (maxSteps := 2000000) (disch := first | omega | (simp; done) | (simp; omega) | assumption) [Tryz.f109, argsE, hl', hl2, isC, boxV, boxO, fresh_no, List.filter_cons, setB, aggN, op_build, List.set, Cl1_tup, Cl1_agg, Cl1_vs, ordV, Ord.v, Ord.cs, OrdR.o, OrdR.e, zer, spns, strs, hw', e52, numV, k1, k2, k3, k4, ord5]
  rw [if_pos k4] at hnum
  rw [hnum] at e52
  have e5 : ord5 w1 w2 w3 w4 r = if (spansR r []).2 = 0 then ((numR w1 M9).1, (numR w2 M9).1, (sgnR w3).1, (numR w4 M9).1, (spansR r []).1, 0) else zer (spansR r []).2 := by
    simp [ord5, k1, k2, k3, k4]
  rw [e5]
  clear e5 hnum k1 k2 k3 k4 e0
  generalize (numR w1 M9).1 = a1 at *
  generalize (numR w2 M9).1 = a2 at *
  generalize (sgnR w3).1 = a3 at *
  generalize (numR w4 M9).1 = a4 at *
  simp only [numV, ints, List.map_cons, List.map_nil] at e52
  simp (maxSteps := 2000000) (disch := first | omega | (simp; done) | (simp; omega) | assumption) [Tryz.f109, argsE, hl', hl2, isC, boxV, boxO, fresh_no, List.filter_cons, setB, aggN, op_build, List.set, strs, hw', e52, foot, Op.operands, opTmps]
  refine ⟨indep_of bf109_6 (by rfl), ?_⟩
  clear e52
  obtain ⟨J, hJ⟩ : ∃ J : Nat → List Ent → List (Nat × List V) → H → Prop, J = (fun n vs lb g' => ∃ (j : Nat) (t : Tk) (os : List Spn), n + j = r.length ∧ os.length ≤ j ∧ spansR r [] = spansR (r.drop j) os ∧ Apd h.length g' t ∧ h.length ≤ g'.length ∧ vs = [.v (.i ((j : Int) + 5))] ∧
    lb = [(6, [.i a1, .i a2, .i a3, .i a4, AM.vs t 2 (spns os)]), (2, [.i 0, .i 0, .i 0, .i 0, AM.vs .nil 0 []])]) := ⟨_, rfl⟩
  refine Wp.loopQ J (n := r.length) (by rw [hJ]; exact ⟨0, .nil, [], by simp, by simp, by simp, by simp, by simp, by simp, by simp [spns]⟩) ?_
  intro n vs lb g' hi Q hQ; rw [hJ] at hi; obtain ⟨j, t, os, hj, ho, he, ha, hg, rfl, rfl⟩ := hi
  have hrl : r.length ≤ 100000000 := by simp at h1; omega
  by_cases hlt : j < r.length
  · have hlt5 : (j : Int) + 5 < (r.length : Int) + 1 + 1 + 1 + 1 + 1 := by omega
    have hwl := g5 _ (List.getElem_mem hlt)
    have hwl' : r[j].length < 4294967281 := by omega
    have htn : ((j : Int) + 5).toNat = j + 5 := by omega
    rw [List.drop_eq_getElem_cons hlt] at he
    simp only [spansR] at he
    by_cases q : (spanR r[j]).2.2 = 0
    · rw [if_pos q] at he
      have go : J (n - 1) [.v (.i ((j : Int) + 5 + 1))] [(6, [.i a1, .i a2, .i a3, .i a4, AM.vs (.tip g'.length) 2 (spns os ++ [Spn.v ⟨(spanR r[j]).1, (spanR r[j]).2.1⟩])]), (2, [.i 0, .i 0, .i 0, .i 0, AM.vs .nil 0 []])] (apH g' t) := by
        rw [hJ]; exact ⟨j + 1, .tip g'.length, os ++ [⟨(spanR r[j]).1, (spanR r[j]).2.1⟩], by omega, by simp; omega, he, Apd_ap hg, by simp; omega, by simp; omega, by rw [spns_snoc]⟩
      clear hJ he
      simp (maxSteps := 2000000) (disch := first | omega | (simp; done) | (simp; omega) | assumption) [isC, boxV, boxO, fresh_no, List.filter_cons, setB, aggN, op_build, List.set, s112, q, wrap64, hlt, hlt5, htn, hwl', elemsV]
      exact ⟨n - 1, by omega, go⟩
    · rw [if_neg q] at he
      clear hJ
      simp (maxSteps := 2000000) (disch := first | omega | (simp; done) | (simp; omega) | assumption) [isC, boxV, boxO, fresh_no, List.filter_cons, setB, aggN, op_build, List.set, s112, q, wrap64, hlt, hlt5, htn, hwl', elemsV]
      refine hQ _ _ ?_
      rw [he]
      simp (maxSteps := 2000000) (disch := first | omega | (simp; done) | (simp; omega) | assumption) [boxV, boxO, fresh_no, List.filter_cons, setB, aggN, op_build, List.set, Cl1_tup, Cl1_agg, Cl1_vs, ordV, Ord.v, Ord.cs, OrdR.o, OrdR.e, zer, spns, q]
  · obtain rfl : j = r.length := by omega
    have hlt5 : ¬ ((r.length : Int) + 5 < (r.length : Int) + 1 + 1 + 1 + 1 + 1) := by omega
    rw [List.drop_of_length_le (Nat.le_refl _)] at he
    simp only [spansR] at he
    clear hJ
    simp (maxSteps := 2000000) (disch := first | omega | (simp; done) | (simp; omega) | assumption) [hlt5]
    refine hQ _ _ ?_
    rw [he]
    clear he
    simp (maxSteps := 2000000) (disch := first | omega | (simp; done) | (simp; omega) | assumption) [boxV, boxO, fresh_no, List.filter_cons, setB, aggN, op_build, List.set, Cl1_tup, Cl1_agg, Cl1_vs, ordV, Ord.v, Ord.cs, OrdR.o, OrdR.e]
end ZD
open Go Go.AM Go.Proofs Go.AM.Pl
set_option maxRecDepth 100000
set_option maxHeartbeats 4000000
namespace ZD
structure Rec where
  k : Int
  f : Int
  t : Int
  deriving DecidableEq
def Rec.v (r : Rec) : V := .agg [.i r.k, .i r.f, .i r.t]
def recs (l : List Rec) : List V := l.map Rec.v
@[simp] theorem fg_rec (r : Rec) : fg r.v = r.v := rfl
@[simp] theorem fgL_recs (l : List Rec) : fgL (recs l) = recs l := fgL_mapE _ (fun _ => rfl) l
@[simp] theorem recs_len (l : List Rec) : (recs l).length = l.length := by simp [recs]
@[simp] theorem clo_recs (k : Nat) (l : List Rec) : (recs l).all (clo (k + 2)) = true := by simp [recs, Rec.v]
def kOk (n : Int) : Bool := decide (0 ≤ n) && decide (n < 4)
def inR (n : Int) : Bool := decide (0 ≤ n) && decide (n ≤ 40320)
def recE (r : Rec) : Int := if kOk r.k = true then (if inR r.f = true then (if inR r.t = true then (if r.t ≤ r.f then 3 else 0) else 4) else 4) else 2
theorem s198 {lo : Nat} {n : Int} {h : H} : den cx lo 198 [.i n] h = some (.b (kOk n), h) := by
  refine den_pure (fn := Tryz.f198) (by rfl) (by rfl) (by rfl) (by rfl) (by simp [Tryz.f198]) (by simp) ?_
  by_cases h1 : 0 ≤ n <;> simp (maxSteps := 2000000) (disch := first | omega | (simp; done) | (simp; omega) | assumption) [Tryz.f198, argsE, isC, h1, kOk]
theorem s199 {lo : Nat} {n : Int} {h : H} : den cx lo 199 [.i n] h = some (.b (inR n), h) := by
  refine den_pure (fn := Tryz.f199) (by rfl) (by rfl) (by rfl) (by rfl) (by simp [Tryz.f199]) (by simp) ?_
  by_cases h1 : 0 ≤ n <;> simp (maxSteps := 2000000) (disch := first | omega | (simp; done) | (simp; omega) | assumption) [Tryz.f199, argsE, isC, h1, inR]
theorem s173 {lo : Nat} {r : Rec} {h : H} : den cx lo 173 [r.v] h = some (.i (recE r), h) := by
  refine den_pure (fn := Tryz.f173) (by rfl) (by rfl) (by rfl) (by rfl) (by simp [Tryz.f173]) (by simp) ?_
  by_cases c1 : kOk r.k = true
  case neg => simp (maxSteps := 2000000) (disch := first | omega | (simp; done) | (simp; omega) | assumption) [Tryz.f173, argsE, Rec.v, boxV, boxO, fresh_no, List.filter_cons, setB, aggN, op_build, List.set, s198, c1, recE, isC]
  by_cases c2 : inR r.f = true
  case neg => simp (maxSteps := 2000000) (disch := first | omega | (simp; done) | (simp; omega) | assumption) [Tryz.f173, argsE, Rec.v, boxV, boxO, fresh_no, List.filter_cons, setB, aggN, op_build, List.set, s198, s199, c1, c2, recE, isC]
  by_cases c3 : inR r.t = true
  case neg => simp (maxSteps := 2000000) (disch := first | omega | (simp; done) | (simp; omega) | assumption) [Tryz.f173, argsE, Rec.v, boxV, boxO, fresh_no, List.filter_cons, setB, aggN, op_build, List.set, s198, s199, c1, c2, c3, recE, isC]
  by_cases c4 : r.t ≤ r.f <;> simp (maxSteps := 2000000) (disch := first | omega | (simp; done) | (simp; omega) | assumption) [Tryz.f173, argsE, Rec.v, boxV, boxO, fresh_no, List.filter_cons, setB, aggN, op_build, List.set, s198, s199, c1, c2, c3, c4, recE, isC]
/-- A kind's letter. -/
def letR (k : Int) : UInt8 := if k = 0 then 82 else if k = 1 then 65 else if k = 2 then 87 else 68
/-- A record's line. -/
def lineR (r : Rec) : List UInt8 := letR r.k :: 32 :: toldL r.f r.t
end ZD
open Go Go.AM Go.Proofs Go.AM.Pl
set_option maxRecDepth 100000
set_option maxHeartbeats 4000000
namespace ZD
/-- Where the first one is that is not so. -/
def fstNot {α : Type} (p : α → Bool) (l : List α) : Int := match l.findIdx? (fun x => !p x) with
  | some i => i
  | none => -1
theorem fst_neg {α : Type} {p : α → Bool} {l : List α} : (0 ≤ fstNot p l) ↔ l.all p = false := by
  unfold fstNot
  cases h : l.findIdx? (fun x => !p x) with
  | none =>
    rw [List.findIdx?_eq_none_iff] at h
    have : l.all p = true := by rw [List.all_eq_true]; intro x hx; simpa using h x hx
    simp [this]
  | some i =>
    rw [List.findIdx?_eq_some_iff_getElem] at h
    obtain ⟨hi, h1, _⟩ := h
    have : l.all p = false := by rw [List.all_eq_false]; exact ⟨_, List.getElem_mem hi, by simpa using h1⟩
    simp [this]
theorem fst_at {α : Type} {p : α → Bool} {l : List α} {j : Nat} (hj : j < l.length) (h1 : (l.take j).all p = true) (h2 : p l[j] = false) : fstNot p l = j := by
  have : l.findIdx? (fun x => !p x) = some j := by
    rw [List.findIdx?_eq_some_iff_getElem]
    refine ⟨hj, by simp [h2], fun i hi => ?_⟩
    have := List.all_eq_true.1 h1 l[i] (by rw [List.mem_iff_getElem]; exact ⟨i, by simp; omega, by simp⟩)
    simp [this]
  unfold fstNot; rw [this]
theorem fst_no {α : Type} {p : α → Bool} {l : List α} (h1 : l.all p = true) : fstNot p l = -1 := by
  have : l.findIdx? (fun x => !p x) = none := by
    rw [List.findIdx?_eq_none_iff]; intro x hx; simpa using List.all_eq_true.1 h1 x hx
  unfold fstNot; rw [this]
theorem take_all {α : Type} {p : α → Bool} {l : List α} {j : Nat} (hj : j < l.length) (h : p l[j] = true) (h0 : (l.take j).all p = true) : (l.take (j + 1)).all p = true := by
  rw [List.take_succ_eq_append_getElem hj, List.all_append, h0]; simp [h]
def spanOk (s : Spn) : Bool := !(decide (s.f0 < 0) || decide (40320 < s.f1) || decide (s.f1 ≤ s.f0))
/-- Can an order be told? -/
def ordOk (o : Ord) : Bool := okAll [o.a, o.b, o.d] && (decide (-1000000000 ≤ o.c) && decide (o.c ≤ 1000000000)) && o.os.all spanOk
end ZD
open Go Go.AM Go.Proofs Go.AM.Pl
set_option maxRecDepth 100000
set_option maxHeartbeats 4000000
namespace Go.AM
/-- A field's place, type and cells. -/
def fieldAt (P : Program) (t : TypeId) (k : Nat) : Option (Nat × TypeId × Nat) := match P.underlying t with
  | some (.struct fs) => (fs[k]?).map fun f => (f.offset, f.type, P.cellsOf f.type)
  | _ => none
theorem tv_str {P : Program} {m t : Nat} {us : List V} (hu : P.underlying t = some .string) (h : TV P (m + 1) t us) : ∃ l : List UInt8, us = [.t l] := by
  simp only [TV, hu] at h
  obtain ⟨s, rfl, _⟩ := h
  exact ⟨s.data.toList, rfl⟩
end Go.AM
namespace ZD
@[simp] theorem recs_get {l : List Rec} {j : Nat} (h : j < (recs l).length) : (recs l)[j] = (l[j]'(by simpa using h)).v := by simp [recs]
@[simp] theorem ints_get {l : List Int} {j : Nat} (h : j < (ints l).length) : (ints l)[j] = .i (l[j]'(by simpa using h)) := by simp [ints]
@[simp] theorem spns_get {l : List Spn} {j : Nat} (h : j < (spns l).length) : (spns l)[j] = Spn.v (l[j]'(by simpa using h)) := by simp [spns]
@[simp] theorem wds_get {l : List Wd} {j : Nat} (h : j < (wds l).length) : (wds l)[j] = wdv (l[j]'(by simpa using h)) := by simp [wds]
@[simp] theorem strs_get {l : List (List UInt8)} {j : Nat} (h : j < (strs l).length) : (strs l)[j] = .t (l[j]'(by simpa using h)) := by simp [strs]
theorem u9' : cx.P.underlying 9 = some .string := by rfl
end ZD

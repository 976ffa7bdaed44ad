/- What functions of the program tell (words, numbers, spans). No condition. -/
import Derived.Test.YtieenbjncimikaaGreatDoorBCx
set_option linter.all false
open Go Go.AM Go.Proofs
set_option maxRecDepth 100000
namespace ZD
def ints (l : List Int) : List V := l.map V.i
@[simp] theorem fgL_ints (l : List Int) : fgL (ints l) = ints l := fgL_mapE _ (fun _ => rfl) l
def ok1 (n : Int) : Bool := 0 ≤ n && n ≤ 1000000000
def okAll (l : List Int) : Bool := l.all ok1
end ZD
open Go Go.AM Go.Proofs Go.AM.Pl
set_option maxRecDepth 100000
namespace ZD
@[simp] theorem bs_data {l : List UInt8} : (bs l).data.toList = l := rfl
theorem u8_is {c : UInt8} {n : Nat} (hn : n < 256) : ((c.toNat : Int) = n) ↔ c = UInt8.ofNat n := by
  constructor
  · intro h
    apply UInt8.toNat_inj.1
    rw [UInt8.toNat_ofNat']; omega
  · rintro rfl
    rw [UInt8.toNat_ofNat']; omega
theorem is48 {c : UInt8} : ((c.toNat : Int) = 48) ↔ c = 48 := u8_is (n := 48) (by omega)
theorem is32 {c : UInt8} : ((c.toNat : Int) = 32) ↔ c = 32 := u8_is (n := 32) (by omega)
@[simp] theorem mostLen_eq : mostLen = 70368744177664 := rfl
def strs (l : List (List UInt8)) : List V := l.map V.t
@[simp] theorem fgL_strs (l : List (List UInt8)) : fgL (strs l) = strs l := fgL_mapE _ (fun _ => rfl) l
@[simp] theorem strs_len (l : List (List UInt8)) : (strs l).length = l.length := by simp [strs]
@[simp] theorem ints_len (l : List Int) : (ints l).length = l.length := by simp [ints]
def Spn.v (s : Spn) : V := .agg [.i s.f0, .i s.f1]
@[simp] theorem fg_spn (s : Spn) : fg (Spn.v s) = Spn.v s := rfl
def spns (l : List Spn) : List V := l.map Spn.v
@[simp] theorem fgL_spns (l : List Spn) : fgL (spns l) = spns l := fgL_mapE _ (fun _ => rfl) l
@[simp] theorem spns_len (l : List Spn) : (spns l).length = l.length := by simp [spns]
def wdv (x : Wd) : V := .agg [.i x.1, .t x.2]
def wds (l : List Wd) : List V := l.map wdv
@[simp] theorem fgL_wds (l : List Wd) : fgL (wds l) = wds l := fgL_mapE _ (fun _ => rfl) l
@[simp] theorem wds_len (l : List Wd) : (wds l).length = l.length := by simp [wds]
theorem d143 {lo : Nat} {n : Int} {h : H} (hn : i64B n) : den cx lo 143 [.i n] h = some (.t (Lib.itoa n), h) := den_prim (g := pItoa) (by rfl) (by show (if _ then _ else _) = _; exact if_pos hn)
theorem d114 {lo : Nat} {t : Tk} {l : List (List UInt8)} {sep : List UInt8} {h : H} (h1 : l.length ≤ 140737488355328) (h2 : (Lib.join l sep).length ≤ 140737488355328) : den cx lo 114 [AM.vs t 1 (strs l), .t sep] h = some (.t (Lib.join l sep), h) := by
  refine den_prim (g := pJoin) (by rfl) ?_
  have e : fgL [AM.vs t 1 (strs l), .t sep] = [V.vsl .dead (if strs l = [] then 0 else 1) (strs l), .t sep] := by rw [fgL_cons, fg_vs, fgL_strs]; rfl
  rw [e]
  simp only [pJoin, bs_data]
  unfold strs
  rw [texts_map, Option.bind_some]
  exact if_pos ⟨h1, h2⟩
theorem s95 {lo : Nat} {n : Int} {h : H} (hn : i64B n) : den cx lo 95 [.i n] h = some (.t (Lib.itoa n), h) := by
  refine den_pure (fn := Tryz.f95) (by rfl) (by rfl) (by rfl) (by rfl) (by simp [Tryz.f95]) (by simp) ?_
  simp (maxSteps := 2000000) (disch := first | omega | (simp; done) | (simp; omega) | assumption) [Tryz.f95, argsE, d143, hn]
theorem s59 {lo : Nat} {l : List (List UInt8)} {h : H} (h1 : l.length ≤ 140737488355328) (h2 : (jn l).length ≤ 140737488355328) : den cx lo 59 [AM.vs .dead 1 (strs l)] h = some (.t (jn l), h) := by
  refine den_pure (fn := Tryz.f59) (by rfl) (by rfl) (by rfl) (by rfl) (by simp [Tryz.f59]) (by simp) ?_
  simp (maxSteps := 2000000) (disch := first | omega | (simp; done) | (simp; omega) | assumption) [Tryz.f59, argsE, elemsV, d114, jn]
@[simp] theorem jn_nil : jn [] = [] := by simp [jn, Lib.join, List.intercalate]
theorem s92 {lo : Nat} {s : Spn} {h : H} (ha : i64B s.f0) (hb : i64B s.f1) : den cx lo 92 [Spn.v s] h = some (.t (toldL s.f0 s.f1), h) := by
  refine den_pure (fn := Tryz.f92) (by rfl) (by rfl) (by rfl) (by rfl) (by simp [Tryz.f92]) (by simp) ?_
  have := itoa_len _ ha.1 ha.2
  have := itoa_len _ hb.1 hb.2
  simp (maxSteps := 2000000) (disch := first | omega | (simp; done) | (simp; omega) | assumption) [Tryz.f92, argsE, Spn.v, boxV, boxO, fresh, Ent.isLp, List.filter_cons, setB, aggN, op_build, List.set, add_str, foot, Op.operands, opTmps, toldL, s95, ha, hb]
  rfl
theorem all_no {l : List UInt8} {j : Nat} (hj : j < l.length) (h : isDig l[j] = false) : numT l = false := by
  unfold numT
  rw [show l.all isDig = false from List.all_eq_false.2 ⟨_, List.getElem_mem hj, by simp [h]⟩]; rfl
theorem all_more {l : List UInt8} {j : Nat} (hj : j < l.length) (h : isDig l[j] = true) (h0 : (l.take j).all isDig = true) : (l.take (j + 1)).all isDig = true := by
  rw [List.take_succ_eq_append_getElem hj, List.all_append, h0]; simp [h]
theorem s150 {lo : Nat} {l : List UInt8} {h : H} (h1 : l.length ≤ 140737488355328) : den cx lo 150 [.t l] h = some (.b (numT l), h) := by
  refine den_pure (fn := Tryz.f150) (by rfl) (by rfl) (by rfl) (by rfl) (by simp [Tryz.f150]) (by simp) ?_
  simp (maxSteps := 2000000) (disch := first | omega | (simp; done) | (simp; omega) | assumption) [Tryz.f150, argsE]
  refine Wp.loopI (fun n vs lb g => ∃ (j : Nat), n + j = l.length ∧ (l.take j).all isDig = true ∧ vs = [.v (.i j)] ∧ lb = [] ∧ g = h) (n := l.length) ⟨0, by simp, by simp, by simp, by simp, by simp⟩ ?_
  rintro n vs lb g ⟨j, hj, ha, rfl, rfl, rfl⟩
  simp
  split
  · rename_i hlt
    by_cases q1 : (l[j].toNat : Int) < 48 <;> by_cases q2 : (57 : Int) < l[j].toNat <;> simp (maxSteps := 2000000) (disch := first | omega | (simp; done) | (simp; omega) | assumption) [isC, wrap64, hlt, q1, q2]
    · exact all_no hlt (by simp [isDig]; omega)
    · exact all_no hlt (by simp [isDig]; omega)
    · exact all_no hlt (by simp [isDig]; omega)
    · have := all_more hlt (by simp [isDig]; omega) ha
      exact ⟨n - 1, by omega, j + 1, by omega, by simpa using this, by simp⟩
  · rw [List.take_of_length_le (by omega)] at ha
    have e : numT l = head48 l := by unfold numT; rw [ha]; rfl
    rw [e]
    clear ha hj e h1
    cases l with
    | nil => simp (maxSteps := 2000000) (disch := first | omega | (simp; done) | (simp; omega) | assumption) [isC, head48]
    | cons c r => by_cases q1 : c = 48 <;> by_cases q2 : r = [] <;> simp (maxSteps := 2000000) (disch := first | omega | (simp; done) | (simp; omega) | assumption) [isC, head48, q1, q2, is48]
theorem d174 {lo : Nat} {l : List UInt8} {h : H} (hn : numT l = true) (hl : l.length ≤ 140737488355328) : den cx lo 174 [.t l, .i 10, .i 64] h = some (if val l < 9223372036854775808 then .tup [.i (val l), .s .nilIface] else .tup [.i 9223372036854775807, .ifc 249 .undef], h) := by
  refine den_prim (g := pParse 249) (by rfl) ?_
  show (if numT l = true ∧ (bs l).size ≤ 281474976710656 then (if val l < 9223372036854775808 then some (V.tup [.i (val l), .s .nilIface]) else some (.tup [.i 9223372036854775807, .ifc 249 .undef])) else none) = _
  rw [if_pos ⟨hn, by show l.length ≤ _; omega⟩]; split <;> rfl
theorem s147 {lo : Nat} {l : List UInt8} {m : Int} {h : H} (h1 : l.length ≤ 140737488355328) : den cx lo 147 [.t l, .i m] h = some (.tup [.i (numR l m).1, .i (numR l m).2], h) := by
  refine den_pure (fn := Tryz.f147) (by rfl) (by rfl) (by rfl) (by rfl) (by simp [Tryz.f147]) (by simp) ?_
  by_cases hn : numT l = true
  · by_cases hv : val l < 9223372036854775808
    · by_cases hm : m < (val l : Int) <;> simp (maxSteps := 2000000) (disch := first | omega | (simp; done) | (simp; omega) | assumption) [Tryz.f147, argsE, s150, d174, h1, hn, hv, numR, hm, isC, Cl1_tup, Cl1_agg, Cl1_vs]
    · simp (maxSteps := 2000000) (disch := first | omega | (simp; done) | (simp; omega) | assumption) [Tryz.f147, argsE, s150, d174, h1, hn, hv, numR, isC, Cl1_tup, Cl1_agg, Cl1_vs]
  · simp (maxSteps := 2000000) (disch := first | omega | (simp; done) | (simp; omega) | assumption) [Tryz.f147, argsE, s150, hn, numR, Cl1_tup, Cl1_agg, Cl1_vs]
end ZD
open Go Go.AM Go.Proofs Go.AM.Pl
set_option maxRecDepth 100000
namespace ZD
theorem cutL_none {c : UInt8} : ∀ {l : List UInt8}, c ∉ l → cutL c l = (l, [], false)
  | [], _ => rfl
  | x :: r, h => by
    have h1 : ¬ x = c := fun e => h (by simp [e])
    have h2 := cutL_none (l := r) (c := c) fun e => h (by simp [e])
    simp only [cutL, h1, if_false, h2]
theorem cutL_hit {c : UInt8} : ∀ {p : List UInt8} (q : List UInt8), c ∉ p → cutL c (p ++ c :: q) = (p, q, true)
  | [], q, _ => by simp [cutL]
  | x :: p, q, h => by
    have h1 : ¬ x = c := fun e => h (by simp [e])
    have h2 := cutL_hit (p := p) (c := c) q fun e => h (by simp [e])
    simp only [List.cons_append, cutL, h1, if_false, h2]
theorem d149 {lo : Nat} {l : List UInt8} {c : UInt8} {h : H} (hl : l.length < 4294967281) : den cx lo 149 [.t l, .t [c]] h = some (.tup [.t (cutL c l).1, .t (cutL c l).2.1, .b (cutL c l).2.2], h) := by
  refine den_prim (g := pCut) (by rfl) ?_
  show (if (bs l).size < 4294967281 then some (V.tup [.t (cutL c l).1, .t (cutL c l).2.1, .b (cutL c l).2.2]) else none) = _
  rw [bs_size, if_pos hl]
theorem s107 {lo : Nat} {l : List UInt8} {h : H} (h1 : l.length < 4294967281) : den cx lo 107 [.t l] h = some (.tup [.agg [.i (spanR l).1, .i (spanR l).2.1], .i (spanR l).2.2], h) := by
  refine den_pure (fn := Tryz.f107) (by rfl) (by rfl) (by rfl) (by rfl) (by simp [Tryz.f107]) (by simp) ?_
  rcases cases_at l 45 with hno | ⟨p, q, rfl, hp⟩
  · have e0 : numT [] = false := rfl
    by_cases hn : numT l = true <;> simp (maxSteps := 2000000) (disch := first | omega | (simp; done) | (simp; omega) | assumption) [Tryz.f107, argsE, boxV, boxO, fresh, Ent.isLp, List.filter_cons, setB, aggN, op_build, List.set, d149, cutL_none hno, s150, e0, hn, spanR_none hno, Cl1_tup, Cl1_agg, Cl1_vs, isC]
  · simp at h1
    by_cases hq : 45 ∈ q
    · have e0 := dash_no hq
      by_cases hn : numT p = true <;> simp (maxSteps := 2000000) (disch := first | omega | (simp; done) | (simp; omega) | assumption) [Tryz.f107, argsE, boxV, boxO, fresh, Ent.isLp, List.filter_cons, setB, aggN, op_build, List.set, d149, cutL_hit q hp, s150, e0, hn, spanR_two hp hq, Cl1_tup, Cl1_agg, Cl1_vs, isC]
    · rw [spanR_one hp hq]
      by_cases hn : numT p = true
      case neg => simp (maxSteps := 2000000) (disch := first | omega | (simp; done) | (simp; omega) | assumption) [Tryz.f107, argsE, boxV, boxO, fresh, Ent.isLp, List.filter_cons, setB, aggN, op_build, List.set, d149, cutL_hit q hp, s150, hn, Cl1_tup, Cl1_agg, Cl1_vs, isC, spanP]
      by_cases hn2 : numT q = true
      case neg => simp (maxSteps := 2000000) (disch := first | omega | (simp; done) | (simp; omega) | assumption) [Tryz.f107, argsE, boxV, boxO, fresh, Ent.isLp, List.filter_cons, setB, aggN, op_build, List.set, d149, cutL_hit q hp, s150, hn, hn2, Cl1_tup, Cl1_agg, Cl1_vs, isC, spanP]
      rcases numR_err (most := 40320) hn with h2 | h2
      case inr => simp (maxSteps := 2000000) (disch := first | omega | (simp; done) | (simp; omega) | assumption) [Tryz.f107, argsE, boxV, boxO, fresh, Ent.isLp, List.filter_cons, setB, aggN, op_build, List.set, d149, cutL_hit q hp, s150, s147, hn, hn2, Cl1_tup, Cl1_agg, Cl1_vs, isC, spanP, h2]
      rcases numR_err (most := 40320) hn2 with h3 | h3
      case inr => simp (maxSteps := 2000000) (disch := first | omega | (simp; done) | (simp; omega) | assumption) [Tryz.f107, argsE, boxV, boxO, fresh, Ent.isLp, List.filter_cons, setB, aggN, op_build, List.set, d149, cutL_hit q hp, s150, s147, hn, hn2, Cl1_tup, Cl1_agg, Cl1_vs, isC, spanP, h2, h3]
      by_cases h4 : (numR q 40320).1 ≤ (numR p 40320).1 <;> simp (maxSteps := 2000000) (disch := first | omega | (simp; done) | (simp; omega) | assumption) [Tryz.f107, argsE, boxV, boxO, fresh, Ent.isLp, List.filter_cons, setB, aggN, op_build, List.set, d149, cutL_hit q hp, s150, s147, hn, hn2, Cl1_tup, Cl1_agg, Cl1_vs, isC, spanP, h2, h3, h4]
end ZD
open Go Go.AM Go.Proofs Go.AM.Pl
set_option maxRecDepth 100000
namespace ZD
@[simp] theorem vs_succ {t : Tk} {n : Nat} : AM.vs t (n + 1) [] = AM.vs t 0 [] := rfl
/-- What a splitting hands back. -/
def resV : Except Nat (List Wd) → V
  | .ok ws => .tup [AM.vs .dead 2 (wds ws), .i 0, .i 0]
  | .error p => .tup [AM.vs .dead 2 [], .i p, .i 7]
@[simp] theorem clo_wds (k : Nat) (ws : List Wd) : (wds ws).all (clo (k + 2)) = true := by simp [wds, wdv]
theorem wds_snoc {ws : List Wd} {x : Wd} : wds (ws ++ [x]) = wds ws ++ [wdv x] := by simp [wds]
theorem map_map' {α : Type} (e : Except Nat (List α)) (a b : List α) : (e.map (b ++ ·)).map (a ++ ·) = e.map (a ++ b ++ ·) := by cases e <;> simp [Except.map]
theorem prt_lo {c : UInt8} (h : (c.toNat : Int) < 33) : prt c = false := by
  cases hp : prt c with
  | false => rfl
  | true => have := prt_iff.1 hp; omega
theorem prt_hi {c : UInt8} (h : 126 < (c.toNat : Int)) : prt c = false := by
  cases hp : prt c with
  | false => rfl
  | true => have := prt_iff.1 hp; omega
theorem spl_bad {f : Nat} {cur r : List UInt8} {c : UInt8} (h1 : c ≠ 32) (h2 : prt c = false) : spl f cur (c :: r) = .error (f + cur.length) := by simp [spl, h1, h2]
theorem spl_good {f : Nat} {cur r : List UInt8} {c : UInt8} (h1 : c ≠ 32) (h2 : prt c = true) : spl f cur (c :: r) = spl f (cur ++ [c]) r := by simp [spl, h1, h2]
theorem spl_sp {f : Nat} {cur r : List UInt8} (h : cur ≠ []) : spl f cur (32 :: r) = (spl (f + cur.length + 1) [] r).map ([(f, cur)] ++ ·) := by simp [spl, h]
theorem spl_sp0 {f : Nat} {r : List UInt8} : spl f [] (32 :: r) = .error f := by simp [spl]
theorem cur_len {l : List UInt8} {f j : Nat} (hj : j ≤ l.length) : ((l.drop f).take (j - f)).length = j - f := by simp; omega
theorem cur_more {l : List UInt8} {f j : Nat} (hf : f ≤ j) (hj : j < l.length) : (l.drop f).take (j + 1 - f) = (l.drop f).take (j - f) ++ [l[j]] := by
  have hk : j - f < (l.drop f).length := by simp; omega
  rw [show j + 1 - f = (j - f) + 1 by omega, List.take_succ_eq_append_getElem hk, List.getElem_drop]
  congr 3; omega
theorem cur_ne {l : List UInt8} {f j : Nat} (hf : f < j) (hj : j ≤ l.length) : (l.drop f).take (j - f) ≠ [] := by
  intro e; have := cur_len (f := f) hj; rw [e] at this; simp at this; omega
set_option maxHeartbeats 1000000 in
theorem s42 {lo : Nat} {l : List UInt8} {h : H} (h1 : l.length ≤ 4294967281) : den cx lo 42 [.t l] h = some (resV (splR l), h) := by
  refine den_pure (fn := Tryz.f42) (by rfl) (by rfl) (by rfl) (by rfl) (by simp [Tryz.f42]) (by simp) ?_
  by_cases hl : l = []
  · subst hl
    simp (maxSteps := 2000000) (disch := first | omega | (simp; done) | (simp; omega) | assumption) [Tryz.f42, argsE]
    refine Wp.loopI (fun n vs lb g => vs = [.v (.i 0), .v (.i 0), .v (AM.vs .nil 0 [])] ∧ lb = [] ∧ g = h) (n := 0) ⟨by simp, by simp, by simp⟩ ?_
    rintro n vs lb g ⟨rfl, rfl, rfl⟩
    simp (maxSteps := 2000000) (disch := first | omega | (simp; done) | (simp; omega) | assumption) [Cl1_tup, Cl1_agg, Cl1_vs, splR, resV, wds]
  have e0 : splR l = spl 0 [] l := if_neg hl
  simp (maxSteps := 2000000) (disch := first | omega | (simp; done) | (simp; omega) | assumption) [Tryz.f42, argsE]
  obtain ⟨I, hI⟩ : ∃ I : Nat → List Ent → List (Nat × List V) → H → Prop, I = (fun n vs lb g => ∃ (j f : Nat) (t : Tk) (out : List Wd), n + j = l.length ∧ f ≤ j ∧ out.length ≤ j ∧ Apd h.length g t ∧ h.length ≤ g.length ∧ splR l = (spl f ((l.drop f).take (j - f)) (l.drop j)).map (out ++ ·) ∧ vs = [.v (.i j), .v (.i f), .v (AM.vs t 2 (wds out))] ∧ lb = []) := ⟨_, rfl⟩
  refine Wp.loopI I (n := l.length) (by rw [hI]; exact ⟨0, 0, .nil, [], by simp, by simp, by simp, by simp, by simp, by simp [e0]; cases spl 0 [] l <;> rfl, by simp [wds], by simp⟩) ?_
  intro n vs lb g hi; rw [hI] at hi; obtain ⟨j, f, t, out, hj, hf, ho, ha, hg, he, rfl, rfl⟩ := hi
  by_cases hlt : j < l.length
  case neg =>
    obtain rfl : j = l.length := by omega
    rw [List.drop_of_length_le (Nat.le_refl _)] at he
    by_cases hfl : f = l.length
    · subst hfl
      rw [List.drop_of_length_le (Nat.le_refl _)] at he
      rw [he]
      simp (maxSteps := 2000000) (disch := first | omega | (simp; done) | (simp; omega) | assumption) [Cl1_tup, Cl1_agg, Cl1_vs, hl, spl, resV, Except.map]
    · have hne : l.drop f ≠ [] := by intro e; have := congrArg List.length e; simp at this; omega
      have hfl' : ¬ (f : Int) = l.length := by omega
      have e2 : List.take (l.length - f) (l.drop f) = l.drop f := List.take_of_length_le (by simp)
      rw [e2] at he
      rw [he]
      clear he e0 hI
      simp (maxSteps := 2000000) (disch := first | omega | (simp; done) | (simp; omega) | assumption) [Cl1_tup, Cl1_agg, Cl1_vs, hl, spl, resV, Except.map, hfl', boxV, boxO, fresh, Ent.isLp, List.filter_cons, setB, aggN, op_build, List.set, isC, elemsV, hne]
      rw [wds_snoc, fgL_app, fgL_wds]; rfl
  have hlt' : (j : Int) < l.length := by omega
  have hd : l.drop j = l[j] :: l.drop (j + 1) := List.drop_eq_getElem_cons hlt
  have hcl := cur_len (l := l) (f := f) (j := j) (by omega)
  rw [hd] at he
  by_cases h32 : l[j] = 32
  · have hi32 := is32.2 h32
    rw [h32] at he
    by_cases hfj : f < j
    · have hfj' : (f : Int) < j := by omega
      rw [spl_sp (cur_ne hfj (by omega)), map_map', hcl, show f + (j - f) + 1 = j + 1 by omega] at he
      have go : I (n - 1) [.v (.i (j + 1)), .v (.i (j + 1)), .v (AM.vs (.tip g.length) 2 (wds (out ++ [(f, (l.drop f).take (j - f))])))] [] (apH g t) := by
        rw [hI]; exact ⟨j + 1, j + 1, .tip g.length, out ++ [(f, (l.drop f).take (j - f))], by omega, by omega, by simp; omega, Apd_ap hg, by simp; omega, by rw [he, Nat.sub_self, List.take_zero], by simp, rfl⟩
      clear he e0 hI
      simp (maxSteps := 2000000) (disch := first | omega | (simp; done) | (simp; omega) | assumption) [isC, hlt, hlt', hi32, hfj, hfj', wrap64, boxV, boxO, fresh, Ent.isLp, List.filter_cons, setB, aggN, op_build, List.set, elemsV]
      rw [wds_snoc] at go
      exact ⟨n - 1, by omega, go⟩
    · obtain rfl : f = j := by omega
      rw [Nat.sub_self, List.take_zero, spl_sp0] at he
      rw [he]
      clear he e0 hI
      simp (maxSteps := 2000000) (disch := first | omega | (simp; done) | (simp; omega) | assumption) [isC, hlt, hlt', hi32, wrap64, Cl1_tup, Cl1_agg, Cl1_vs, resV, Except.map]
  · have hi32 : ¬ (l[j].toNat : Int) = 32 := fun e => h32 (is32.1 e)
    have bad : prt l[j] = false → splR l = .error j := fun hp => by rw [he, spl_bad h32 hp, hcl]; simp [Except.map]; omega
    have go : prt l[j] = true → I (n - 1) [.v (.i (j + 1)), .v (.i f), .v (AM.vs t 2 (wds out))] [] g := fun hp => by
      rw [spl_good h32 hp, ← cur_more hf hlt] at he
      rw [hI]; exact ⟨j + 1, f, t, out, by omega, by omega, by omega, ha, hg, he, by simp, rfl⟩
    clear he e0 hI
    by_cases q1 : (l[j].toNat : Int) < 33
    · rw [bad (prt_lo q1)]; simp (maxSteps := 2000000) (disch := first | omega | (simp; done) | (simp; omega) | assumption) [isC, hlt, hlt', hi32, q1, wrap64, Cl1_tup, Cl1_agg, Cl1_vs, resV]
    by_cases q2 : (126 : Int) < l[j].toNat
    · rw [bad (prt_hi q2)]; simp (maxSteps := 2000000) (disch := first | omega | (simp; done) | (simp; omega) | assumption) [isC, hlt, hlt', hi32, q1, q2, wrap64, Cl1_tup, Cl1_agg, Cl1_vs, resV]
    have hp := go (prt_iff.2 (by omega))
    simp (maxSteps := 2000000) (disch := first | omega | (simp; done) | (simp; omega) | assumption) [isC, hlt, hlt', hi32, q1, q2, wrap64]
    exact ⟨n - 1, by omega, hp⟩
theorem d148 {lo : Nat} {l : List UInt8} {c : UInt8} {h : H} (hl : l.length < 4294967281) : den cx lo 148 [.t l, .s (.int .u8 c.toNat)] h = some (.i (Lib.indexByte l c), h) := by
  refine den_prim (g := pIndexByte) (by rfl) ?_
  show (if (bs l).size < 4294967281 then some (V.i (Lib.indexByte l (UInt8.ofNat ((c.toNat : Int)).toNat))) else none) = _
  rw [bs_size, if_pos hl]; simp
/-- A letter's kind. -/
def kindR (c : UInt8) : Int × Bool := if c = 82 then (0, true) else if c = 65 then (1, true) else if c = 87 then (2, true) else if c = 68 then (3, true) else (0, false)
theorem kind_at (c : UInt8) : kindR c = if Lib.indexByte [82, 65, 87, 68] c < 0 then (0, false) else (Lib.indexByte [82, 65, 87, 68] c, true) := by
  unfold kindR
  simp only [Lib.indexByte, beq_iff_eq]
  by_cases h1 : c = 82
  · subst h1; decide
  by_cases h2 : c = 65
  · subst h2; decide
  by_cases h3 : c = 87
  · subst h3; decide
  by_cases h4 : c = 68
  · subst h4; decide
  have g1 : ¬ (82 : UInt8) = c := fun e => h1 e.symm
  have g2 : ¬ (65 : UInt8) = c := fun e => h2 e.symm
  have g3 : ¬ (87 : UInt8) = c := fun e => h3 e.symm
  have g4 : ¬ (68 : UInt8) = c := fun e => h4 e.symm
  simp [h1, h2, h3, h4, g1, g2, g3, g4]
theorem s106 {lo : Nat} {c : UInt8} {h : H} : den cx lo 106 [.s (.int .u8 c.toNat)] h = some (.tup [.i (kindR c).1, .b (kindR c).2], h) := by
  refine den_pure (fn := Tryz.f106) (by rfl) (by rfl) (by rfl) (by rfl) (by simp [Tryz.f106]) (by simp) ?_
  rw [kind_at]
  have d := @d148 h.length [82, 65, 87, 68] c h (by decide)
  generalize Lib.indexByte [82, 65, 87, 68] c = i at *
  by_cases q : i < 0 <;> simp (maxSteps := 2000000) (disch := first | omega | (simp; done) | (simp; omega) | assumption) [Tryz.f106, argsE, d, q, Cl1_tup, Cl1_agg, Cl1_vs, isC]
end ZD

/- What functions of the program tell (splits, orders). No condition. -/
import Derived.Test.YtieenbjncimikaaGreatDoorBSA
import Derived.Test.YtieenbjncimikaaGreatDoorBAmF
set_option linter.all false
open Go Go.AM Go.Proofs Go.AM.Pl
set_option maxRecDepth 100000
namespace ZD
/-- Words as cells. -/
def wc (W : List Wd) : List V := (wds W).flatMap cellsOf
@[simp] theorem wc_len {W : List Wd} : (wc W).length = W.length * 2 := by
  induction W with
  | nil => rfl
  | cons x W ih =>
    have : wc (x :: W) = [.i x.1, .t x.2] ++ wc W := by simp [wc, wds, wdv]
    rw [this]; simp [ih]; omega
theorem wc_chunks {W : List Wd} : chunks 2 W.length (wc W) = wds W := by
  have := chunks_flat (w := 2) (wds W) fun v hv => by
    obtain ⟨x, _, rfl⟩ := List.mem_map.1 hv
    exact .inl ⟨by omega, _, rfl, rfl⟩
  rw [wds_len] at this; exact this
theorem wc_clo {W : List Wd} : (wc W).all (clo 11) = true := by
  simp [wc, wds, wdv]
def bw (cur : List UInt8) (f : Nat) : List Wd := if cur = [] then [] else [(f, cur)]
/-- Words in a row that is written to. -/
def RowW (h g : H) (W : List Wd) (X : V) : Prop := h.length ≤ g.length ∧ ((W = [] ∧ X = AM.vs .nil 0 []) ∨ (W ≠ [] ∧ ∃ b, X = .msl b 0 W.length 2 ∧ h.length ≤ b ∧ cellsAt g b = some (wc W)))
theorem RowW.fin {h g : H} {W : List Wd} {X : V} (r : RowW h g W X) : Cl1 g h.length X = some (AM.vs .dead 2 (wds W)) := by
  obtain ⟨_, ⟨rfl, rfl⟩ | ⟨hne, b, rfl, h1, h2⟩⟩ := r
  · rw [Cl1_vs (by rfl)]; rfl
  · rw [Cl1_msl h1 h2 (by simp) wc_clo wc_chunks, fgL_wds]
/-- A loop's state here. -/
abbrev S108 (l : List UInt8) (j : Nat) (X : V) (g : H) : St := ⟨[(6, .v (.i j)), (5, .v X), (0, .v (.t l))], [], g⟩
abbrev A108 (l : List UInt8) (I : Nat → List Ent → List (Nat × List V) → H → Prop) (n : Nat) (Q : AM.X → St → Prop) : AM.X → St → Prop := Again (cx.carry 108 0) [(0, .v (.t l))] I n Q
section
variable {l : List UInt8} {j n n0 : Nat} {g : H} {X : V} {I : Nat → List Ent → List (Nat × List V) → H → Prop} {Q : AM.X → St → Prop}
/-- Where words begin. -/
def Beg (l : List UInt8) (j : Nat) : Prop := j = 0 ∨ (j ≠ 0 ∧ ∃ h : j - 1 < l.length, ((l[j - 1]'h).toNat : Int) = 32)
def Mid (l : List UInt8) (j : Nat) : Prop := j ≠ 0 ∧ ∃ h : j - 1 < l.length, ¬ ((l[j - 1]'h).toNat : Int) = 32
def Fal (Q : AM.X → St → Prop) (g : H) (j : Nat) : Prop := ∀ s : St, getE s.env 2 = .v (AM.vs .nil 0 []) → getE s.env 3 = .v (.i j) → getE s.env 4 = .v (.i 7) → s.h = g → Q .ret s
end
end ZD
open Go Go.AM Go.Proofs Go.AM.Pl
set_option maxRecDepth 100000
namespace ZD
section
variable {l : List UInt8} {j n n0 : Nat} {g : H} {X : V} {I : Nat → List Ent → List (Nat × List V) → H → Prop} {Q : AM.X → St → Prop}
end
end ZD
open Go Go.AM Go.Proofs Go.AM.Pl
set_option maxRecDepth 100000
namespace ZD
theorem s60 {lo : Nat} {w : List UInt8} {l : List Int} {h : H} (hi : ∀ n ∈ l, i64B n) (h1 : l.length ≤ 1000000) (h2 : (numbersL w l).length ≤ 140737488355328) : den cx lo 60 [.t w, AM.vs .dead 1 (ints l)] h = some (.t (numbersL w l), h) := by
  refine den_pure (fn := Tryz.f60) (by rfl) (by rfl) (by rfl) (by rfl) (by simp [Tryz.f60]) (by simp) ?_
  simp (maxSteps := 2000000) (disch := first | omega | (simp; done) | (simp; omega) | assumption) [Tryz.f60, argsE, elemsV]
  refine Wp.loopI (fun n vs lb g => ∃ (j : Nat) (t : Tk), n + j = l.length ∧ Apd h.length g t ∧ h.length ≤ g.length ∧ vs = [.v (.i j), .v (AM.vs t 1 (strs (w :: (l.take j).map Lib.itoa)))] ∧ lb = []) (n := l.length) ⟨0, .full, by simp, by simp, by simp, by simp [strs], by simp⟩ ?_
  rintro n vs lb g ⟨j, t, hj, ha, hg, rfl, rfl⟩
  simp
  split
  · rename_i hlt
    have hb := hi _ (List.getElem_mem hlt)
    simp (maxSteps := 2000000) (disch := first | omega | (simp; done) | (simp; omega) | assumption) [ints, elemsV, isC, wrap64, hlt, s95, hb]
    exact ⟨n - 1, by omega, j + 1, by omega, .tip g.length, Apd_ap hg, by omega, by omega, by simp [strs, List.take_add_one, hlt]⟩
  · obtain rfl : n = 0 := by omega
    obtain rfl : j = l.length := by omega
    unfold numbersL at h2
    simp (maxSteps := 2000000) (disch := first | omega | (simp; done) | (simp; omega) | assumption) [s59, numbersL, List.take_of_length_le]
theorem s140 {lo : Nat} {l : List UInt8} {h : H} (h1 : l.length ≤ 140737488355328) : den cx lo 140 [.t l] h = some (.tup [.i (numR l M9).1, .i (numR l M9).2], h) := by
  refine den_pure (fn := Tryz.f140) (by rfl) (by rfl) (by rfl) (by rfl) (by simp [Tryz.f140]) (by simp) ?_
  simp (maxSteps := 2000000) (disch := first | omega | (simp; done) | (simp; omega) | assumption) [Tryz.f140, argsE, s147, M9, Cl1_tup, Cl1_agg, Cl1_vs]
theorem isMin_iff {l : List UInt8} : isMin l = decide (l.take 1 = [45]) := by
  cases l with
  | nil => rfl
  | cons c r => by_cases h : c = 45
                · subst h; rfl
                · rw [isMin_not h]; simp [h]
theorem s218 {lo : Nat} {l : List UInt8} {h : H} : den cx lo 218 [.t l, .t [45]] h = some (.b (isMin l), h) := by
  rw [isMin_iff]
  refine den_pure (fn := Tryz.f218) (by rfl) (by rfl) (by rfl) (by rfl) (by simp [Tryz.f218]) (by simp) ?_
  cases l with
  | nil => simp (maxSteps := 2000000) (disch := first | omega | (simp; done) | (simp; omega) | assumption) [Tryz.f218, argsE, isC]
  | cons c r =>
    have : (1 : Int) ≤ (r.length : Int) + 1 := by omega
    simp (maxSteps := 2000000) (disch := first | omega | (simp; done) | (simp; omega) | assumption) [Tryz.f218, argsE, isC, this]
theorem s196 {lo : Nat} {l : List UInt8} {h : H} : den cx lo 196 [.t l, .t [45]] h = some (.tup [.t (if isMin l = true then l.drop 1 else l), .b (isMin l)], h) := by
  refine den_pure (fn := Tryz.f196) (by rfl) (by rfl) (by rfl) (by rfl) (by simp [Tryz.f196]) (by simp) ?_
  by_cases hm : isMin l = true
  · have hl : 1 ≤ l.length := by cases l <;> simp_all [isMin]
    have : (1 : Int) ≤ (l.length : Int) := by omega
    simp (maxSteps := 2000000) (disch := first | omega | (simp; done) | (simp; omega) | assumption) [Tryz.f196, argsE, s218, hm, isC, this, Cl1_tup, Cl1_agg, Cl1_vs]
  · simp (maxSteps := 2000000) (disch := first | omega | (simp; done) | (simp; omega) | assumption) [Tryz.f196, argsE, s218, hm, isC, Cl1_tup, Cl1_agg, Cl1_vs]
theorem s171 {lo : Nat} {l : List UInt8} {h : H} : den cx lo 171 [.t l, .t [45]] h = some (.tup [.t (if isMin l = true then l.drop 1 else l), .b (isMin l)], h) := by
  refine den_pure (fn := Tryz.f171) (by rfl) (by rfl) (by rfl) (by rfl) (by simp [Tryz.f171]) (by simp) ?_
  simp (maxSteps := 2000000) (disch := first | omega | (simp; done) | (simp; omega) | assumption) [Tryz.f171, argsE, s196, Cl1_tup, Cl1_agg, Cl1_vs]
theorem s141 {lo : Nat} {l : List UInt8} {h : H} (h1 : l.length ≤ 140737488355328) : den cx lo 141 [.t l] h = some (.tup [.i (sgnR l).1, .i (sgnR l).2], h) := by
  refine den_pure (fn := Tryz.f141) (by rfl) (by rfl) (by rfl) (by rfl) (by simp [Tryz.f141]) (by simp) ?_
  have hr := numR_range l.tail M9
  by_cases hm : isMin l = true
  · by_cases h2 : (numR l.tail M9).2 = 0
    · by_cases h3 : (numR l.tail M9).1 = 0 <;> simp (maxSteps := 2000000) (disch := first | omega | (simp; done) | (simp; omega) | assumption) [Tryz.f141, argsE, s171, s140, hm, h2, h3, sgnR, Cl1_tup, Cl1_agg, Cl1_vs, isC, wrap64]
    · simp (maxSteps := 2000000) (disch := first | omega | (simp; done) | (simp; omega) | assumption) [Tryz.f141, argsE, s171, s140, hm, h2, sgnR, Cl1_tup, Cl1_agg, Cl1_vs, isC]
  · by_cases h2 : (numR l M9).2 = 0 <;> simp (maxSteps := 2000000) (disch := first | omega | (simp; done) | (simp; omega) | assumption) [Tryz.f141, argsE, s171, s140, hm, h2, sgnR, Cl1_tup, Cl1_agg, Cl1_vs, isC]
    exact (numR_zero h2).symm
structure Ord where
  a : Int
  b : Int
  c : Int
  d : Int
  os : List Spn
def Ord.cs (o : Ord) : List V := [.i o.a, .i o.b, .i o.c, .i o.d, AM.vs .dead 2 (spns o.os)]
def Ord.v (o : Ord) : V := .agg o.cs
def Ord.wf (o : Ord) : Prop := i64B o.a ∧ i64B o.b ∧ i64B o.c ∧ i64B o.d ∧ (∀ s ∈ o.os, spanB64 s) ∧ o.os.length ≤ 1000000
def Ord.l (o : Ord) : List UInt8 := orderL o.a o.b o.c o.d o.os
@[simp] theorem fgL_ordc (o : Ord) : fgL o.cs = o.cs := by simp [Ord.cs]
@[simp] theorem fg_ord (o : Ord) : fg o.v = o.v := by simp [Ord.v]
theorem told_le {s : Spn} (h : spanB64 s) : (toldL s.f0 s.f1).length ≤ 100 := by have := told_len' s.f0 s.f1 h.1 h.2; omega
theorem jn_small {ls : List (List UInt8)} (h : ∀ x ∈ ls, x.length ≤ 100) (hn : ls.length ≤ 1100000) : (jn ls).length ≤ 140737488355328 := by
  have := jn_len 100 ls h
  omega
set_option maxHeartbeats 1000000 in
theorem s30 {lo : Nat} {o : Ord} {h : H} (hw : o.wf) : den cx lo 30 [o.v] h = some (.t o.l, h) := by
  obtain ⟨a, b, c, d, os⟩ := o
  obtain ⟨ha, hb, hc, hd, hs, hn⟩ := hw
  simp only at ha hb hc hd hs hn
  have la := itoa_len' ha
  have lb := itoa_len' hb
  have lc := itoa_len' hc
  have ld := itoa_len' hd
  have hnum : (numbersL ordW [a, b, c, d]).length ≤ 140737488355328 := by
    unfold numbersL
    refine jn_small (fun x hx => ?_) (by simp)
    simp at hx
    rcases hx with rfl | rfl | rfl | rfl | rfl <;> first | assumption | decide
  have e60 := s60 (lo := h.length) (w := ordW) (l := [a, b, c, d]) (h := h) (by simp; exact ⟨ha, hb, hc, hd⟩) (by simp) hnum
  simp only [ints, List.map_cons, List.map_nil, ordW] at e60
  refine den_pure (fn := Tryz.f30) (by rfl) (by rfl) (by rfl) (by rfl) (by simp [Tryz.f30]) (by simp) ?_
  simp (maxSteps := 2000000) (disch := first | omega | (simp; done) | (simp; omega) | assumption) [Tryz.f30, argsE, Ord.v, Ord.cs, boxV, boxO, fresh_no, List.filter_cons, setB, aggN, op_build, List.set, elemsV, e60]
  refine Wp.loopI (fun n vs lb g => ∃ (j : Nat) (t : Tk), n + j = os.length ∧ Apd h.length g t ∧ h.length ≤ g.length ∧ vs = [.v (.i j), .v (AM.vs t 1 (strs (numbersL ordW [a, b, c, d] :: (os.take j).map toldS)))] ∧ lb = [(1, [.i a, .i b, .i c, .i d, AM.vs .dead 2 (spns os)])]) (n := os.length) ⟨0, .full, by simp, by simp, by simp, by simp [strs, ordW], by simp⟩ ?_
  rintro n vs lb g ⟨j, t, hj, ha, hg, rfl, rfl⟩
  simp
  split
  · rename_i hlt
    have hs1 := hs _ (List.getElem_mem hlt)
    have e92 := fun g => s92 (lo := h.length) (s := os[j]) (h := g) hs1.1 hs1.2
    simp only [Spn.v] at e92
    simp (maxSteps := 2000000) (disch := first | omega | (simp; done) | (simp; omega) | assumption) [spns, Spn.v, elemsV, isC, wrap64, hlt, boxV, boxO, fresh_no, List.filter_cons, setB, aggN, op_build, List.set, e92]
    exact ⟨n - 1, by omega, j + 1, by omega, .tip g.length, Apd_ap hg, by omega, by omega, by simp [strs, List.take_add_one, hlt, toldS]⟩
  · obtain rfl : n = 0 := by omega
    obtain rfl : j = os.length := by omega
    have e1 : (Ord.mk a b c d os).l = jn (numbersL ordW [a, b, c, d] :: os.map toldS) := by
      unfold Ord.l orderL numbersL; rw [jn_flat _ _ (by simp)]; rfl
    have hsm : (jn (numbersL ordW [a, b, c, d] :: os.map toldS)).length ≤ 140737488355328 := by
      rw [← e1]
      refine jn_small (fun x hx => ?_) (by simp; omega)
      simp at hx
      rcases hx with rfl | rfl | rfl | rfl | rfl | ⟨s, hs', rfl⟩ <;> first | assumption | decide | exact told_le (hs s hs')
    rw [e1]
    have e59 := fun g => s59 (lo := h.length) (l := numbersL ordW [a, b, c, d] :: os.map toldS) (h := g) (by simp; omega) hsm
    have e2 : os.map toldS = (os.map toldS).take os.length := by rw [List.take_of_length_le (by simp)]
    generalize numbersL ordW [a, b, c, d] = NL at *
    rw [← List.map_take, List.take_length]
    simp [e59]
end ZD
open Go Go.AM Go.Proofs Go.AM.Pl
set_option maxRecDepth 100000
namespace ZD
def OrdR.o (x : OrdR) : Ord := ⟨x.1, x.2.1, x.2.2.1, x.2.2.2.1, x.2.2.2.2.1⟩
def OrdR.e (x : OrdR) : Int := x.2.2.2.2.2
def ordV (x : OrdR) : V := .tup [(OrdR.o x).v, .i (OrdR.e x)]
@[simp] theorem ia191 {b o : Nat} {k : IntKind} {i : Int} (h0 : 0 ≤ i) (h1 : i < (4 : Nat)) : indexAddrV cx 191 (.lp b o) (.s (.int k i)) = some (.lp b (o + i.toNat * 1)) := indexAddr_arr (e := 3) (n := 4) (by rfl) (by rfl) h0 h1
theorem spns_snoc {l : List Spn} {x : Spn} : spns (l ++ [x]) = spns l ++ [Spn.v x] := by simp [spns]
@[simp] theorem clo_spns (k : Nat) (l : List Spn) : (spns l).all (clo (k + 2)) = true := by simp [spns, Spn.v]
set_option maxHeartbeats 4000000 in
theorem s91 {lo : Nat} {ws : List Wd} {h : H} (h1 : ws.length ≤ 100000000) (h2 : ∀ x ∈ ws, x.2.length < 4294967281) : den cx lo 91 [AM.vs .dead 2 (wds ws)] h = some (ordV (ordR (ws.map (·.2))), h) := by
  refine den_pure (fn := Tryz.f91) (by rfl) (by rfl) (by rfl) (by rfl) (by simp [Tryz.f91]) (by simp) ?_
  by_cases hl : ws.length < 5
  · have e : ordR (ws.map (·.2)) = zer 7 := by
      match ws, hl with
      | [], _ | [_], _ | [_, _], _ | [_, _, _], _ | [_, _, _, _], _ => rfl
    have hl' : (ws.length : Int) < 5 := by omega
    rw [e]
    simp (maxSteps := 2000000) (disch := first | omega | (simp; done) | (simp; omega) | assumption) [Tryz.f91, argsE, hl, hl', isC, boxV, boxO, fresh_no, List.filter_cons, setB, aggN, op_build, List.set, Cl1_tup, Cl1_agg, Cl1_vs, ordV, Ord.v, Ord.cs, OrdR.o, OrdR.e, zer, spns]
  obtain ⟨w0, w1, w2, w3, w4, r, rfl⟩ : ∃ w0 w1 w2 w3 w4 r, ws = w0 :: w1 :: w2 :: w3 :: w4 :: r := by
    match ws, hl with
    | [], h | [_], h | [_, _], h | [_, _, _], h | [_, _, _, _], h => exact absurd (by simp) h
    | w0 :: w1 :: w2 :: w3 :: w4 :: r, _ => exact ⟨w0, w1, w2, w3, w4, r, rfl⟩
  have hl' : ¬ ((r.length : Int) + 1 + 1 + 1 + 1 + 1 < 5) := by omega
  have hl2 : (0 : Int) < (r.length : Int) + 1 + 1 + 1 + 1 + 1 := by omega
  by_cases hw : w0.2 = ordW
  case neg =>
    have e : ordR ((w0 :: w1 :: w2 :: w3 :: w4 :: r).map (·.2)) = zer 7 := if_neg hw
    have hw' : ¬ w0.2 = [111, 114, 100, 101, 114] := hw
    rw [e]
    simp (maxSteps := 2000000) (disch := first | omega | (simp; done) | (simp; omega) | assumption) [Tryz.f91, argsE, hl', hl2, isC, boxV, boxO, fresh_no, List.filter_cons, setB, aggN, op_build, List.set, Cl1_tup, Cl1_agg, Cl1_vs, ordV, Ord.v, Ord.cs, OrdR.o, OrdR.e, zer, spns, wds, wdv, hw']
  have hw' : w0.2 = [111, 114, 100, 101, 114] := hw
  have e0 : ordR ((w0 :: w1 :: w2 :: w3 :: w4 :: r).map (·.2)) = ord5 w1.2 w2.2 w3.2 w4.2 (r.map (·.2)) := if_pos hw
  rw [e0]
  simp only [List.mem_cons, forall_eq_or_imp] at h2
  obtain ⟨_, g1, g2, g3, g4, g5⟩ := h2
  simp (maxSteps := 2000000) (disch := first | omega | (simp; done) | (simp; omega) | assumption) [Tryz.f91, argsE, hl', hl2, isC, boxV, boxO, fresh_no, List.filter_cons, setB, aggN, op_build, List.set, wds, wdv, hw']
  obtain ⟨I, hI⟩ : ∃ I : Nat → List Ent → List (Nat × List V) → H → Prop, I = (fun n vs lb g => ∃ j : Nat, n + j = 4 ∧ (0 < j → (numR w1.2 M9).2 = 0) ∧ (1 < j → (numR w2.2 M9).2 = 0) ∧ (2 < j → (sgnR w3.2).2 = 0) ∧ (3 < j → (numR w4.2 M9).2 = 0) ∧ vs = [.v (.i j)] ∧
    lb = [(4, [.i (if 0 < j then (numR w1.2 M9).1 else 0), .i (if 1 < j then (numR w2.2 M9).1 else 0), .i (if 2 < j then (sgnR w3.2).1 else 0), .i (if 3 < j then (numR w4.2 M9).1 else 0)]), (2, [.i 0, .i 0, .i 0, .i 0, AM.vs .nil 0 []])] ∧ g = h) := ⟨_, rfl⟩
  refine Wp.loopQ I (n := 4) (by rw [hI]; exact ⟨0, by simp, by simp, by simp, by simp, by simp, by simp, by simp, by simp⟩) ?_
  intro n vs lb g hi Q hQ; rw [hI] at hi; obtain ⟨j, hj, k1, k2, k3, k4, rfl, rfl, rfl⟩ := hi
  have go : ∀ j : Nat, j ≤ 4 → (0 < j → (numR w1.2 M9).2 = 0) → (1 < j → (numR w2.2 M9).2 = 0) → (2 < j → (sgnR w3.2).2 = 0) → (3 < j → (numR w4.2 M9).2 = 0) → I (4 - j) [.v (.i j)] [(4, [.i (if 0 < j then (numR w1.2 M9).1 else 0), .i (if 1 < j then (numR w2.2 M9).1 else 0), .i (if 2 < j then (sgnR w3.2).1 else 0), .i (if 3 < j then (numR w4.2 M9).1 else 0)]), (2, [.i 0, .i 0, .i 0, .i 0, AM.vs .nil 0 []])] g := by
    intro j a1 a2 a3 a4 a5
    rw [hI]; exact ⟨j, by omega, a2, a3, a4, a5, rfl, rfl, rfl⟩
  clear hI
  obtain rfl | rfl | rfl | rfl | rfl : j = 0 ∨ j = 1 ∨ j = 2 ∨ j = 3 ∨ j = 4 := by omega
  · by_cases q : (numR w1.2 M9).2 = 0
    · have go := go 1 (by omega) (by simp [q]) (by simp) (by simp) (by simp)
      simp (maxSteps := 2000000) (disch := first | omega | (simp; done) | (simp; omega) | assumption) [isC, boxV, boxO, fresh_no, List.filter_cons, setB, aggN, op_build, List.set, s140, q, wrap64]
      exact ⟨3, by omega, by simpa using go⟩
    · simp (maxSteps := 2000000) (disch := first | omega | (simp; done) | (simp; omega) | assumption) [isC, boxV, boxO, fresh_no, List.filter_cons, setB, aggN, op_build, List.set, s140, q, wrap64]
      refine hQ _ _ ?_
      simp (maxSteps := 2000000) (disch := first | omega | (simp; done) | (simp; omega) | assumption) [boxV, boxO, fresh_no, List.filter_cons, setB, aggN, op_build, List.set, Cl1_tup, Cl1_agg, Cl1_vs, ordV, Ord.v, Ord.cs, OrdR.o, OrdR.e, zer, spns, ord5, q]
  · have k1 := k1 (by omega)
    by_cases q : (numR w2.2 M9).2 = 0
    · have go := go 2 (by omega) (by simp [k1]) (by simp [q]) (by simp) (by simp)
      simp (maxSteps := 2000000) (disch := first | omega | (simp; done) | (simp; omega) | assumption) [isC, boxV, boxO, fresh_no, List.filter_cons, setB, aggN, op_build, List.set, s140, q, wrap64]
      exact ⟨2, by omega, by simpa using go⟩
    · simp (maxSteps := 2000000) (disch := first | omega | (simp; done) | (simp; omega) | assumption) [isC, boxV, boxO, fresh_no, List.filter_cons, setB, aggN, op_build, List.set, s140, q, wrap64]
      refine hQ _ _ ?_
      simp (maxSteps := 2000000) (disch := first | omega | (simp; done) | (simp; omega) | assumption) [boxV, boxO, fresh_no, List.filter_cons, setB, aggN, op_build, List.set, Cl1_tup, Cl1_agg, Cl1_vs, ordV, Ord.v, Ord.cs, OrdR.o, OrdR.e, zer, spns, ord5, q, k1]
  · have k1 := k1 (by omega); have k2 := k2 (by omega)
    by_cases q : (sgnR w3.2).2 = 0
    · have go := go 3 (by omega) (by simp [k1]) (by simp [k2]) (by simp [q]) (by simp)
      simp (maxSteps := 2000000) (disch := first | omega | (simp; done) | (simp; omega) | assumption) [isC, boxV, boxO, fresh_no, List.filter_cons, setB, aggN, op_build, List.set, s141, q, wrap64]
      exact ⟨1, by omega, by simpa using go⟩
    · simp (maxSteps := 2000000) (disch := first | omega | (simp; done) | (simp; omega) | assumption) [isC, boxV, boxO, fresh_no, List.filter_cons, setB, aggN, op_build, List.set, s141, q, wrap64]
      refine hQ _ _ ?_
      simp (maxSteps := 2000000) (disch := first | omega | (simp; done) | (simp; omega) | assumption) [boxV, boxO, fresh_no, List.filter_cons, setB, aggN, op_build, List.set, Cl1_tup, Cl1_agg, Cl1_vs, ordV, Ord.v, Ord.cs, OrdR.o, OrdR.e, zer, spns, ord5, q, k1, k2]
  · have k1 := k1 (by omega); have k2 := k2 (by omega); have k3 := k3 (by omega)
    by_cases q : (numR w4.2 M9).2 = 0
    · have go := go 4 (by omega) (by simp [k1]) (by simp [k2]) (by simp [k3]) (by simp [q])
      simp (maxSteps := 2000000) (disch := first | omega | (simp; done) | (simp; omega) | assumption) [isC, boxV, boxO, fresh_no, List.filter_cons, setB, aggN, op_build, List.set, s140, q, wrap64]
      exact ⟨0, by omega, by simpa using go⟩
    · simp (maxSteps := 2000000) (disch := first | omega | (simp; done) | (simp; omega) | assumption) [isC, boxV, boxO, fresh_no, List.filter_cons, setB, aggN, op_build, List.set, s140, q, wrap64]
      refine hQ _ _ ?_
      simp (maxSteps := 2000000) (disch := first | omega | (simp; done) | (simp; omega) | assumption) [boxV, boxO, fresh_no, List.filter_cons, setB, aggN, op_build, List.set, Cl1_tup, Cl1_agg, Cl1_vs, ordV, Ord.v, Ord.cs, OrdR.o, OrdR.e, zer, spns, ord5, q, k1, k2, k3]
  have k1 := k1 (by omega); have k2 := k2 (by omega); have k3 := k3 (by omega); have k4 := k4 (by omega)
  clear go
  simp (maxSteps := 2000000) (disch := first | omega | (simp; done) | (simp; omega) | assumption) []
  refine hQ _ _ ?_
  clear hQ
  have e5 : ord5 w1.2 w2.2 w3.2 w4.2 (r.map (·.2)) = if (spansR (r.map (·.2)) []).2 = 0 then ((numR w1.2 M9).1, (numR w2.2 M9).1, (sgnR w3.2).1, (numR w4.2 M9).1, (spansR (r.map (·.2)) []).1, 0) else zer (spansR (r.map (·.2)) []).2 := by
    simp [ord5, k1, k2, k3, k4]
  rw [e5]
  generalize (numR w1.2 M9).1 = a1
  generalize (numR w2.2 M9).1 = a2
  generalize (sgnR w3.2).1 = a3
  generalize (numR w4.2 M9).1 = a4
  simp (maxSteps := 2000000) (disch := first | omega | (simp; done) | (simp; omega) | assumption) [isC, boxV, boxO, fresh_no, List.filter_cons, setB, aggN, op_build, List.set]
  clear e5 e0 hj I
  obtain ⟨J, hJ⟩ : ∃ J : Nat → List Ent → List (Nat × List V) → H → Prop, J = (fun n vs lb g' => ∃ (j : Nat) (t : Tk) (os : List Spn), n + j = r.length ∧ os.length ≤ j ∧ spansR (r.map (·.2)) [] = spansR ((r.drop j).map (·.2)) os ∧ Apd g.length g' t ∧ g.length ≤ g'.length ∧ vs = [.v (.i j)] ∧
    lb = [(9, [.i a1, .i a2, .i a3, .i a4, AM.vs t 2 (spns os)]), (4, [.i a1, .i a2, .i a3, .i a4]), (2, [.i 0, .i 0, .i 0, .i 0, AM.vs .nil 0 []])]) := ⟨_, rfl⟩
  refine Wp.loopQ J (n := r.length) (by rw [hJ]; exact ⟨0, .nil, [], by simp, by simp, by simp, by simp, by simp, by simp, by simp [spns]⟩) ?_
  intro n vs lb g' hi Q hQ; rw [hJ] at hi; obtain ⟨j, t, os, hj, ho, he, ha, hg, rfl, rfl⟩ := hi
  have hrl : r.length ≤ 100000000 := by simp at h1; omega
  by_cases hlt : j < r.length
  · have hd : (r.drop j).map (·.2) = r[j].2 :: (r.drop (j + 1)).map (·.2) := by rw [List.drop_eq_getElem_cons hlt]; rfl
    have hwl := g5 _ (List.getElem_mem hlt)
    rw [hd] at he
    simp only [spansR] at he
    by_cases q : (spanR r[j].2).2.2 = 0
    · rw [if_pos q] at he
      have go : J (n - 1) [.v (.i ((j : Int) + 1))] [(9, [.i a1, .i a2, .i a3, .i a4, AM.vs (.tip g'.length) 2 (spns os ++ [Spn.v ⟨(spanR r[j].2).1, (spanR r[j].2).2.1⟩])]), (4, [.i a1, .i a2, .i a3, .i a4]), (2, [.i 0, .i 0, .i 0, .i 0, AM.vs .nil 0 []])] (apH g' t) := by
        rw [hJ]; exact ⟨j + 1, .tip g'.length, os ++ [⟨(spanR r[j].2).1, (spanR r[j].2).2.1⟩], by omega, by simp; omega, he, Apd_ap hg, by simp; omega, by simp, by rw [spns_snoc]⟩
      clear hJ he
      simp (maxSteps := 2000000) (disch := first | omega | (simp; done) | (simp; omega) | assumption) [isC, boxV, boxO, fresh_no, List.filter_cons, setB, aggN, op_build, List.set, s107, q, wrap64, hlt, wdv, elemsV]
      exact ⟨n - 1, by omega, go⟩
    · rw [if_neg q] at he
      clear hJ
      simp (maxSteps := 2000000) (disch := first | omega | (simp; done) | (simp; omega) | assumption) [isC, boxV, boxO, fresh_no, List.filter_cons, setB, aggN, op_build, List.set, s107, q, wrap64, hlt, wdv, elemsV]
      refine hQ _ _ ?_
      rw [he]
      simp (maxSteps := 2000000) (disch := first | omega | (simp; done) | (simp; omega) | assumption) [boxV, boxO, fresh_no, List.filter_cons, setB, aggN, op_build, List.set, Cl1_tup, Cl1_agg, Cl1_vs, ordV, Ord.v, Ord.cs, OrdR.o, OrdR.e, zer, spns, q]
  · obtain rfl : j = r.length := by omega
    rw [List.drop_of_length_le (Nat.le_refl _)] at he
    simp only [List.map_nil, spansR] at he
    clear hJ
    simp (maxSteps := 2000000) (disch := first | omega | (simp; done) | (simp; omega) | assumption) []
    refine hQ _ _ ?_
    rw [he]
    clear he
    simp (maxSteps := 2000000) (disch := first | omega | (simp; done) | (simp; omega) | assumption) [boxV, boxO, fresh_no, List.filter_cons, setB, aggN, op_build, List.set, Cl1_tup, Cl1_agg, Cl1_vs, ordV, Ord.v, Ord.cs, OrdR.o, OrdR.e]
end ZD

/- What functions of the program tell (splits, orders). No condition. -/
import Derived.Test.YtieenbjncimikaaGreatDoorSA
import Derived.Test.YtieenbjncimikaaGreatDoorAmF
set_option linter.all false
open Go Go.AM Go.Proofs Go.AM.Pl
set_option maxRecDepth 100000
namespace ZD
/-- Words as cells. -/
def wc (W : List Wd) : List V := (wds W).flatMap cellsOf
theorem wc_snoc {W : List Wd} {x : Wd} : wc (W ++ [x]) = wc W ++ [.i x.1, .t x.2] := by simp [wc, wds, wdv]
@[simp] theorem wc_len {W : List Wd} : (wc W).length = W.length * 2 := by
  induction W with
  | nil => rfl
  | cons x W ih =>
    have : wc (x :: W) = [.i x.1, .t x.2] ++ wc W := by simp [wc, wds, wdv]
    rw [this]; simp [ih]; omega
theorem wc_get {W : List Wd} {a b : V} : (wc W ++ [a, b])[W.length * 2 + 1]? = some b := by
  rw [List.getElem?_append_right (by simp)]; simp
theorem wc_set {W : List Wd} {a b x : V} : (wc W ++ [a, b]).set (W.length * 2 + 1) x = wc W ++ [a, x] := by
  rw [List.set_append_right _ _ (by simp)]; simp
theorem wc_chunks {W : List Wd} : chunks 2 W.length (wc W) = wds W := by
  have := chunks_flat (w := 2) (wds W) fun v hv => by
    obtain ⟨x, _, rfl⟩ := List.mem_map.1 hv
    exact .inl ⟨by omega, _, rfl, rfl⟩
  rw [wds_len] at this; exact this
theorem wc_clo {W : List Wd} : (wc W).all (clo 11) = true := by
  simp [wc, wds, wdv]
def bw (cur : List UInt8) (f : Nat) : List Wd := if cur = [] then [] else [(f, cur)]
/-- Words in a row that is written to. -/
def RowW (h g : H) (W : List Wd) (X : V) : Prop := h.length ≤ g.length ∧ ((W = [] ∧ X = AM.vs .nil 0 []) ∨ (W ≠ [] ∧ ∃ b, X = .msl b 0 W.length 2 ∧ h.length ≤ b ∧ cellsAt g b = some (wc W)))
theorem RowW.fin {h g : H} {W : List Wd} {X : V} (r : RowW h g W X) : Cl1 g h.length X = some (AM.vs .dead 2 (wds W)) := by
  obtain ⟨_, ⟨rfl, rfl⟩ | ⟨hne, b, rfl, h1, h2⟩⟩ := r
  · rw [Cl1_vs (by rfl)]; rfl
  · rw [Cl1_msl h1 h2 (by simp) wc_clo wc_chunks, fgL_wds]
/-- A loop's state here. -/
abbrev S108 (l : List UInt8) (j : Nat) (X : V) (g : H) : St := ⟨[(6, .v (.i j)), (5, .v X), (0, .v (.t l))], [], g⟩
abbrev A108 (l : List UInt8) (I : Nat → List Ent → List (Nat × List V) → H → Prop) (n : Nat) (Q : AM.X → St → Prop) : AM.X → St → Prop := Again (cx.carry 108 0) [(0, .v (.t l))] I n Q
section
variable {l : List UInt8} {j n n0 : Nat} {g : H} {X : V} {I : Nat → List Ent → List (Nat × List V) → H → Prop} {Q : AM.X → St → Prop}
/-- Where words begin. -/
def Beg (l : List UInt8) (j : Nat) : Prop := j = 0 ∨ (j ≠ 0 ∧ ∃ h : j - 1 < l.length, ((l[j - 1]'h).toNat : Int) = 32)
def Mid (l : List UInt8) (j : Nat) : Prop := j ≠ 0 ∧ ∃ h : j - 1 < l.length, ¬ ((l[j - 1]'h).toNat : Int) = 32
def Fal (Q : AM.X → St → Prop) (g : H) (j : Nat) : Prop := ∀ s : St, getE s.env 2 = .v (AM.vs .nil 0 []) → getE s.env 3 = .v (.i j) → getE s.env 4 = .v (.i 7) → s.h = g → Q .ret s
set_option maxHeartbeats 1000000 in
theorem a108 (hlt : j < l.length) (hX : (Ent.v X).val = some X) (hb : Beg l j) (hc : (l[j].toNat : Int) = 32) (hj : l.length ≤ 4294967281) (hq : Fal Q g j) : Wp cx 108 n0 0 (lpb Tryz.f108 0) (S108 l j X g) (A108 l I n Q) := by
  have hlt' : (j : Int) < l.length := by omega
  have hjj : ((j : Int) - 1).toNat = j - 1 := by omega
  rcases hb with rfl | ⟨h0, h, hb⟩
  · simp (maxSteps := 2000000) (disch := first | omega | (simp; done) | (simp; omega) | assumption) [Tryz.f108, argsE, lpb, lbs, isC, hlt, hlt', hc, wrap64, hX]
    exact hq _ rfl rfl rfl rfl
  · simp (maxSteps := 2000000) (disch := first | omega | (simp; done) | (simp; omega) | assumption) [Tryz.f108, argsE, lpb, lbs, isC, hlt, hlt', hc, h0, hjj, hb, wrap64, hX]
    exact hq _ rfl rfl rfl rfl
set_option maxHeartbeats 1000000 in
theorem b108 (hlt : j < l.length) (hX : (Ent.v X).val = some X) (hb : Beg l j ∨ Mid l j) (hc : (l[j].toNat : Int) < 32 ∨ (¬ (l[j].toNat : Int) < 32 ∧ (126 : Int) < l[j].toNat)) (hj : l.length ≤ 4294967281) (hq : Fal Q g j) : Wp cx 108 n0 0 (lpb Tryz.f108 0) (S108 l j X g) (A108 l I n Q) := by
  have hlt' : (j : Int) < l.length := by omega
  have hjj : ((j : Int) - 1).toNat = j - 1 := by omega
  rcases hb with (rfl | ⟨h0, h, hb⟩) | ⟨h0, h, hb⟩ <;> rcases hc with hc | ⟨hc, hc2⟩
  · simp (maxSteps := 2000000) (disch := first | omega | (simp; done) | (simp; omega) | assumption) [Tryz.f108, argsE, lpb, lbs, isC, hlt, hlt', hc, wrap64, hX]
    exact hq _ rfl rfl rfl rfl
  · simp (maxSteps := 2000000) (disch := first | omega | (simp; done) | (simp; omega) | assumption) [Tryz.f108, argsE, lpb, lbs, isC, hlt, hlt', hc, hc2, wrap64, hX]
    exact hq _ rfl rfl rfl rfl
  · simp (maxSteps := 2000000) (disch := first | omega | (simp; done) | (simp; omega) | assumption) [Tryz.f108, argsE, lpb, lbs, isC, hlt, hlt', hc, h0, hjj, hb, wrap64, hX]
    exact hq _ rfl rfl rfl rfl
  · simp (maxSteps := 2000000) (disch := first | omega | (simp; done) | (simp; omega) | assumption) [Tryz.f108, argsE, lpb, lbs, isC, hlt, hlt', hc, hc2, h0, hjj, hb, wrap64, hX]
    exact hq _ rfl rfl rfl rfl
  · simp (maxSteps := 2000000) (disch := first | omega | (simp; done) | (simp; omega) | assumption) [Tryz.f108, argsE, lpb, lbs, isC, hlt, hlt', hc, h0, hjj, hb, wrap64, hX]
    exact hq _ rfl rfl rfl rfl
  · simp (maxSteps := 2000000) (disch := first | omega | (simp; done) | (simp; omega) | assumption) [Tryz.f108, argsE, lpb, lbs, isC, hlt, hlt', hc, hc2, h0, hjj, hb, wrap64, hX]
    exact hq _ rfl rfl rfl rfl
theorem c108 (hlt : j < l.length) (hX : (Ent.v X).val = some X) (hb : Mid l j) (hc : (l[j].toNat : Int) = 32) (hj : l.length ≤ 4294967281) (hn : 0 < n) (go : I (n - 1) [.v (.i (j + 1)), .v X] [] g) : Wp cx 108 n0 0 (lpb Tryz.f108 0) (S108 l j X g) (A108 l I n Q) := by
  have hlt' : (j : Int) < l.length := by omega
  have hjj : ((j : Int) - 1).toNat = j - 1 := by omega
  obtain ⟨h0, h, hb⟩ := hb
  simp (maxSteps := 2000000) (disch := first | omega | (simp; done) | (simp; omega) | assumption) [Tryz.f108, argsE, lpb, lbs, isC, hlt, hlt', hc, h0, hjj, hb, wrap64, hX]
  exact ⟨n - 1, by omega, go⟩
set_option maxHeartbeats 1000000 in
theorem d108 {b f : Nat} {cur : List UInt8} {out : List Wd} (hlt : j < l.length) (hb : Mid l j) (h32 : ¬ (l[j].toNat : Int) = 32) (q1 : ¬ (l[j].toNat : Int) < 32) (q2 : ¬ (126 : Int) < l[j].toNat) (hj : l.length ≤ 4294967281) (hn : 0 < n) (ho : out.length + cur.length ≤ j)
    (hb1 : n0 ≤ b) (hb2 : cellsAt g b = some (wc out ++ [.i f, .t cur])) (go : I (n - 1) [.v (.i (j + 1)), .v (.msl b 0 (out.length + 1) 2)] [] (g.set b (.cells (wc out ++ [.i f, .t (cur ++ [l[j]])])))) : Wp cx 108 n0 0 (lpb Tryz.f108 0) (S108 l j (.msl b 0 (out.length + 1) 2) g) (A108 l I n Q) := by
  have hlt' : (j : Int) < l.length := by omega
  have hjj : ((j : Int) - 1).toNat = j - 1 := by omega
  have hd : l.drop j = l[j] :: l.drop (j + 1) := List.drop_eq_getElem_cons hlt
  have t1 : (l.drop j).take 1 = [l[j]] := by rw [hd]; rfl
  obtain ⟨h0, h, hb⟩ := hb
  simp (maxSteps := 2000000) (disch := first | omega | (simp; done) | (simp; omega) | assumption) [Tryz.f108, argsE, lpb, lbs, isC, hlt, hlt', h32, q1, q2, h0, hjj, hb, wrap64, hb2, hb1, wc_get, wc_set, add_str, foot, Op.operands, opTmps]
  refine ⟨indep_of bf108_12 (by rfl), ?_⟩
  rw [t1]
  exact ⟨n - 1, by omega, go⟩
theorem take1 {l : List UInt8} (hlt : 0 < l.length) : l.take 1 = [l[0]] := by cases l with | nil => simp at hlt | cons x r => rfl
set_option maxHeartbeats 1000000 in
theorem e108 (hlt : j < l.length) (hb : Beg l j) (h32 : ¬ (l[j].toNat : Int) = 32) (q1 : ¬ (l[j].toNat : Int) < 32) (q2 : ¬ (126 : Int) < l[j].toNat) (hj : l.length ≤ 4294967281) (hn : 0 < n) (hg : n0 ≤ g.length)
    (go : I (n - 1) [.v (.i (j + 1)), .v (.msl g.length 0 1 2)] [] (g ++ [.cells [.i j, .t [l[j]]]])) : Wp cx 108 n0 0 (lpb Tryz.f108 0) (S108 l j (AM.vs .nil 0 []) g) (A108 l I n Q) := by
  have hlt' : (j : Int) < l.length := by omega
  have hjj : ((j : Int) - 1).toNat = j - 1 := by omega
  have hd : l.drop j = l[j] :: l.drop (j + 1) := List.drop_eq_getElem_cons hlt
  have t1 : (l.drop j).take 1 = [l[j]] := by rw [hd]; rfl
  rcases hb with rfl | ⟨h0, h, hb⟩
  · simp (maxSteps := 2000000) (disch := first | omega | (simp; done) | (simp; omega) | assumption) [Tryz.f108, argsE, lpb, lbs, isC, hlt, hlt', h32, q1, q2, wrap64, add_str, boxV, boxO, fresh, Ent.isLp, List.filter_cons, setB, aggN, op_build, List.set, elemsV, push, foot, Op.operands, opTmps, hg, take1 hlt]
    refine ⟨indep_of bf108_12 (by rfl), ?_⟩
    exact ⟨n - 1, by omega, go⟩
  · simp (maxSteps := 2000000) (disch := first | omega | (simp; done) | (simp; omega) | assumption) [Tryz.f108, argsE, lpb, lbs, isC, hlt, hlt', h32, q1, q2, h0, hjj, hb, wrap64, add_str, boxV, boxO, fresh, Ent.isLp, List.filter_cons, setB, aggN, op_build, List.set, elemsV, push, foot, Op.operands, opTmps, hg]
    refine ⟨indep_of bf108_12 (by rfl), ?_⟩
    rw [t1]
    exact ⟨n - 1, by omega, go⟩
end
end ZD
open Go Go.AM Go.Proofs Go.AM.Pl
set_option maxRecDepth 100000
namespace ZD
section
variable {l : List UInt8} {j n n0 : Nat} {g : H} {X : V} {I : Nat → List Ent → List (Nat × List V) → H → Prop} {Q : AM.X → St → Prop}
set_option maxHeartbeats 1000000 in
theorem f108 {b : Nat} {out : List Wd} (hlt : j < l.length) (hb : Beg l j) (h32 : ¬ (l[j].toNat : Int) = 32) (q1 : ¬ (l[j].toNat : Int) < 32) (q2 : ¬ (126 : Int) < l[j].toNat) (hj : l.length ≤ 4294967281) (hn : 0 < n) (ho : out.length ≤ j) (hne : out ≠ []) (hg : n0 ≤ g.length)
    (hb1 : n0 ≤ b) (hb2 : cellsAt g b = some (wc out)) (go : I (n - 1) [.v (.i (j + 1)), .v (.msl g.length 0 (out.length + 1) 2)] [] (g.set b .dead ++ [.cells (wc out ++ [.i j, .t [l[j]]])])) : Wp cx 108 n0 0 (lpb Tryz.f108 0) (S108 l j (.msl b 0 out.length 2) g) (A108 l I n Q) := by
  have hlt' : (j : Int) < l.length := by omega
  have hjj : ((j : Int) - 1).toNat = j - 1 := by omega
  have hd : l.drop j = l[j] :: l.drop (j + 1) := List.drop_eq_getElem_cons hlt
  have t1 : (l.drop j).take 1 = [l[j]] := by rw [hd]; rfl
  have hp : cellsAt (g.set b .dead ++ [.cells (wc out ++ [.i j, .t []])]) g.length = some (wc out ++ [.i j, .t []]) := cellsAt_push' (by simp)
  have hgd : ∀ a c : O, (g.set b .dead ++ [a]).set g.length c = g.set b .dead ++ [c] := fun a c => by rw [List.set_append_right _ _ (by simp)]; simp
  have ham := fun (env : List (Nat × Ent)) (lbx : List (Nat × List V)) => am158 (lo := n0) (k := b) (n := out.length) (m := true) (st := ⟨env, lbx, g⟩) (tk' := .full) (l' := [.agg [.i j, .t []]]) hb1 hb2 (by simp) (by simp) (by simp; omega)
  rcases hb with rfl | ⟨h0, h, hb⟩
  · exact absurd (List.length_eq_zero_iff.1 (by omega)) hne
  · simp (maxSteps := 2000000) (disch := first | omega | (simp; done) | (simp; omega) | assumption) [Tryz.f108, argsE, lpb, lbs, isC, hlt, hlt', h32, q1, q2, h0, hjj, hb, wrap64, add_str, boxV, boxO, fresh, Ent.isLp, List.filter_cons, setB, aggN, op_build, List.set, elemsV, push, foot, Op.operands, opTmps, hg, ham, hb1, wc_get, wc_set, hp, hgd]
    refine ⟨indep_of bf108_12 (by rfl), ?_⟩
    rw [t1]
    exact ⟨n - 1, by omega, go⟩
end
theorem seal_tupk {h : H} {n k : Nat} {l : List V} : sealV h n (k + 1) (.tup l) = (sealL (sealV h n k) l).map .tup := by simp only [sealV]
theorem seal_s1 {h : H} {n k : Nat} {a : Value} : sealV h n (k + 1) (.s a) = some (.s a) := seal_sk
theorem Cl1_three {h : H} {n : Nat} {x y : V} {a b : Value} (e : (sealV h n 11 x).map fg = some y) : Cl1 h n (.tup [x, .s a, .s b]) = some (.tup [y, .s a, .s b]) := by
  obtain ⟨u, h1, rfl⟩ := Option.map_eq_some_iff.1 e
  have e2 : sealV h n sealDepth (.tup [x, .s a, .s b]) = some (.tup [u, .s a, .s b]) := by
    rw [show sealDepth = 11 + 1 from rfl, seal_tupk]
    have : sealL (sealV h n 11) [x, .s a, .s b] = some [u, .s a, .s b] := by
      simp only [sealL, h1, Option.bind_eq_bind, Option.bind_some]
      rw [show (11 : Nat) = 10 + 1 from rfl, seal_s1, seal_s1]; rfl
    rw [this]; rfl
  unfold Cl1
  rw [e2]; rfl
theorem wc_clo' {W : List Wd} : (wc W).all (clo 10) = true := by simp [wc, wds, wdv]
theorem RowW.fin' {h g : H} {W : List Wd} {X : V} (r : RowW h g W X) : (sealV g h.length 11 X).map fg = some (AM.vs .dead 2 (wds W)) := by
  obtain ⟨_, ⟨rfl, rfl⟩ | ⟨hne, b, rfl, h1, h2⟩⟩ := r
  · obtain ⟨u, e1, e2⟩ := clo_fg (h := g) (n := h.length) (k := 10 + 1) (v := AM.vs .nil 0 []) rfl
    rw [show (11 : Nat) = 10 + 1 from rfl, e1, Option.map_some, e2]; rfl
  · obtain ⟨m, e1, e2⟩ := sealL_fg (l := wc W) fun v hv => clo_fg (h := g) (n := h.length) (List.all_eq_true.1 wc_clo' v hv)
    rw [seal_msl (d := 10) h1 h2 (by simp) e1, Option.map_some]
    show some (AM.vs .dead 2 (fgL (chunks 2 W.length m))) = _
    rw [fgL_chunks, e2, ← fgL_chunks, wc_chunks, fgL_wds]
theorem s108 {lo : Nat} {l : List UInt8} {h : H} (h1 : l.length ≤ 4294967281) : den cx lo 108 [.t l] h = some (resV (splR l), h) := by
  refine den_pure (fn := Tryz.f108) (by rfl) (by rfl) (by rfl) (by rfl) (by simp [Tryz.f108]) (by simp) ?_
  simp (maxSteps := 2000000) (disch := first | omega | (simp; done) | (simp; omega) | assumption) [Tryz.f108, argsE]
  obtain ⟨I, hI⟩ : ∃ I : Nat → List Ent → List (Nat × List V) → H → Prop, I = (fun n vs lb g => ∃ (j f : Nat) (cur : List UInt8) (out : List Wd) (X : V), n + j = l.length ∧ f + cur.length = j ∧ (cur = [] ↔ (j = 0 ∨ l[j - 1]? = some 32)) ∧ out.length + cur.length ≤ j ∧ spl 0 [] l = (spl f cur (l.drop j)).map (out ++ ·) ∧ RowW h g (out ++ bw cur f) X ∧ vs = [.v (.i j), .v X] ∧ lb = []) := ⟨_, rfl⟩
  refine Wp.loopI I (n := l.length) (by rw [hI]; exact ⟨0, 0, [], [], AM.vs .nil 0 [], by simp, by simp, by simp, by simp, by simp; cases spl 0 [] l <;> rfl, ⟨Nat.le_refl _, .inl ⟨rfl, rfl⟩⟩, by simp, by simp⟩) ?_
  intro n vs lb g hi; rw [hI] at hi; obtain ⟨j, f, cur, out, X, hj, hf, hc, ho, he, hr, rfl, rfl⟩ := hi
  have hX : (Ent.v X).val = some X := by obtain ⟨_, ⟨_, rfl⟩ | ⟨_, b, rfl, _⟩⟩ := hr <;> rfl
  by_cases hlt : j < l.length
  case neg =>
    obtain rfl : j = l.length := by omega
    rw [List.drop_of_length_le (Nat.le_refl _)] at he
    by_cases hl : l = []
    · subst hl
      have hcur : cur = [] := hc.2 (.inl rfl)
      have hout : out = [] := by cases out <;> simp at ho ⊢
      subst hcur; subst hout
      obtain ⟨_, ⟨_, rfl⟩ | ⟨hw, _⟩⟩ := hr
      · clear he hI; simp (maxSteps := 2000000) (disch := first | omega | (simp; done) | (simp; omega) | assumption) [isC, Cl1_tup, Cl1_agg, Cl1_vs, splR, resV, wds]
      · exact absurd rfl hw
    have hl0 : 0 < l.length := List.length_pos_iff.2 hl
    have hl0' : (0 : Int) < l.length := by omega
    have hjl : l.length - 1 < l.length := by omega
    have hjj : ((l.length : Int) - 1).toNat = l.length - 1 := by omega
    have esp : splR l = spl 0 [] l := if_neg hl
    by_cases hcur : cur = []
    · have hb : ((l[l.length - 1]'hjl).toNat : Int) = 32 := by
        rcases hc.1 hcur with e | e
        · omega
        · rw [List.getElem?_eq_getElem hjl] at e; rw [Option.some.inj e]; rfl
      subst hcur
      have e2 : splR l = .error l.length := by rw [esp, he]; simp at hf; simp [spl, Except.map, hf]
      rw [e2]
      clear he hI hr
      simp (maxSteps := 2000000) (disch := first | omega | (simp; done) | (simp; omega) | assumption) [isC, hl, hl0, hl0', hjj, hb, hX, wrap64, Cl1_tup, Cl1_agg, Cl1_vs, resV]
    · have h0 : ¬ (l.length = 0 ∨ l[l.length - 1]? = some 32) := fun e => hcur (hc.2 e)
      have hb : ¬ ((l[l.length - 1]'hjl).toNat : Int) = 32 := fun e => h0 (.inr (by rw [List.getElem?_eq_getElem hjl, is32.1 e]))
      have e2 : splR l = .ok (out ++ [(f, cur)]) := by rw [esp, he]; simp [spl, Except.map, hcur]
      have hfin := hr.fin'
      simp only [bw, hcur, if_false] at hfin
      rw [e2]
      clear he hI hr
      simp (maxSteps := 2000000) (disch := first | omega | (simp; done) | (simp; omega) | assumption) [isC, hl, hl0, hl0', hjj, hb, hX, wrap64, resV]
      exact Cl1_three hfin
  have hd : l.drop j = l[j] :: l.drop (j + 1) := List.drop_eq_getElem_cons hlt
  rw [hd] at he
  have hne : l ≠ [] := by rintro rfl; simp at hlt
  have esp : splR l = spl 0 [] l := if_neg hne
  have hgo : ∀ (f' : Nat) (cur' : List UInt8) (out' : List Wd) (X' : V) (g' : H), f' + cur'.length = j + 1 → (cur' = [] ↔ l[j] = 32) → out'.length + cur'.length ≤ j + 1 → spl 0 [] l = (spl f' cur' (l.drop (j + 1))).map (out' ++ ·) → RowW h g' (out' ++ bw cur' f') X' → I (n - 1) [.v (.i ((j : Int) + 1)), .v X'] [] g' := by
    intro f' cur' out' X' g' k1 k2 k3 k4 k5
    rw [hI]
    exact ⟨j + 1, f', cur', out', X', by omega, k1, by rw [k2]; simp [hlt], k3, k4, k5, by simp, rfl⟩
  by_cases hcur : cur = []
  · subst hcur
    simp only [List.length_nil, Nat.add_zero] at hf ho
    subst hf
    have hbeg : Beg l f := by
      by_cases h0 : f = 0
      · exact .inl h0
      · have hjl : f - 1 < l.length := by omega
        refine .inr ⟨h0, hjl, ?_⟩
        have e := (hc.1 rfl).resolve_left h0
        rw [List.getElem?_eq_getElem hjl] at e; rw [Option.some.inj e]; rfl
    by_cases h32 : l[f] = 32
    · rw [h32, spl_sp0] at he
      have e2 : splR l = .error f := by rw [esp, he]; rfl
      rw [e2]
      refine a108 hlt hX hbeg (is32.2 h32) h1 ?_
      intro s k2 k3 k4 k5
      simp (maxSteps := 2000000) (disch := first | omega | (simp; done) | (simp; omega) | assumption) [k2, k3, k4, k5, Cl1_tup, Cl1_agg, Cl1_vs, resV]
    have hi32 : ¬ (l[f].toNat : Int) = 32 := fun e => h32 (is32.1 e)
    by_cases hp : prt l[f] = true
    case neg =>
      have hp' : prt l[f] = false := by simpa using hp
      rw [spl_bad h32 hp'] at he
      have e2 : splR l = .error f := by rw [esp, he]; rfl
      have hq : (l[f].toNat : Int) < 32 ∨ (¬ (l[f].toNat : Int) < 32 ∧ (126 : Int) < l[f].toNat) := by
        have := mt prt_iff.2 hp
        omega
      rw [e2]
      refine b108 hlt hX (.inl hbeg) hq h1 ?_
      intro s k2 k3 k4 k5
      simp (maxSteps := 2000000) (disch := first | omega | (simp; done) | (simp; omega) | assumption) [k2, k3, k4, k5, Cl1_tup, Cl1_agg, Cl1_vs, resV]
    have q1 : ¬ (l[f].toNat : Int) < 32 := by have := prt_iff.1 hp; omega
    have q2 : ¬ (126 : Int) < l[f].toNat := by have := prt_iff.1 hp; omega
    rw [spl_good h32 hp, List.nil_append] at he
    obtain ⟨hgl, ⟨hw, rfl⟩ | ⟨hw, b, rfl, hb1, hb2⟩⟩ := hr
    · have hout : out = [] := by simpa [bw] using hw
      subst hout
      refine e108 hlt hbeg hi32 q1 q2 h1 (by omega) hgl ?_
      exact hgo f [l[f]] [] (.msl g.length 0 1 2) _ (by simp) (by simp [h32]) (by simp) he ⟨by simp; omega, .inr ⟨by simp [bw], g.length, by simp [bw], hgl, by simp [bw, wc, wds, wdv]⟩⟩
    · have hw' : out ≠ [] := by simpa [bw] using hw
      simp only [bw, if_true, List.append_nil] at hb2 ⊢
      refine f108 hlt hbeg hi32 q1 q2 h1 (by omega) ho hw' hgl hb1 hb2 ?_
      exact hgo f [l[f]] out (.msl g.length 0 (out.length + 1) 2) _ (by simp) (by simp [h32]) (by simp; omega) he ⟨by simp; omega, .inr ⟨by simp [bw], g.length, by simp [bw], hgl, by rw [cellsAt_push' (by simp)]; simp [bw, wc_snoc]⟩⟩
  · have h0 : ¬ (j = 0 ∨ l[j - 1]? = some 32) := fun e => hcur (hc.2 e)
    have hjl : j - 1 < l.length := by omega
    have hmid : Mid l j := ⟨fun e => h0 (.inl e), hjl, fun e => h0 (.inr (by rw [List.getElem?_eq_getElem hjl, is32.1 e]))⟩
    have hc0 : 0 < cur.length := List.length_pos_iff.2 hcur
    by_cases h32 : l[j] = 32
    · rw [h32, spl_sp hcur, map_map', hf] at he
      refine c108 hlt hX hmid (is32.2 h32) h1 (by omega) ?_
      exact hgo (j + 1) [] (out ++ [(f, cur)]) X g (by simp) (by simp [h32]) (by simp; omega) he (by simpa [bw, hcur] using hr)
    have hi32 : ¬ (l[j].toNat : Int) = 32 := fun e => h32 (is32.1 e)
    by_cases hp : prt l[j] = true
    case neg =>
      have hp' : prt l[j] = false := by simpa using hp
      rw [spl_bad h32 hp', hf] at he
      have e2 : splR l = .error j := by rw [esp, he]; rfl
      have hq : (l[j].toNat : Int) < 32 ∨ (¬ (l[j].toNat : Int) < 32 ∧ (126 : Int) < l[j].toNat) := by
        have := mt prt_iff.2 hp
        omega
      rw [e2]
      refine b108 hlt hX (.inr hmid) hq h1 ?_
      intro s k2 k3 k4 k5
      simp (maxSteps := 2000000) (disch := first | omega | (simp; done) | (simp; omega) | assumption) [k2, k3, k4, k5, Cl1_tup, Cl1_agg, Cl1_vs, resV]
    have q1 : ¬ (l[j].toNat : Int) < 32 := by have := prt_iff.1 hp; omega
    have q2 : ¬ (126 : Int) < l[j].toNat := by have := prt_iff.1 hp; omega
    rw [spl_good h32 hp] at he
    obtain ⟨hgl, ⟨hw, _⟩ | ⟨_, b, rfl, hb1, hb2⟩⟩ := hr
    · simp [bw, hcur] at hw
    simp only [bw, hcur, if_false, wc_snoc] at hb2
    have hbg := cellsAt_lt hb2
    have hlen : (out ++ bw cur f).length = out.length + 1 := by simp [bw, hcur]
    rw [hlen]
    refine d108 hlt hmid hi32 q1 q2 h1 (by omega) ho hb1 hb2 ?_
    exact hgo f (cur ++ [l[j]]) out (.msl b 0 (out.length + 1) 2) _ (by simp; omega) (by simp [h32]) (by simp; omega) he ⟨by simp; omega, .inr ⟨by simp [bw], b, by simp [bw], hb1, by rw [cellsAt_set hbg]; simp [bw, wc_snoc]⟩⟩
end ZD
open Go Go.AM Go.Proofs Go.AM.Pl
set_option maxRecDepth 100000
namespace ZD
theorem s140 {lo : Nat} {l : List UInt8} {h : H} (h1 : l.length ≤ 140737488355328) : den cx lo 140 [.t l] h = some (.tup [.i (numR l M9).1, .i (numR l M9).2], h) := by
  refine den_pure (fn := Tryz.f140) (by rfl) (by rfl) (by rfl) (by rfl) (by simp [Tryz.f140]) (by simp) ?_
  simp (maxSteps := 2000000) (disch := first | omega | (simp; done) | (simp; omega) | assumption) [Tryz.f140, argsE, s147, M9, Cl1_tup, Cl1_agg, Cl1_vs]
theorem isMin_iff {l : List UInt8} : isMin l = decide (l.take 1 = [45]) := by
  cases l with
  | nil => rfl
  | cons c r => by_cases h : c = 45
                · subst h; rfl
                · rw [isMin_not h]; simp [h]
theorem s218 {lo : Nat} {l : List UInt8} {h : H} : den cx lo 218 [.t l, .t [45]] h = some (.b (isMin l), h) := by
  rw [isMin_iff]
  refine den_pure (fn := Tryz.f218) (by rfl) (by rfl) (by rfl) (by rfl) (by simp [Tryz.f218]) (by simp) ?_
  cases l with
  | nil => simp (maxSteps := 2000000) (disch := first | omega | (simp; done) | (simp; omega) | assumption) [Tryz.f218, argsE, isC]
  | cons c r =>
    have : (1 : Int) ≤ (r.length : Int) + 1 := by omega
    simp (maxSteps := 2000000) (disch := first | omega | (simp; done) | (simp; omega) | assumption) [Tryz.f218, argsE, isC, this]
theorem s196 {lo : Nat} {l : List UInt8} {h : H} : den cx lo 196 [.t l, .t [45]] h = some (.tup [.t (if isMin l = true then l.drop 1 else l), .b (isMin l)], h) := by
  refine den_pure (fn := Tryz.f196) (by rfl) (by rfl) (by rfl) (by rfl) (by simp [Tryz.f196]) (by simp) ?_
  by_cases hm : isMin l = true
  · have hl : 1 ≤ l.length := by cases l <;> simp_all [isMin]
    have : (1 : Int) ≤ (l.length : Int) := by omega
    simp (maxSteps := 2000000) (disch := first | omega | (simp; done) | (simp; omega) | assumption) [Tryz.f196, argsE, s218, hm, isC, this, Cl1_tup, Cl1_agg, Cl1_vs]
  · simp (maxSteps := 2000000) (disch := first | omega | (simp; done) | (simp; omega) | assumption) [Tryz.f196, argsE, s218, hm, isC, Cl1_tup, Cl1_agg, Cl1_vs]
theorem s171 {lo : Nat} {l : List UInt8} {h : H} : den cx lo 171 [.t l, .t [45]] h = some (.tup [.t (if isMin l = true then l.drop 1 else l), .b (isMin l)], h) := by
  refine den_pure (fn := Tryz.f171) (by rfl) (by rfl) (by rfl) (by rfl) (by simp [Tryz.f171]) (by simp) ?_
  simp (maxSteps := 2000000) (disch := first | omega | (simp; done) | (simp; omega) | assumption) [Tryz.f171, argsE, s196, Cl1_tup, Cl1_agg, Cl1_vs]
theorem s141 {lo : Nat} {l : List UInt8} {h : H} (h1 : l.length ≤ 140737488355328) : den cx lo 141 [.t l] h = some (.tup [.i (sgnR l).1, .i (sgnR l).2], h) := by
  refine den_pure (fn := Tryz.f141) (by rfl) (by rfl) (by rfl) (by rfl) (by simp [Tryz.f141]) (by simp) ?_
  have hr := numR_range l.tail M9
  by_cases hm : isMin l = true
  · by_cases h2 : (numR l.tail M9).2 = 0
    · by_cases h3 : (numR l.tail M9).1 = 0 <;> simp (maxSteps := 2000000) (disch := first | omega | (simp; done) | (simp; omega) | assumption) [Tryz.f141, argsE, s171, s140, hm, h2, h3, sgnR, Cl1_tup, Cl1_agg, Cl1_vs, isC, wrap64]
    · simp (maxSteps := 2000000) (disch := first | omega | (simp; done) | (simp; omega) | assumption) [Tryz.f141, argsE, s171, s140, hm, h2, sgnR, Cl1_tup, Cl1_agg, Cl1_vs, isC]
  · by_cases h2 : (numR l M9).2 = 0 <;> simp (maxSteps := 2000000) (disch := first | omega | (simp; done) | (simp; omega) | assumption) [Tryz.f141, argsE, s171, s140, hm, h2, sgnR, Cl1_tup, Cl1_agg, Cl1_vs, isC]
    exact (numR_zero h2).symm
structure Ord where
  a : Int
  b : Int
  c : Int
  d : Int
  os : List Spn
def Ord.cs (o : Ord) : List V := [.i o.a, .i o.b, .i o.c, .i o.d, AM.vs .dead 2 (spns o.os)]
def Ord.v (o : Ord) : V := .agg o.cs
def Ord.wf (o : Ord) : Prop := i64B o.a ∧ i64B o.b ∧ i64B o.c ∧ i64B o.d ∧ (∀ s ∈ o.os, spanB64 s) ∧ o.os.length ≤ 1000000
def Ord.l (o : Ord) : List UInt8 := orderL o.a o.b o.c o.d o.os
@[simp] theorem fgL_ordc (o : Ord) : fgL o.cs = o.cs := by simp [Ord.cs]
@[simp] theorem fg_ord (o : Ord) : fg o.v = o.v := by simp [Ord.v]
end ZD
open Go Go.AM Go.Proofs Go.AM.Pl
set_option maxRecDepth 100000
namespace ZD
def OrdR.o (x : OrdR) : Ord := ⟨x.1, x.2.1, x.2.2.1, x.2.2.2.1, x.2.2.2.2.1⟩
def OrdR.e (x : OrdR) : Int := x.2.2.2.2.2
def ordV (x : OrdR) : V := .tup [(OrdR.o x).v, .i (OrdR.e x)]
@[simp] theorem ia191 {b o : Nat} {k : IntKind} {i : Int} (h0 : 0 ≤ i) (h1 : i < (4 : Nat)) : indexAddrV cx 191 (.lp b o) (.s (.int k i)) = some (.lp b (o + i.toNat * 1)) := indexAddr_arr (e := 3) (n := 4) (by rfl) (by rfl) h0 h1
theorem spns_snoc {l : List Spn} {x : Spn} : spns (l ++ [x]) = spns l ++ [Spn.v x] := by simp [spns]
@[simp] theorem clo_spns (k : Nat) (l : List Spn) : (spns l).all (clo (k + 2)) = true := by simp [spns, Spn.v]
set_option maxHeartbeats 4000000 in
theorem s91 {lo : Nat} {ws : List Wd} {h : H} (h1 : ws.length ≤ 100000000) (h2 : ∀ x ∈ ws, x.2.length < 4294967281) : den cx lo 91 [AM.vs .dead 2 (wds ws)] h = some (ordV (ordR (ws.map (·.2))), h) := by
  refine den_pure (fn := Tryz.f91) (by rfl) (by rfl) (by rfl) (by rfl) (by simp [Tryz.f91]) (by simp) ?_
  by_cases hl : ws.length < 5
  · have e : ordR (ws.map (·.2)) = zer 7 := by
      match ws, hl with
      | [], _ | [_], _ | [_, _], _ | [_, _, _], _ | [_, _, _, _], _ => rfl
    have hl' : (ws.length : Int) < 5 := by omega
    rw [e]
    simp (maxSteps := 2000000) (disch := first | omega | (simp; done) | (simp; omega) | assumption) [Tryz.f91, argsE, hl, hl', isC, boxV, boxO, fresh_no, List.filter_cons, setB, aggN, op_build, List.set, Cl1_tup, Cl1_agg, Cl1_vs, ordV, Ord.v, Ord.cs, OrdR.o, OrdR.e, zer, spns]
  obtain ⟨w0, w1, w2, w3, w4, r, rfl⟩ : ∃ w0 w1 w2 w3 w4 r, ws = w0 :: w1 :: w2 :: w3 :: w4 :: r := by
    match ws, hl with
    | [], h | [_], h | [_, _], h | [_, _, _], h | [_, _, _, _], h => exact absurd (by simp) h
    | w0 :: w1 :: w2 :: w3 :: w4 :: r, _ => exact ⟨w0, w1, w2, w3, w4, r, rfl⟩
  have hl' : ¬ ((r.length : Int) + 1 + 1 + 1 + 1 + 1 < 5) := by omega
  have hl2 : (0 : Int) < (r.length : Int) + 1 + 1 + 1 + 1 + 1 := by omega
  by_cases hw : w0.2 = ordW
  case neg =>
    have e : ordR ((w0 :: w1 :: w2 :: w3 :: w4 :: r).map (·.2)) = zer 7 := if_neg hw
    have hw' : ¬ w0.2 = [111, 114, 100, 101, 114] := hw
    rw [e]
    simp (maxSteps := 2000000) (disch := first | omega | (simp; done) | (simp; omega) | assumption) [Tryz.f91, argsE, hl', hl2, isC, boxV, boxO, fresh_no, List.filter_cons, setB, aggN, op_build, List.set, Cl1_tup, Cl1_agg, Cl1_vs, ordV, Ord.v, Ord.cs, OrdR.o, OrdR.e, zer, spns, wds, wdv, hw']
  have hw' : w0.2 = [111, 114, 100, 101, 114] := hw
  have e0 : ordR ((w0 :: w1 :: w2 :: w3 :: w4 :: r).map (·.2)) = ord5 w1.2 w2.2 w3.2 w4.2 (r.map (·.2)) := if_pos hw
  rw [e0]
  simp only [List.mem_cons, forall_eq_or_imp] at h2
  obtain ⟨_, g1, g2, g3, g4, g5⟩ := h2
  simp (maxSteps := 2000000) (disch := first | omega | (simp; done) | (simp; omega) | assumption) [Tryz.f91, argsE, hl', hl2, isC, boxV, boxO, fresh_no, List.filter_cons, setB, aggN, op_build, List.set, wds, wdv, hw']
  obtain ⟨I, hI⟩ : ∃ I : Nat → List Ent → List (Nat × List V) → H → Prop, I = (fun n vs lb g => ∃ j : Nat, n + j = 4 ∧ (0 < j → (numR w1.2 M9).2 = 0) ∧ (1 < j → (numR w2.2 M9).2 = 0) ∧ (2 < j → (sgnR w3.2).2 = 0) ∧ (3 < j → (numR w4.2 M9).2 = 0) ∧ vs = [.v (.i j)] ∧
    lb = [(4, [.i (if 0 < j then (numR w1.2 M9).1 else 0), .i (if 1 < j then (numR w2.2 M9).1 else 0), .i (if 2 < j then (sgnR w3.2).1 else 0), .i (if 3 < j then (numR w4.2 M9).1 else 0)]), (2, [.i 0, .i 0, .i 0, .i 0, AM.vs .nil 0 []])] ∧ g = h) := ⟨_, rfl⟩
  refine Wp.loopQ I (n := 4) (by rw [hI]; exact ⟨0, by simp, by simp, by simp, by simp, by simp, by simp, by simp, by simp⟩) ?_
  intro n vs lb g hi Q hQ; rw [hI] at hi; obtain ⟨j, hj, k1, k2, k3, k4, rfl, rfl, rfl⟩ := hi
  have go : ∀ j : Nat, j ≤ 4 → (0 < j → (numR w1.2 M9).2 = 0) → (1 < j → (numR w2.2 M9).2 = 0) → (2 < j → (sgnR w3.2).2 = 0) → (3 < j → (numR w4.2 M9).2 = 0) → I (4 - j) [.v (.i j)] [(4, [.i (if 0 < j then (numR w1.2 M9).1 else 0), .i (if 1 < j then (numR w2.2 M9).1 else 0), .i (if 2 < j then (sgnR w3.2).1 else 0), .i (if 3 < j then (numR w4.2 M9).1 else 0)]), (2, [.i 0, .i 0, .i 0, .i 0, AM.vs .nil 0 []])] g := by
    intro j a1 a2 a3 a4 a5
    rw [hI]; exact ⟨j, by omega, a2, a3, a4, a5, rfl, rfl, rfl⟩
  clear hI
  obtain rfl | rfl | rfl | rfl | rfl : j = 0 ∨ j = 1 ∨ j = 2 ∨ j = 3 ∨ j = 4 := by omega
  · by_cases q : (numR w1.2 M9).2 = 0
    · have go := go 1 (by omega) (by simp [q]) (by simp) (by simp) (by simp)
      simp (maxSteps := 2000000) (disch := first | omega | (simp; done) | (simp; omega) | assumption) [isC, boxV, boxO, fresh_no, List.filter_cons, setB, aggN, op_build, List.set, s140, q, wrap64]
      exact ⟨3, by omega, by simpa using go⟩
    · simp (maxSteps := 2000000) (disch := first | omega | (simp; done) | (simp; omega) | assumption) [isC, boxV, boxO, fresh_no, List.filter_cons, setB, aggN, op_build, List.set, s140, q, wrap64]
      refine hQ _ _ ?_
      simp (maxSteps := 2000000) (disch := first | omega | (simp; done) | (simp; omega) | assumption) [boxV, boxO, fresh_no, List.filter_cons, setB, aggN, op_build, List.set, Cl1_tup, Cl1_agg, Cl1_vs, ordV, Ord.v, Ord.cs, OrdR.o, OrdR.e, zer, spns, ord5, q]
  · have k1 := k1 (by omega)
    by_cases q : (numR w2.2 M9).2 = 0
    · have go := go 2 (by omega) (by simp [k1]) (by simp [q]) (by simp) (by simp)
      simp (maxSteps := 2000000) (disch := first | omega | (simp; done) | (simp; omega) | assumption) [isC, boxV, boxO, fresh_no, List.filter_cons, setB, aggN, op_build, List.set, s140, q, wrap64]
      exact ⟨2, by omega, by simpa using go⟩
    · simp (maxSteps := 2000000) (disch := first | omega | (simp; done) | (simp; omega) | assumption) [isC, boxV, boxO, fresh_no, List.filter_cons, setB, aggN, op_build, List.set, s140, q, wrap64]
      refine hQ _ _ ?_
      simp (maxSteps := 2000000) (disch := first | omega | (simp; done) | (simp; omega) | assumption) [boxV, boxO, fresh_no, List.filter_cons, setB, aggN, op_build, List.set, Cl1_tup, Cl1_agg, Cl1_vs, ordV, Ord.v, Ord.cs, OrdR.o, OrdR.e, zer, spns, ord5, q, k1]
  · have k1 := k1 (by omega); have k2 := k2 (by omega)
    by_cases q : (sgnR w3.2).2 = 0
    · have go := go 3 (by omega) (by simp [k1]) (by simp [k2]) (by simp [q]) (by simp)
      simp (maxSteps := 2000000) (disch := first | omega | (simp; done) | (simp; omega) | assumption) [isC, boxV, boxO, fresh_no, List.filter_cons, setB, aggN, op_build, List.set, s141, q, wrap64]
      exact ⟨1, by omega, by simpa using go⟩
    · simp (maxSteps := 2000000) (disch := first | omega | (simp; done) | (simp; omega) | assumption) [isC, boxV, boxO, fresh_no, List.filter_cons, setB, aggN, op_build, List.set, s141, q, wrap64]
      refine hQ _ _ ?_
      simp (maxSteps := 2000000) (disch := first | omega | (simp; done) | (simp; omega) | assumption) [boxV, boxO, fresh_no, List.filter_cons, setB, aggN, op_build, List.set, Cl1_tup, Cl1_agg, Cl1_vs, ordV, Ord.v, Ord.cs, OrdR.o, OrdR.e, zer, spns, ord5, q, k1, k2]
  · have k1 := k1 (by omega); have k2 := k2 (by omega); have k3 := k3 (by omega)
    by_cases q : (numR w4.2 M9).2 = 0
    · have go := go 4 (by omega) (by simp [k1]) (by simp [k2]) (by simp [k3]) (by simp [q])
      simp (maxSteps := 2000000) (disch := first | omega | (simp; done) | (simp; omega) | assumption) [isC, boxV, boxO, fresh_no, List.filter_cons, setB, aggN, op_build, List.set, s140, q, wrap64]
      exact ⟨0, by omega, by simpa using go⟩
    · simp (maxSteps := 2000000) (disch := first | omega | (simp; done) | (simp; omega) | assumption) [isC, boxV, boxO, fresh_no, List.filter_cons, setB, aggN, op_build, List.set, s140, q, wrap64]
      refine hQ _ _ ?_
      simp (maxSteps := 2000000) (disch := first | omega | (simp; done) | (simp; omega) | assumption) [boxV, boxO, fresh_no, List.filter_cons, setB, aggN, op_build, List.set, Cl1_tup, Cl1_agg, Cl1_vs, ordV, Ord.v, Ord.cs, OrdR.o, OrdR.e, zer, spns, ord5, q, k1, k2, k3]
  have k1 := k1 (by omega); have k2 := k2 (by omega); have k3 := k3 (by omega); have k4 := k4 (by omega)
  clear go
  simp (maxSteps := 2000000) (disch := first | omega | (simp; done) | (simp; omega) | assumption) []
  refine hQ _ _ ?_
  clear hQ
  have e5 : ord5 w1.2 w2.2 w3.2 w4.2 (r.map (·.2)) = if (spansR (r.map (·.2)) []).2 = 0 then ((numR w1.2 M9).1, (numR w2.2 M9).1, (sgnR w3.2).1, (numR w4.2 M9).1, (spansR (r.map (·.2)) []).1, 0) else zer (spansR (r.map (·.2)) []).2 := by
    simp [ord5, k1, k2, k3, k4]
  rw [e5]
  generalize (numR w1.2 M9).1 = a1
  generalize (numR w2.2 M9).1 = a2
  generalize (sgnR w3.2).1 = a3
  generalize (numR w4.2 M9).1 = a4
  simp (maxSteps := 2000000) (disch := first | omega | (simp; done) | (simp; omega) | assumption) [isC, boxV, boxO, fresh_no, List.filter_cons, setB, aggN, op_build, List.set]
  clear e5 e0 hj I
  obtain ⟨J, hJ⟩ : ∃ J : Nat → List Ent → List (Nat × List V) → H → Prop, J = (fun n vs lb g' => ∃ (j : Nat) (t : Tk) (os : List Spn), n + j = r.length ∧ os.length ≤ j ∧ spansR (r.map (·.2)) [] = spansR ((r.drop j).map (·.2)) os ∧ Apd g.length g' t ∧ g.length ≤ g'.length ∧ vs = [.v (.i j)] ∧
    lb = [(9, [.i a1, .i a2, .i a3, .i a4, AM.vs t 2 (spns os)]), (4, [.i a1, .i a2, .i a3, .i a4]), (2, [.i 0, .i 0, .i 0, .i 0, AM.vs .nil 0 []])]) := ⟨_, rfl⟩
  refine Wp.loopQ J (n := r.length) (by rw [hJ]; exact ⟨0, .nil, [], by simp, by simp, by simp, by simp, by simp, by simp, by simp [spns]⟩) ?_
  intro n vs lb g' hi Q hQ; rw [hJ] at hi; obtain ⟨j, t, os, hj, ho, he, ha, hg, rfl, rfl⟩ := hi
  have hrl : r.length ≤ 100000000 := by simp at h1; omega
  by_cases hlt : j < r.length
  · have hd : (r.drop j).map (·.2) = r[j].2 :: (r.drop (j + 1)).map (·.2) := by rw [List.drop_eq_getElem_cons hlt]; rfl
    have hwl := g5 _ (List.getElem_mem hlt)
    rw [hd] at he
    simp only [spansR] at he
    by_cases q : (spanR r[j].2).2.2 = 0
    · rw [if_pos q] at he
      have go : J (n - 1) [.v (.i ((j : Int) + 1))] [(9, [.i a1, .i a2, .i a3, .i a4, AM.vs (.tip g'.length) 2 (spns os ++ [Spn.v ⟨(spanR r[j].2).1, (spanR r[j].2).2.1⟩])]), (4, [.i a1, .i a2, .i a3, .i a4]), (2, [.i 0, .i 0, .i 0, .i 0, AM.vs .nil 0 []])] (apH g' t) := by
        rw [hJ]; exact ⟨j + 1, .tip g'.length, os ++ [⟨(spanR r[j].2).1, (spanR r[j].2).2.1⟩], by omega, by simp; omega, he, Apd_ap hg, by simp; omega, by simp, by rw [spns_snoc]⟩
      clear hJ he
      simp (maxSteps := 2000000) (disch := first | omega | (simp; done) | (simp; omega) | assumption) [isC, boxV, boxO, fresh_no, List.filter_cons, setB, aggN, op_build, List.set, s107, q, wrap64, hlt, wdv, elemsV]
      exact ⟨n - 1, by omega, go⟩
    · rw [if_neg q] at he
      clear hJ
      simp (maxSteps := 2000000) (disch := first | omega | (simp; done) | (simp; omega) | assumption) [isC, boxV, boxO, fresh_no, List.filter_cons, setB, aggN, op_build, List.set, s107, q, wrap64, hlt, wdv, elemsV]
      refine hQ _ _ ?_
      rw [he]
      simp (maxSteps := 2000000) (disch := first | omega | (simp; done) | (simp; omega) | assumption) [boxV, boxO, fresh_no, List.filter_cons, setB, aggN, op_build, List.set, Cl1_tup, Cl1_agg, Cl1_vs, ordV, Ord.v, Ord.cs, OrdR.o, OrdR.e, zer, spns, q]
  · obtain rfl : j = r.length := by omega
    rw [List.drop_of_length_le (Nat.le_refl _)] at he
    simp only [List.map_nil, spansR] at he
    clear hJ
    simp (maxSteps := 2000000) (disch := first | omega | (simp; done) | (simp; omega) | assumption) []
    refine hQ _ _ ?_
    rw [he]
    clear he
    simp (maxSteps := 2000000) (disch := first | omega | (simp; done) | (simp; omega) | assumption) [boxV, boxO, fresh_no, List.filter_cons, setB, aggN, op_build, List.set, Cl1_tup, Cl1_agg, Cl1_vs, ordV, Ord.v, Ord.cs, OrdR.o, OrdR.e]
end ZD

/- What the document's check of a depot tells. No condition. -/
import Derived.Test.YtieenbjncimikaaGreatDoorPE
import Derived.Test.YtieenbjncimikaaGreatDoorPF
set_option linter.all false
open Go Go.AM Go.Proofs Go.AM.Pl
set_option maxRecDepth 100000
set_option maxHeartbeats 4000000
namespace ZD
theorem bz_b {c : Int} {z : Bool} (hc : 0 < c) : (0 ≤ bz c z ∧ bz c z ≤ c) ∧ (bz c z = 0 ↔ z = false) := by
  unfold bz; cases z <;> simp <;> omega
theorem riseK_b {b : List Int} {m : Mtr} {w : Wth} {k : Int} (hk : 0 ≤ k ∧ k < 1024) : (0 ≤ riseK b m w k ∧ riseK b m w k < 1024) ∧ (riseK b m w k = 0 ↔ k = 0 ∧ endK b m w = 0) := by
  unfold riseK endK
  split
  · have h1 := orZ_b (c := 256) (z := w.brief && m.brief) hk (by omega)
    have h2 := bz_b (c := 256) (z := w.brief && m.brief) (by omega)
    rw [h2.2]; exact h1
  split
  · have h1 := orZ_b (c := 64) (z := decide (bk b 9 < m.reduces + 1)) hk (by omega)
    have h2 := bz_b (c := 64) (z := decide (bk b 9 < m.reduces + 1)) (by omega)
    rw [h2.2]; exact h1
  · exact ⟨hk, by simp⟩
theorem premK_b {b : List Int} {m : Mtr} {k : Int} (hk : 0 ≤ k ∧ k < 1024) : (0 ≤ premK b m k ∧ premK b m k < 1024) ∧ (premK b m k = 0 ↔ k = 0 ∧ premS b m = 0) := by
  unfold premK premS
  split
  · exact riseK_b hk
  · exact ⟨hk, by simp⟩
theorem addS {k S c : Int} {z : Bool} {n : Nat} {P : Prop} (hk : 0 ≤ k ∧ k < 1024) (hc : 0 < c ∧ c < 1000) (hS : Sm n S) (e : k = 0 ↔ P ∧ S = 0) : (0 ≤ orZ k c z ∧ orZ k c z < 1024) ∧ Sm (n + 1) (S + bz c z) ∧ (orZ k c z = 0 ↔ P ∧ S + bz c z = 0) := by
  have h1 := orZ_b (z := z) hk (c := c) (by omega)
  have h2 := bz_b (z := z) hc.1
  have h3 := Sm_bz (z := z) hS (c := c) (by omega)
  refine ⟨h1.1, h3, ?_⟩
  rw [h1.2, e]
  unfold Sm at hS
  constructor
  · rintro ⟨⟨p, q⟩, r⟩; rw [← h2.2] at r; exact ⟨p, by omega⟩
  · rintro ⟨p, q⟩; exact ⟨⟨p, by omega⟩, h2.2.1 (by omega)⟩
theorem min_step {b : List Int} {m : Mtr} {k kind : Int} (hk : 0 ≤ k ∧ k < 1024) : (0 ≤ minK b m k kind ∧ minK b m k kind < 1024) ∧ (0 ≤ stepK b m kind ∧ stepK b m kind < 65536) ∧ (minK b m k kind = 0 ↔ k = 0 ∧ stepK b m kind = 0) := by
  unfold minK stepK
  by_cases h0 : kind = 0
  · rw [if_pos h0, if_pos h0]; exact ⟨hk, by omega, by simp⟩
  rw [if_neg h0, if_neg h0]
  obtain ⟨p1, p2⟩ := premK_b (b := b) (m := m) hk
  have p3 := premS_Sm (b := b) (m := m) (n := 0)
  simp only [dawnK, dawnS]
  generalize premK b m k = K0 at *
  generalize premS b m = S0 at *
  generalize premM b m = m1 at *
  obtain ⟨a1, a2, a3⟩ := addS (c := 32) (z := decide (bk b 11 - bk b 8 ≤ m1.now - m1.dawn)) p1 (by omega) p3 p2
  obtain ⟨b1, b2, b3⟩ := addS (c := 128) (z := decide (bk b 14 ≤ m1.now - m1.sabbath)) a1 (by omega) a2 a3
  generalize orZ (orZ K0 32 (decide (bk b 11 - bk b 8 ≤ m1.now - m1.dawn))) 128 (decide (bk b 14 ≤ m1.now - m1.sabbath)) = K1 at *
  generalize S0 + bz 32 (decide (bk b 11 - bk b 8 ≤ m1.now - m1.dawn)) + bz 128 (decide (bk b 14 ≤ m1.now - m1.sabbath)) = S1 at *
  have key : ∃ K2 S2, (if kind = 3 then drvK b m1 K1 else K1) = K2 ∧ (if kind = 3 then drvS b m1 S1 else S1) = S2 ∧ (0 ≤ K2 ∧ K2 < 1024) ∧ Sm 10 S2 ∧ (K2 = 0 ↔ k = 0 ∧ S2 = 0) := by
    by_cases h3 : kind = 3
    · rw [if_pos h3, if_pos h3]
      refine ⟨_, _, rfl, rfl, ?_⟩
      unfold drvK drvS
      by_cases hd : m1.day = bk b 4
      · rw [if_pos (by omega), if_pos hd]
        obtain ⟨c1, c2, c3⟩ := addS (c := 1) (z := decide (bk b 0 < m1.acc + 1)) b1 (by omega) b2 b3
        obtain ⟨d1, d2, d3⟩ := addS (c := 4) (z := decide (bk b 6 < m1.longers + 1)) c1 (by omega) c2 c3
        obtain ⟨e1, e2, e3⟩ := addS (c := 2) (z := decide (bk b 5 < m1.day + 1)) d1 (by omega) d2 d3
        obtain ⟨f1, f2, f3⟩ := addS (c := 8) (z := decide (bk b 15 < m1.week + 1)) e1 (by omega) e2 e3
        obtain ⟨g1, g2, g3⟩ := addS (c := 16) (z := decide (bk b 16 < m1.week + 1 + m1.last)) f1 (by omega) f2 f3
        have o1 := orZ_b (c := 4) (z := decide (bk b 6 < m1.longers + 1)) b1 (by omega)
        have o2 := orZ_b (c := 1) (z := decide (bk b 0 < m1.acc + 1)) o1.1 (by omega)
        have o3 := orZ_b (c := 2) (z := decide (bk b 5 < m1.day + 1)) o2.1 (by omega)
        have o4 := orZ_b (c := 8) (z := decide (bk b 15 < m1.week + 1)) o3.1 (by omega)
        have o5 := orZ_b (c := 16) (z := decide (bk b 16 < m1.week + 1 + m1.last)) o4.1 (by omega)
        have u1 := orZ_b (c := 1) (z := decide (bk b 0 < m1.acc + 1)) b1 (by omega)
        have u2 := orZ_b (c := 4) (z := decide (bk b 6 < m1.longers + 1)) u1.1 (by omega)
        have u3 := orZ_b (c := 2) (z := decide (bk b 5 < m1.day + 1)) u2.1 (by omega)
        have u4 := orZ_b (c := 8) (z := decide (bk b 15 < m1.week + 1)) u3.1 (by omega)
        have u5 := orZ_b (c := 16) (z := decide (bk b 16 < m1.week + 1 + m1.last)) u4.1 (by omega)
        refine ⟨o5.1, by unfold Sm at *; omega, ?_⟩
        rw [← g3, o5.2, o4.2, o3.2, o2.2, o1.2, u5.2, u4.2, u3.2, u2.2, u1.2]
        constructor
        · rintro ⟨⟨⟨⟨⟨x, y⟩, z⟩, w⟩, v⟩, u⟩; exact ⟨⟨⟨⟨⟨x, z⟩, y⟩, w⟩, v⟩, u⟩
        · rintro ⟨⟨⟨⟨⟨x, y⟩, z⟩, w⟩, v⟩, u⟩; exact ⟨⟨⟨⟨⟨x, z⟩, y⟩, w⟩, v⟩, u⟩
      · rw [if_neg (by omega), if_neg hd]
        obtain ⟨c1, c2, c3⟩ := addS (c := 1) (z := decide (bk b 0 < m1.acc + 1)) b1 (by omega) b2 b3
        obtain ⟨e1, e2, e3⟩ := addS (c := 2) (z := decide (bk b 5 < m1.day + 1)) c1 (by omega) c2 c3
        obtain ⟨f1, f2, f3⟩ := addS (c := 8) (z := decide (bk b 15 < m1.week + 1)) e1 (by omega) e2 e3
        obtain ⟨g1, g2, g3⟩ := addS (c := 16) (z := decide (bk b 16 < m1.week + 1 + m1.last)) f1 (by omega) f2 f3
        exact ⟨g1, by unfold Sm at *; omega, g3⟩
    · rw [if_neg h3, if_neg h3]
      exact ⟨_, _, rfl, rfl, b1, by unfold Sm at *; omega, b3⟩
  obtain ⟨K2, S2, k1, k2, k3, k4, k5⟩ := key
  simp only [k1, k2]
  by_cases h1 : kind = 1
  · rw [if_pos h1, if_pos h1]
    exact ⟨k3, by unfold Sm at k4; omega, k5⟩
  · rw [if_neg h1, if_neg h1]
    obtain ⟨g1, g2, g3⟩ := addS (c := 512) (z := decide (bk b 17 < m1.labour + 1)) k3 (by omega) k4 k5
    exact ⟨g1, by unfold Sm at g2; omega, g3⟩
def stR (b : List Int) (x : Mtr × Int) (kind : Int) : Mtr × Int := (minM b x.1 kind, orS x.2 (stepK b x.1 kind) 16)
def ofR (b : List Int) (l : List Rec) : Mtr × Int := (kindsR l).foldl (stR b) (mz, 0)
theorem fold_eq {b : List Int} : ∀ (ks : List Int) (m : Mtr) (k k' : Int), (0 ≤ k ∧ k < 1024) → (0 ≤ k' ∧ k' < 65536) → (k = 0 ↔ k' = 0) → (ks.foldl (stP b) (m, k)).1 = (ks.foldl (stR b) (m, k')).1 ∧ ((ks.foldl (stP b) (m, k)).2 = 0 ↔ (ks.foldl (stR b) (m, k')).2 = 0)
  | [], m, k, k', _, _, e => ⟨rfl, e⟩
  | x :: r, m, k, k', hk, hk', e => by
    obtain ⟨s1, s2, s3⟩ := min_step (b := b) (m := m) (kind := x) hk
    simp only [List.foldl_cons, stP, stR]
    have h1 := orS_le (a := k') (b := stepK b m x) 16
    have h2 := orS_ne hk' s2
    exact fold_eq r _ _ _ s1 (by simpa using h1) (by rw [s3, e, h2])
theorem of_eq {b : List Int} {l : List Rec} : (ofP b l).1 = (ofR b l).1 ∧ ((ofP b l).2 = 0 ↔ (ofR b l).2 = 0) := fold_eq _ _ _ _ (by omega) (by omega) Iff.rfl
end ZD
open Go Go.AM Go.Proofs Go.AM.Pl
set_option maxRecDepth 100000
set_option maxHeartbeats 4000000
namespace ZD
theorem fold_kb {b : List Int} : ∀ (ks : List Int) (x : Mtr × Int), (0 ≤ x.2 ∧ x.2 < 65536) → (0 ≤ (ks.foldl (stR b) x).2 ∧ (ks.foldl (stR b) x).2 < 65536)
  | [], _, h => h
  | k :: r, x, h => by
    simp only [List.foldl_cons]
    have h1 := orS_le (a := x.2) (b := stepK b x.1 k) 16
    exact fold_kb r _ (by simp only [stR]; simpa using h1)
theorem fold_mb {b : List Int} (ks : List Int) (hl : ks.length ≤ 40320) : MB (ks.foldl (stR b) (mz, 0)).1 ∧ (ks.foldl (stR b) (mz, 0)).1.now = ks.length := by
  have h1 := fold_MB (b := b) ks (mz, 0) MB_mz (by simp [mz]; omega)
  have h2 := (fold_eq (b := b) ks mz 0 0 (by omega) (by omega) Iff.rfl).1
  rw [h2] at h1
  exact ⟨h1.1, by rw [h1.2]; simp [mz]⟩
theorem s181 {lo : Nat} {h : H} : den cx lo 181 [mz.v] h = some (.b true, h) := by
  refine den_pure (fn := Tryz.f181) (by rfl) (by rfl) (by rfl) (by rfl) (by simp [Tryz.f181]) (by simp) ?_
  simp only [Mtr.v, Mtr.cs, mz]
  simp (maxSteps := 2000000) (disch := first | omega | (simp; done) | (simp; omega) | assumption) [Tryz.f181, argsE, isC, boxV, boxO, fresh_no, List.filter_cons, setB, aggN, op_build, List.set, elemsV]
  obtain ⟨I, hI⟩ : ∃ I : Nat → List Ent → List (Nat × List V) → H → Prop, I = (fun n' vs lb g => ∃ j : Nat, n' + j = 10 ∧ (True) ∧ vs = [.v (.i (j : Int))] ∧ lb = [(1, [.i 0, .i 0, .b false, .i 0, .i 0, .i 0, .i 0, .b false, .i 0, .i 0, .b false, .i 0, .i 0, .i 0])] ∧ g = h) := ⟨_, rfl⟩
  refine Wp.loopQ I (n := 10) (by rw [hI]; exact ⟨0, by simp, trivial, by simp, by simp, by simp⟩) ?_
  intro n' vs lb g hi Q hQ; rw [hI] at hi; obtain ⟨j, hj, ha, rfl, rfl, rfl⟩ := hi
  have go : j < 10 → (True) → I (n' - 1) [.v (.i ((j : Int) + 1))] [(1, [.i 0, .i 0, .b false, .i 0, .i 0, .i 0, .i 0, .b false, .i 0, .i 0, .b false, .i 0, .i 0, .i 0])] g := fun hlt q => by rw [hI]; exact ⟨j + 1, by omega, q, by simp, by simp, rfl⟩
  clear hI
  by_cases hlt : j < 10
  · have go := go hlt trivial
    have hlt' : (j : Int) < 10 := by omega
    have hg : ∀ (hj : j < 10), ([V.s (.int .i64 0), V.s (.int .i64 0), V.s (.int .i64 0), V.s (.int .i64 0), V.s (.int .i64 0), V.s (.int .i64 0), V.s (.int .i64 0), V.s (.int .i64 0), V.s (.int .i64 0), V.s (.int .i64 0)] : List V)[j]'hj = .i 0 := by
      intro hj
      have : ([V.s (.int .i64 0), V.s (.int .i64 0), V.s (.int .i64 0), V.s (.int .i64 0), V.s (.int .i64 0), V.s (.int .i64 0), V.s (.int .i64 0), V.s (.int .i64 0), V.s (.int .i64 0), V.s (.int .i64 0)] : List V) = List.replicate 10 (.i 0) := rfl
      simp only [this, List.getElem_replicate]
    simp (maxSteps := 2000000) (disch := first | omega | (simp; done) | (simp; omega) | assumption) [isC, boxV, boxO, fresh_no, List.filter_cons, setB, aggN, op_build, List.set, hlt, hlt', wrap64, mz, Mtr.cs, foot, Op.operands, opTmps, hg]
    exact ⟨indep_of bf181_7 (by rfl), n' - 1, by omega, go⟩
  · have hlt' : ¬ ((j : Int) < 10) := by omega
    clear go
    simp (maxSteps := 2000000) (disch := first | omega | (simp; done) | (simp; omega) | assumption) [hlt', mz, Mtr.cs]
    refine hQ _ _ ?_
    simp (maxSteps := 2000000) (disch := first | omega | (simp; done) | (simp; omega) | assumption) []
theorem s157 {lo : Nat} {b ks : List Int} {h : H} (hb : b.length = 19) (ho : okB b = true) (hk : ∀ k ∈ ks, 0 ≤ k ∧ k < 4) (hl : ks.length ≤ 40320) : den cx lo 157 [bkv b, mz.v, AM.vs .dead 1 (ints ks)] h = some (.tup [(ks.foldl (stR b) (mz, 0)).1.v, .i (ks.foldl (stR b) (mz, 0)).2, .i 0], h) := by
  have e117 := fun lo => s117 (lo := lo) (h := h) hb
  simp only [ho] at e117
  have e181 := fun lo => s181 (lo := lo) (h := h)
  have e182 := fun (m : Mtr) kind (hM : MB m) (hn : m.now < 40320) (hk : 0 ≤ kind ∧ kind < 4) lo => s182 (lo := lo) (h := h) hb ho hM hn hk
  obtain ⟨B, hBv, n19, t19, f19, _⟩ := bks hb
  obtain ⟨R, hR⟩ : ∃ R, ks.foldl (stR b) (mz, 0) = R := ⟨_, rfl⟩
  refine den_pure (fn := Tryz.f157) (by rfl) (by rfl) (by rfl) (by rfl) (by simp [Tryz.f157]) (by simp) ?_
  rw [hBv] at e117 ⊢
  simp only [hBv] at e182
  rw [hR]
  simp only [Mtr.v, Mtr.cs, mz] at e181 ⊢
  simp (maxSteps := 2000000) (disch := first | omega | (simp; done) | (simp; omega) | assumption) [Tryz.f157, argsE, isC, boxV, boxO, fresh_no, List.filter_cons, setB, aggN, op_build, List.set, n19, t19, f19, e117, e181]
  obtain ⟨I, hI⟩ : ∃ I : Nat → List Ent → List (Nat × List V) → H → Prop, I = (fun n vs lb g => ∃ (j : Nat) (m : Mtr) (k : Int), n + j = ks.length ∧ (ks.take j).foldl (stR b) (mz, 0) = (m, k) ∧ vs = [.v (.i j), .v (.i k)] ∧ lb = [(6, mz.cs), (4, m.cs), (3, B)] ∧ g = h) := ⟨_, rfl⟩
  refine Wp.loopQ I (n := ks.length) (by rw [hI]; exact ⟨0, mz, 0, by simp, by simp, by simp, by simp [mz, Mtr.cs], by simp⟩) ?_
  intro n vs lb g hi Q hQ; rw [hI] at hi; obtain ⟨j, m, k, hj, hf, rfl, rfl, rfl⟩ := hi
  by_cases hlt : j < ks.length
  · have hks : (ks.take j).length = j := by simp; omega
    have hmb := fold_mb (b := b) (ks.take j) (by omega)
    have hkb := fold_kb (b := b) (ks.take j) (mz, 0) (by omega)
    rw [hf] at hmb hkb
    obtain ⟨x, hx⟩ : ∃ x, ks[j] = x := ⟨_, rfl⟩
    have hxk : 0 ≤ x ∧ x < 4 := by rw [← hx]; exact hk _ (List.getElem_mem hlt)
    have go : I (n - 1) [.v (.i ((j : Int) + 1)), .v (.i (orS k (stepK b m x) 16))] [(6, mz.cs), (4, (minM b m x).cs), (3, B)] g := by
      rw [hI]; exact ⟨j + 1, minM b m x, orS k (stepK b m x) 16, by omega, by rw [List.take_succ_eq_append_getElem hlt, List.foldl_append, hf, hx]; rfl, by simp, rfl, rfl⟩
    clear hI hQ hR
    have hnow : m.now < 40320 := by rw [hmb.2]; omega
    have e182 := e182 m x hmb.1 hnow hxk
    have e183 := fun lo => s183 (lo := lo) (a := k) (b := stepK b m x) (h := g) hkb (min_step (b := b) (m := m) (kind := x) (k := 0) (by omega)).2.1
    obtain ⟨m', hm'⟩ : ∃ m', minM b m x = m' := ⟨_, rfl⟩
    obtain ⟨S, hS⟩ : ∃ S, stepK b m x = S := ⟨_, rfl⟩
    rw [hm', hS] at e182
    rw [hS] at e183 go
    rw [hm'] at go
    simp only [Mtr.v, Mtr.cs, mz] at e182 go ⊢
    have n1 : ¬ x < 0 := by omega
    have n2 : ¬ 3 < x := by omega
    have n3 : ¬ m.now = 40320 := by omega
    simp (maxSteps := 2000000) (disch := first | omega | (simp; done) | (simp; omega) | assumption) [isC, boxV, boxO, fresh_no, List.filter_cons, setB, aggN, op_build, List.set, hlt, n19, t19, f19, ints, hx, n1, n2, n3, wrap64, e182, e183, foot, Op.operands, opTmps]
    exact ⟨indep_of bf157_13 (by rfl), n - 1, by omega, go⟩
  · rw [List.take_of_length_le (by omega), hR] at hf
    subst hf
    clear hI
    have hlt' : ¬ ((j : Int) < ks.length) := by omega
    simp (maxSteps := 2000000) (disch := first | omega | (simp; done) | (simp; omega) | assumption) [hlt, hlt']
    refine hQ _ _ ?_
    simp (maxSteps := 2000000) (disch := first | omega | (simp; done) | (simp; omega) | assumption) [boxV, boxO, fresh_no, List.filter_cons, setB, aggN, op_build, List.set, Cl1_tup, Cl1_agg, Cl1_vs, mz, Mtr.cs]
end ZD
open Go Go.AM Go.Proofs Go.AM.Pl
set_option maxRecDepth 100000
set_option maxHeartbeats 4000000
namespace ZD
theorem s121 {lo : Nat} {b : List Int} {l : List Rec} {h : H} (hb : b.length = 19) (ho : okB b = true) (hl : l.length ≤ 1000000) (hp : pastC l = 0) : den cx lo 121 [bkv b, AM.vs .dead 3 (recs l)] h = some (.tup [(ofR b l).1.v, .i (ofR b l).2, .i 0], h) := by
  have hr := pastC_recs hp
  have h0 := pastC_beg hp
  have hch := recsC_chn hr
  rw [h0] at hch
  have hlen := chn_len l 0 hch
  have hmm := chn_mem hch
  have hkk := chn_kinds l 0 hch
  have hkk2 : ∀ k ∈ kindsR l, 0 ≤ k ∧ k < 4 := by
    intro k hk
    unfold kindsR at hk
    obtain ⟨r, hr, hk⟩ := List.mem_flatMap.1 hk
    rw [List.eq_of_mem_replicate hk]; exact hkk r hr
  have e117 := fun lo => s117 (lo := lo) (h := h) hb
  simp only [ho] at e117
  have e146 := fun lo => s146g (lo := lo) (h := h) (l := l) (by omega)
  simp only [hr] at e146
  have e156 : ∀ lo, den cx lo 156 [AM.vs .dead 3 (recs l)] h = some (.i 0, h) := fun lo => by
    have := s156 (lo := lo) (h := h) (l := l) (by omega)
    cases l with
    | nil => exact this
    | cons r t => simp only [begR] at h0; rw [this]; simp only [h0]
  have e158 := fun lo => s158 (lo := lo) (h := h) (l := l) hl hmm
  have e157 := fun lo => s157 (lo := lo) (h := h) (ks := kindsR l) hb ho hkk2 (by omega)
  change ∀ lo, den cx lo 157 [bkv b, mz.v, AM.vs .dead 1 (ints (kindsR l))] h = some (.tup [(ofR b l).1.v, .i (ofR b l).2, .i 0], h) at e157
  obtain ⟨B, hBv, n19, t19, f19, _⟩ := bks hb
  obtain ⟨⟨m, k⟩, hR⟩ : ∃ R, ofR b l = R := ⟨_, rfl⟩
  rw [hR] at e157 ⊢
  simp only [Mtr.v, Mtr.cs, mz] at e157 ⊢
  refine den_pure (fn := Tryz.f121) (by rfl) (by rfl) (by rfl) (by rfl) (by simp [Tryz.f121]) (by simp) ?_
  rw [hBv] at e117 e157 ⊢
  simp (maxSteps := 2000000) (disch := first | omega | (simp; done) | (simp; omega) | assumption) [Tryz.f121, argsE, isC, boxV, boxO, fresh_no, List.filter_cons, setB, aggN, op_build, List.set, n19, t19, f19, e117, e146, e156, e158, e157, Cl1_tup, Cl1_agg, Cl1_vs, foot, Op.operands, opTmps]
  exact indep_of bf121_8 (by rfl)
def trkN (b : List Int) (j : Nat) (t : Trk) : Option (Int × Int) := if (ofR b t.past).2 = 0 then none else some (j, 16)
theorem trkN_eq {b : List Int} : trkN b = trkM b := by
  funext j t
  unfold trkN trkM
  have := (of_eq (b := b) (l := t.past)).2
  by_cases q : (ofR b t.past).2 = 0
  · rw [if_pos q, if_pos (this.2 q)]
  · rw [if_neg q, if_neg fun z => q (this.1 z)]
def bodyOf (f : Func) : Code := f.body.getD .skip
theorem s64b {d : Dep} {h : H} (hs : d.sm) : Wp cx 64 h.length 0 (bodyOf Tryz.f64) { env := argsE [d.v], lb := [], h := h } fun x s => (x = .normal ∨ x = .ret) ∧ Out1 cx Tryz.f64.results.toList h.length s = some (tup3 (depC d)) := by
  obtain ⟨hb, h1, h2, h3, h4, h5, h6⟩ := hs
  have e117 := fun lo => s117 (lo := lo) (h := h) hb
  have e118 := fun lo => s118 (lo := lo) (w := d.ways) (h := h) (by omega) (fun l hl => by have := h2 l hl; omega)
  have e119 := fun lo => s119 (lo := lo) (l := d.ords) (n := d.ways.length) (h := h) (by omega) (fun l hl => by have := h4 l hl; omega)
  have e120 := fun lo => s120 (lo := lo) (l := d.trks) (n := d.ways.length) (h := h) (by omega) (fun l hl => by have := h6 l hl; omega)
  obtain ⟨D, hDv, n22, n19, t22, t19, fD, d19, d20, d21⟩ := deps hb
  obtain ⟨B, hBv, _, _, f19, _⟩ := bks hb
  have e121 := fun (ho : okB d.bk = true) (q : (trksC d.trks d.ways.length).2 = 0) t ht lo => s121 (lo := lo) (b := d.bk) (l := Trk.past t) (h := h) hb ho (h6 t ht) (trksC_past q t ht)
  rw [hBv] at t19 e117
  simp only [hBv] at e121
  have t19' : D.take 19 = B := V.agg.inj t19
  unfold tup3 depC
  rw [← trkN_eq]
  unfold bodyOf
  rw [hDv]
  cases q1 : okB d.bk with
  | false =>
    simp only [q1] at e117
    simp (maxSteps := 2000000) (disch := first | omega | (simp; done) | (simp; omega) | assumption) [Tryz.f64, argsE, isC, boxV, boxO, fresh_no, List.filter_cons, setB, aggN, op_build, List.set, n22, n19, t22, t19', fD, f19, d19, d20, d21, e117, Cl1_tup, Cl1_agg, Cl1_vs]
  | true =>
    simp only [q1] at e117
    rw [if_neg (by simp)]
    unfold tup3 at e118
    by_cases q2 : (chkW d.ways).2.2 = 0
    case neg =>
      rw [if_pos q2]
      simp (maxSteps := 2000000) (disch := first | omega | (simp; done) | (simp; omega) | assumption) [Tryz.f64, argsE, isC, boxV, boxO, fresh_no, List.filter_cons, setB, aggN, op_build, List.set, n22, n19, t22, t19', fD, f19, d19, d20, d21, e117, e118, q2, Cl1_tup, Cl1_agg, Cl1_vs]
    rw [if_neg (by simpa using q2)]
    by_cases q3 : (ordsC d.ords d.ways.length).2 = 0
    case neg =>
      rw [if_pos q3]
      simp (maxSteps := 2000000) (disch := first | omega | (simp; done) | (simp; omega) | assumption) [Tryz.f64, argsE, isC, boxV, boxO, fresh_no, List.filter_cons, setB, aggN, op_build, List.set, n22, n19, t22, t19', fD, f19, d19, d20, d21, e117, e118, q2, e119, q3, Cl1_tup, Cl1_agg, Cl1_vs]
    rw [if_neg (by simpa using q3)]
    by_cases q4 : (trksC d.trks d.ways.length).2 = 0
    case neg =>
      rw [if_pos q4]
      simp (maxSteps := 2000000) (disch := first | omega | (simp; done) | (simp; omega) | assumption) [Tryz.f64, argsE, isC, boxV, boxO, fresh_no, List.filter_cons, setB, aggN, op_build, List.set, n22, n19, t22, t19', fD, f19, d19, d20, d21, e117, e118, q2, e119, q3, e120, q4, Cl1_tup, Cl1_agg, Cl1_vs]
    rw [if_neg (by simpa using q4)]
    have e121 := e121 q1 q4
    obtain ⟨b, w, os, l⟩ := d
    simp only at *
    obtain ⟨v, hv⟩ : ∃ v, scan (trkN b) 0 l = v := ⟨_, rfl⟩
    rw [hv]
    obtain ⟨R, hR⟩ : ∃ R, trkT v = R := ⟨_, rfl⟩
    rw [hR]
    simp (maxSteps := 2000000) (disch := first | omega | (simp; done) | (simp; omega) | assumption) [Tryz.f64, argsE, isC, boxV, boxO, fresh_no, List.filter_cons, setB, aggN, op_build, List.set, n22, n19, t22, t19', fD, f19, d19, d20, d21, e117, e118, q2, e119, q3, e120, q4, Cl1_tup, Cl1_agg, Cl1_vs]
    obtain ⟨I, hI⟩ : ∃ I : Nat → List Ent → List (Nat × List V) → H → Prop, I = (fun n' vs lb g => ∃ j : Nat, n' + j = l.length ∧ (scan (trkN b) j (l.drop j) = v) ∧ vs = [.v (.i (j : Int))] ∧ lb = [(1, D)] ∧ g = h) := ⟨_, rfl⟩
    refine Wp.loopQ I (n := l.length) (by rw [hI]; exact ⟨0, by simp, hv, by simp, by simp, by simp⟩) ?_
    intro n' vs lb g hi Q hQ; rw [hI] at hi; obtain ⟨j, hj, ha, rfl, rfl, rfl⟩ := hi
    have go : j < l.length → (scan (trkN b) (j + 1) (l.drop (j + 1)) = v) → I (n' - 1) [.v (.i ((j : Int) + 1))] [(1, D)] g := fun hlt q => by rw [hI]; exact ⟨j + 1, by omega, q, by simp, by simp, rfl⟩
    clear hI
    by_cases hlt : j < l.length
    · have go := go hlt
      have e121 := e121 _ (List.getElem_mem hlt)
      obtain ⟨x, hx⟩ : ∃ x, l[j] = x := ⟨_, rfl⟩
      rw [hx] at e121
      obtain ⟨a1, a2, a3, a4, a5, rs⟩ := x
      simp only at e121
      obtain ⟨⟨m, k⟩, hO⟩ : ∃ O, ofR b rs = O := ⟨_, rfl⟩
      rw [hO] at e121
      simp only [Mtr.v, Mtr.cs] at e121
      by_cases q : k = 0
      · have go := go (scan_go (f := trkN b) hlt (by rw [hx]; simp [trkN, hO, q]) ha)
        subst q
        clear ha hR hQ
        simp (maxSteps := 2000000) (disch := first | omega | (simp; done) | (simp; omega) | assumption) [isC, boxV, boxO, fresh_no, List.filter_cons, setB, aggN, op_build, List.set, hlt, n22, n19, t22, t19', d19, d20, d21, f19, trksV, hx, Trk.v, e121, wrap64, foot, Op.operands, opTmps]
        exact ⟨indep_of bf64_15 (by rfl), n' - 1, by omega, go⟩
      · have e0 := scan_hit (f := trkN b) (e := (j, 16)) hlt (by rw [hx]; simp [trkN, hO, q]) ha
        subst e0
        simp only [trkT] at hR
        subst hR
        clear ha go
        simp (maxSteps := 2000000) (disch := first | omega | (simp; done) | (simp; omega) | assumption) [isC, boxV, boxO, fresh_no, List.filter_cons, setB, aggN, op_build, List.set, hlt, n22, n19, t22, t19', d19, d20, d21, f19, trksV, hx, Trk.v, e121, wrap64, foot, Op.operands, opTmps, q]
        refine ⟨indep_of bf64_15 (by rfl), hQ _ _ ?_⟩
        simp (maxSteps := 2000000) (disch := first | omega | (simp; done) | (simp; omega) | assumption) [Cl1_tup, Cl1_agg, Cl1_vs]
    · have e0 := scan_end (by omega) ha
      subst e0
      simp only [trkT] at hR
      subst hR
      clear go ha
      have hlt' : ¬ ((j : Int) < l.length) := by omega
      simp (maxSteps := 2000000) (disch := first | omega | (simp; done) | (simp; omega) | assumption) [hlt, hlt', d21, boxV, boxO, fresh_no, List.filter_cons, setB, aggN, op_build, List.set]
      refine hQ _ _ ?_
      simp (maxSteps := 2000000) (disch := first | omega | (simp; done) | (simp; omega) | assumption) [Cl1_tup, Cl1_agg, Cl1_vs]
/-- The document's check, of whatever stands for a depot. -/
theorem s64z {lo : Nat} {d : Dep} {h : H} {args az : List V} (hs : d.sm) (h1 : sealL (sealV h 0 sealDepth) (fgL args) = some az) (h2 : fgL az = [d.v]) : den cx lo 64 args h = some (tup3 (depC d), h) := by
  refine den_pureZ (fn := Tryz.f64) (code := bodyOf Tryz.f64) h1 (by rfl) (by rfl) (by rfl) (by rfl) (by rfl) ?_ (fun h' => ?_) (by rfl)
  · have := congrArg List.length h2
    rw [fgL_len] at this
    rw [this]; simp [Tryz.f64]
  · rw [h2]; exact s64b hs
end ZD

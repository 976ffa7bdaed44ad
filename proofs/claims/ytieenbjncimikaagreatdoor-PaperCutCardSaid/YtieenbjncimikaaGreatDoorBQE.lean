/- What the program's Parse tells. No condition. -/
import Derived.Test.YtieenbjncimikaaGreatDoorBQD
set_option linter.all false
open Go Go.AM Go.Proofs Go.AM.Pl
set_option maxRecDepth 100000
set_option maxHeartbeats 4000000
namespace ZD
/-- A depot's parts of no size. -/
structure Dsz (d : Dep) : Prop where
  w : ∀ l ∈ d.ways, l.length ≤ 1000000
  o : ∀ o ∈ d.ords, o.os.length ≤ 1000000
  t : ∀ t ∈ d.trks, t.past.length ≤ 1000000
theorem wrds_len (l : Ln) : (wrds l).length ≤ l.length + 1 := by rw [wrds_eq]; simpa using wdsR_len l
theorem rowX_len {x : Rdr} {f : Ln} {n : Int} (z : Rsz x) : (rowX x f n).1.length ≤ 1000000 := by
  unfold rowX
  split
  · split
    · rename_i h q
      rw [allR_len q]
      unfold lineX
      have := wrds_len x.cur
      have := cur_small z
      split
      · split
        · split
          · simp; omega
          · simp
        · simp
      · simp
    · simp
  · simp
theorem rowX_same {x : Rdr} {f : Ln} {n : Int} : (rowX x f n).2.d = x.d ∧ (rowX x f n).2.truck = x.truck ∧ (rowX x f n).2.ls = x.ls ∧ (rowX x f n).2.fr = x.fr := by
  rw [rowE_eq]; exact ⟨rfl, rfl, rfl, rfl⟩
theorem waysGo_sz {n : Int} (hn : 0 ≤ n) : ∀ (k : Nat) (x : Rdr), Rsz x → Dsz x.d → Rsz (waysGo n k x) ∧ Dsz (waysGo n k x).d ∧ (waysGo n k x).d.ways.length = x.d.ways.length + k ∧ (waysGo n k x).d.ords = x.d.ords ∧ (waysGo n k x).d.trks = x.d.trks ∧ (waysGo n k x).truck = x.truck ∧ (waysGo n k x).ls = x.ls
  | 0, x, z, d => ⟨z, d, rfl, rfl, rfl, rfl, rfl⟩
  | k + 1, x, z, d => by
    unfold waysGo
    obtain ⟨z1, _, _, _, _⟩ := rowX_sz (f := rowW) (n := n) hn z
    have hl := rowX_len (f := rowW) (n := n) z
    obtain ⟨s1, s2, s3, s4⟩ := rowX_same (x := x) (f := rowW) (n := n)
    have := waysGo_sz hn k { (rowX x rowW n).2 with d := { x.d with ways := x.d.ways ++ [(rowX x rowW n).1] } } ⟨z1.tx, z1.i, z.bk⟩ ⟨fun l hl' => by
      simp only [List.mem_append, List.mem_singleton] at hl'
      rcases hl' with h | rfl
      · exact d.w l h
      · exact hl, d.o, d.t⟩
    obtain ⟨a1, a2, a3, a4, a5, a6, a7⟩ := this
    refine ⟨a1, a2, ?_, a4, a5, ?_, ?_⟩
    · rw [a3]; simp; omega
    · rw [a6]; exact s2
    · rw [a7]; exact s3
theorem spansR_len : ∀ (w : List Ln) (os : List Spn), (spansR w os).1.length ≤ os.length + w.length
  | [], os => by simp [spansR]
  | w :: r, os => by
    simp only [spansR]
    split
    · have := spansR_len r (os ++ [⟨(spanR w).1, (spanR w).2.1⟩])
      simp at this ⊢; omega
    · simp
theorem ordR_len (w : List Ln) : (OrdR.o (ordR w)).os.length ≤ w.length := by
  unfold ordR
  split
  · rename_i w0 w1 w2 w3 w4 r
    split
    · unfold ord5
      have := spansR_len r []
      simp only [List.length_nil, Nat.zero_add] at this
      repeat' split
      all_goals first | (simp [OrdR.o, zer]; done) | (simp only [OrdR.o, List.length_cons]; omega)
    · simp [OrdR.o, zer]
  · simp [OrdR.o, zer]
theorem next_lt {x : Rdr} {f : Ln} (hf : f ≠ []) (h : nextX x = f) : x.i < x.ls.length := (nextX_some hf h).2.1
theorem ordsGo_sz : ∀ (k : Nat) (x : Rdr), Rsz x → Dsz x.d → Rsz (ordsGo k x) ∧ Dsz (ordsGo k x).d ∧ (ordsGo k x).d.ords.length ≤ x.d.ords.length + k ∧ (ordsGo k x).d.ways = x.d.ways ∧ (ordsGo k x).d.trks = x.d.trks ∧ (ordsGo k x).truck = x.truck ∧ (ordsGo k x).ls = x.ls
  | 0, x, z, d => ⟨z, d, by simp [ordsGo], rfl, rfl, rfl, rfl⟩
  | k + 1, x, z, d => by
    unfold ordsGo
    split
    · rename_i q
      have hlt := next_lt (by decide) q
      have hz := z.i
      split
      · have hl := ordR_len (wrds x.cur)
        have h2 := wrds_len x.cur
        have h3 := cur_small z
        obtain ⟨a1, a2, a3, a4, a5, a6, a7⟩ := ordsGo_sz k { x with d := { x.d with ords := x.d.ords ++ [OrdR.o (ordR (wrds x.cur))] }, i := x.i + 1 } ⟨z.tx, by simp only; omega, z.bk⟩ ⟨d.w, fun o ho => by
          simp only [List.mem_append, List.mem_singleton] at ho
          rcases ho with h | rfl
          · exact d.o o h
          · omega, d.t⟩
        exact ⟨a1, a2, Nat.le_trans a3 (by simp; omega), a4, a5, a6, a7⟩
      · exact ⟨⟨z.tx, z.i, z.bk⟩, d, by simp, rfl, rfl, rfl, rfl⟩
    · exact ⟨z, d, by omega, rfl, rfl, rfl, rfl⟩
theorem pastGo_sz : ∀ (k : Nat) (acc : List Rec) (x : Rdr), Rsz x → Rsz (pastGo k acc x).2 ∧ (pastGo k acc x).1.length ≤ acc.length + k ∧ (pastGo k acc x).2.d = x.d ∧ (pastGo k acc x).2.truck = x.truck ∧ (pastGo k acc x).2.ls = x.ls
  | 0, acc, x, z => ⟨z, by simp [pastGo], rfl, rfl, rfl⟩
  | k + 1, acc, x, z => by
    unfold pastGo
    split
    · rename_i q
      have hlt := next_lt (by decide) q
      have hz := z.i
      split
      · obtain ⟨a1, a2, a3, a4, a5⟩ := pastGo_sz k (acc ++ [(recW3 (wrds x.cur)).1]) { x with i := x.i + 1 } ⟨z.tx, by simp only; omega, z.bk⟩
        exact ⟨a1, by simp at a2; omega, a3, a4, a5⟩
      · exact ⟨⟨z.tx, z.i, z.bk⟩, by simp, rfl, rfl, rfl⟩
    · exact ⟨z, by simp, rfl, rfl, rfl⟩
theorem left_le {x : Rdr} (z : Rsz x) : x.left ≤ 900000 := by unfold Rdr.left; have := z.tx.2; omega
theorem trksGo_sz : ∀ (k : Nat) (x : Rdr), Rsz x → Dsz x.d → Rsz (trksGo k x) ∧ Dsz (trksGo k x).d ∧ (trksGo k x).d.trks.length ≤ x.d.trks.length + k ∧ (trksGo k x).d.ways = x.d.ways ∧ (trksGo k x).d.ords = x.d.ords
  | 0, x, z, d => ⟨z, d, by simp [trksGo], rfl, rfl⟩
  | k + 1, x, z, d => by
    unfold trksGo
    split
    · simp only
      have z0 : Rsz { x with truck := x.truck ++ [x.i] } := ⟨z.tx, z.i, z.bk⟩
      obtain ⟨z1, hd1, _, _, _⟩ := rowX_sz (f := truckW) (n := 5) (by decide) z0
      have hd1 : (rowX { x with truck := x.truck ++ [x.i] } truckW 5).2.d = x.d := hd1
      obtain ⟨⟨l, y⟩, hL⟩ : ∃ L, rowX { x with truck := x.truck ++ [x.i] } truckW 5 = L := ⟨_, rfl⟩
      rw [hL] at z1 hd1 ⊢
      simp only at z1 hd1 ⊢
      split
      · obtain ⟨b1, b2, b3, b4, b5⟩ := pastGo_sz y.left [] y z1
        have hle := left_le z1
        obtain ⟨⟨acc, w⟩, hP⟩ : ∃ P, pastGo y.left [] y = P := ⟨_, rfl⟩
        rw [hP] at b1 b2 b3 ⊢
        simp only [List.length_nil, Nat.zero_add] at b1 b2 b3 ⊢
        rw [hd1] at b3
        split
        · obtain ⟨a1, a2, a3, a4, a5⟩ := trksGo_sz k { w with d := { w.d with trks := w.d.trks ++ [{ trkOf l with past := acc }] } } ⟨b1.tx, b1.i, b1.bk⟩ ⟨by rw [b3]; exact d.w, by rw [b3]; exact d.o, fun t ht => by
            simp only [List.mem_append, List.mem_singleton] at ht
            rcases ht with h | rfl
            · rw [b3] at h; exact d.t t h
            · simp only; omega⟩
          have hwl : w.d.trks.length = x.d.trks.length := by rw [b3]
          refine ⟨a1, a2, Nat.le_trans a3 (by simp; omega), by rw [a4]; simp only [b3], by rw [a5]; simp only [b3]⟩
        · exact ⟨b1, by rw [b3]; exact d, by rw [b3]; omega, by rw [b3], by rw [b3]⟩
      · exact ⟨z1, by rw [hd1]; exact d, by rw [hd1]; omega, by rw [hd1], by rw [hd1]⟩
    · exact ⟨z, d, by omega, rfl, rfl⟩
end ZD
open Go Go.AM Go.Proofs Go.AM.Pl
set_option maxRecDepth 100000
set_option maxHeartbeats 4000000
namespace ZD
def phS : Nat → Rdr → Rdr
  | 0 => headX
  | 1 => rulesX
  | 2 => waysX
  | 3 => ordersX
  | 4 => trucksX
  | 5 => endX
  | _ => checkX
def ph (ls : List Ln) : Nat → Rdr
  | 0 => rdr0 ls
  | n + 1 => phS n (ph ls n)
theorem headX_sz {x : Rdr} (z : Rsz x) : Rsz (headX x) ∧ (headX x).d = x.d ∧ (headX x).truck = x.truck := by
  have hz := z.i
  unfold headX
  split
  · rename_i q
    rw [lineW_eq] at q
    have := lineW_ok q
    split
    · exact ⟨⟨z.tx, by simp only; omega, z.bk⟩, rfl, rfl⟩
    · exact ⟨⟨z.tx, z.i, z.bk⟩, rfl, rfl⟩
  · exact ⟨⟨z.tx, z.i, z.bk⟩, rfl, rfl⟩
theorem rulesX_sz {x : Rdr} (z : Rsz x) : Rsz (rulesX x) ∧ (rulesX x).d.ways = x.d.ways ∧ (rulesX x).d.ords = x.d.ords ∧ (rulesX x).d.trks = x.d.trks ∧ (rulesX x).truck = x.truck := by
  have z0 : Rsz { x with book := x.i } := ⟨z.tx, z.i, z.bk⟩
  obtain ⟨z1, z2, z3, _, _⟩ := rowX_sz (f := bookW) (n := 19) (by decide) z0
  unfold rulesX
  simp only
  split
  · rename_i q
    rw [rowE_eq] at q ⊢
    have := rowE_ok (by decide) q
    refine ⟨⟨z.tx, by rw [rowE_eq] at z1; exact z1.i, ?_⟩, rfl, rfl, rfl, rfl⟩
    simp only
    have h2 := this.2.2
    simp only at h2
    omega
  · exact ⟨z1, by rw [z2], by rw [z2], by rw [z2], z3⟩
theorem waysX_sz {x : Rdr} (z : Rsz x) (d : Dsz x.d) (hw : x.d.ways = []) : Rsz (waysX x) ∧ Dsz (waysX x).d ∧ (waysX x).d.ways.length ≤ 200 ∧ (waysX x).d.ords = x.d.ords ∧ (waysX x).d.trks = x.d.trks ∧ (waysX x).truck = x.truck := by
  obtain ⟨z1, z2, z3, _, _⟩ := rowX_sz (f := placesW) (n := 1) (by decide) z
  have d1 : Dsz (rowX x placesW 1).2.d := by rw [z2]; exact d
  unfold waysX
  split
  · split
    · exact ⟨⟨z1.tx, by have := rowX_same (x := x) (f := placesW) (n := 1); simp only; rw [this.2.2.1]; exact z.i, z1.bk⟩, d1, by simp only; rw [z2, hw]; simp, by simp only; rw [z2], by simp only; rw [z2], z3⟩
    · rename_i q
      obtain ⟨n, hn⟩ : ∃ n, (rowX x placesW 1).1.getD 0 0 = n := ⟨_, rfl⟩
      rw [hn] at q ⊢
      obtain ⟨a1, a2, a3, a4, a5, a6, a7⟩ := waysGo_sz (n := n) (by omega) n.toNat { (rowX x placesW 1).2 with rows := x.i + 1 } ⟨z1.tx, z1.i, z1.bk⟩ d1
      refine ⟨a1, a2, ?_, by rw [a4]; simp only; rw [z2], by rw [a5]; simp only; rw [z2], by rw [a6]; exact z3⟩
      rw [a3]; simp only; rw [z2, hw]; simp; omega
  · exact ⟨z1, d1, by rw [z2, hw]; simp, by rw [z2], by rw [z2], z3⟩
theorem endX_sz {x : Rdr} (z : Rsz x) : Rsz (endX x) ∧ (endX x).d = x.d ∧ (endX x).truck = x.truck := by
  have hz := z.i
  unfold endX
  split
  · rename_i q
    rw [lineW_eq] at q
    have := lineW_ok q
    split
    · exact ⟨⟨z.tx, by simp only; omega, z.bk⟩, rfl, rfl⟩
    · exact ⟨⟨z.tx, by simp only; omega, z.bk⟩, rfl, rfl⟩
  · exact ⟨⟨z.tx, z.i, z.bk⟩, rfl, rfl⟩
section
variable {ls : List Ln}
theorem ph0 (h : Tx ls) : Rsz (ph ls 0) ∧ (ph ls 0).d = dep0 ∧ (ph ls 0).truck = [] := ⟨⟨h, ⟨by simp [ph, rdr0], by simp [ph, rdr0]⟩, rfl⟩, rfl, rfl⟩
theorem ph1 (h : Tx ls) : Rsz (ph ls 1) ∧ (ph ls 1).d = dep0 ∧ (ph ls 1).truck = [] := by
  obtain ⟨a, b, c⟩ := ph0 h
  obtain ⟨d, e, f⟩ := headX_sz a
  exact ⟨d, by rw [← b]; exact e, by rw [← c]; exact f⟩
theorem ph2 (h : Tx ls) : Rsz (ph ls 2) ∧ (ph ls 2).d.ways = [] ∧ (ph ls 2).d.ords = [] ∧ (ph ls 2).d.trks = [] ∧ (ph ls 2).truck = [] := by
  obtain ⟨a, b, c⟩ := ph1 h
  obtain ⟨d, e, f, g, i⟩ := rulesX_sz a
  rw [b] at e f g
  exact ⟨d, e, f, g, by rw [← c]; exact i⟩
theorem ph3 (h : Tx ls) : Rsz (ph ls 3) ∧ Dsz (ph ls 3).d ∧ (ph ls 3).d.ways.length ≤ 200 ∧ (ph ls 3).d.ords = [] ∧ (ph ls 3).d.trks = [] ∧ (ph ls 3).truck = [] := by
  obtain ⟨a, b, c, d, e⟩ := ph2 h
  have hd : Dsz (ph ls 2).d := ⟨by rw [b]; simp, by rw [c]; simp, by rw [d]; simp⟩
  obtain ⟨f, g, i, j, k, l⟩ := waysX_sz a hd b
  exact ⟨f, g, i, by rw [← c]; exact j, by rw [← d]; exact k, by rw [← e]; exact l⟩
theorem ph4 (h : Tx ls) : Rsz (ph ls 4) ∧ Dsz (ph ls 4).d ∧ (ph ls 4).d.ways.length ≤ 200 ∧ (ph ls 4).d.ords.length ≤ 900000 ∧ (ph ls 4).d.trks = [] ∧ (ph ls 4).truck = [] := by
  obtain ⟨a, b, c, d, e, f⟩ := ph3 h
  have hle := left_le a
  obtain ⟨g, i, j, k, l, m, n⟩ := ordsGo_sz (ph ls 3).left { ph ls 3 with fr := (ph ls 3).i } ⟨a.tx, a.i, a.bk⟩ b
  simp only [d, List.length_nil] at j
  refine ⟨g, i, ?_, ?_, ?_, ?_⟩
  · show (ordsGo _ _).d.ways.length ≤ 200
    rw [k]; exact c
  · exact Nat.le_trans j (by omega)
  · show (ordsGo _ _).d.trks = []
    rw [l]; exact e
  · show (ordsGo _ _).truck = []
    rw [m]; exact f
theorem ph5 (h : Tx ls) : Rsz (ph ls 5) ∧ (ph ls 5).d.sm := by
  obtain ⟨a, b, c, d, e, f⟩ := ph4 h
  have hle := left_le a
  obtain ⟨g, i, j, k, l⟩ := trksGo_sz (ph ls 4).left (ph ls 4) a b
  simp only [e, List.length_nil] at j
  refine ⟨g, ?_⟩
  show (trksGo _ _).d.sm
  have i' : Dsz (trksGo (ph ls 4).left (ph ls 4)).d := i
  have g' : Rsz (trksGo (ph ls 4).left (ph ls 4)) := g
  refine ⟨g'.bk, by rw [k]; omega, i'.w, by rw [l]; omega, i'.o, Nat.le_trans j (by omega), i'.t⟩
theorem ph6 (h : Tx ls) : Rsz (ph ls 6) ∧ (ph ls 6).d.sm := by
  obtain ⟨a, b⟩ := ph5 h
  obtain ⟨c, d, e⟩ := endX_sz a
  exact ⟨c, by show (endX _).d.sm; rw [d]; exact b⟩
theorem ph6e (h : Tx ls) (he : (ph ls 6).e = 0) : 0 < (ph ls 6).d.ways.length ∧ (ph ls 6).truck.length = (ph ls 6).d.trks.length ∧ -1000000 ≤ (ph ls 6).rows ∧ (ph ls 6).rows ≤ 1000000 ∧ -1000000 ≤ (ph ls 6).fr ∧ (ph ls 6).fr ≤ 1000000 := by
  have hok := end_ok (trucks_ok (orders_ok (ways_ok (rules_ok (head_ok (ls := ls) (x := rdr0 ls) (R := runR rdg0 0 ls) (.inl ⟨rdg0, 0, ⟨⟨rfl, rfl, rfl, by omega⟩, rfl, ⟨0, rfl, by simp [rdg0, atL_zero], by omega⟩, ⟨0, rfl, rfl, fun k hk => by simp [rdg0, dep0] at hk, by simp [rdg0, dep0]⟩, ⟨0, rfl, rfl, fun k hk => by simp [rdg0, dep0] at hk, by simp [rdg0, dep0]⟩, ⟨[], rfl, rfl, by simp, rfl⟩⟩, by rw [atL_zero]; rfl, rfl, rfl⟩))))))
  have htx := h.2
  rcases hok with ⟨y, c, _, hw⟩ | b
  · have c : Cor ls (ph ls 6) y ls.length := c
    obtain ⟨b1, r1, r2, r3, r4⟩ := c.rw
    obtain ⟨b2, o1, o2, o3, o4⟩ := c.od
    obtain ⟨T, q1, q2, q3, q4⟩ := c.tr
    rw [c.d, r1, o1, q1]
    exact ⟨hw, by simpa using q4, by omega, by omega, by omega, by omega⟩
  · exact absurd he b.e
theorem stepF (h : Tx ls) {lo p : Nat} {A : V} {g : H} (hl : lo ≤ p) (hlg : lo ≤ g.length) : ∀ j, j < 7 → RdS lo g p A (ph ls j) → ∃ g', den cx lo (68 + j) [.ptr p 0] g = some (.tup [], g') ∧ RdS lo g' p A (ph ls (j + 1)) ∧ g.length ≤ g'.length
  | 0, _, s => s68 (ph0 h).1 hl s
  | 1, _, s => s69 (ph1 h).1 hl s
  | 2, _, s => s70 (ph2 h).1 hl hlg (by rw [(ph2 h).2.1]; simp) s
  | 3, _, s => s71 (ph3 h).1 hl hlg (by rw [(ph3 h).2.2.2.1]; exact (ph3 h).1.i.1) s
  | 4, _, s => s72 (ph4 h).1 hl hlg (by rw [(ph4 h).2.2.2.2.1, (ph4 h).2.2.2.2.2]; exact ⟨(ph4 h).1.i.1, (ph4 h).1.i.1⟩) s
  | 5, _, s => s73 (ph5 h).1 hl s
  | 6, _, s => s74 (ph6 h).1 (ph6 h).2 (ph6e h) hl s
  | n + 7, hn, _ => by omega
end
end ZD
open Go Go.AM Go.Proofs Go.AM.Pl
set_option maxRecDepth 100000
set_option maxHeartbeats 4000000
namespace ZD
@[simp] theorem sh68 : shuts cx 68 = false := by rfl
@[simp] theorem sh69 : shuts cx 69 = false := by rfl
@[simp] theorem sh70 : shuts cx 70 = false := by rfl
@[simp] theorem sh72 : shuts cx 72 = false := by rfl
@[simp] theorem sh73 : shuts cx 73 = false := by rfl
@[simp] theorem sh74 : shuts cx 74 = false := by rfl
theorem clo_of_fg : ∀ (k : Nat) (v : V), clo k (fg v) = true → clo k v = true
  | 0, _, h => by simp [clo] at h
  | k + 1, v, h => by
    have hl : ∀ l : List V, (fgL l).all (clo k) = true → l.all (clo k) = true := by
      intro l hl
      rw [List.all_eq_true] at hl ⊢
      intro x hx
      refine clo_of_fg k x (hl _ ?_)
      rw [fgL_map]; exact List.mem_map.2 ⟨x, hx, rfl⟩
    cases v with
    | s a => rfl
    | undef => rfl
    | agg cs => simp only [fg, clo] at h ⊢; exact hl _ h
    | tup cs => simp only [fg, clo] at h ⊢; exact hl _ h
    | ptr b o => simp [fg, clo] at h
    | vptr cs => simp only [fg, clo] at h ⊢; exact hl _ h
    | vsl t w l => simp only [fg, clo_vs] at h; simp only [clo_vsl]; exact hl _ h
    | msl b o n w => simp [fg, clo] at h
    | map r => simp [fg, clo] at h
    | fn f a b => simp only [fg, clo, Bool.and_eq_true] at h ⊢; exact ⟨hl _ h.1, hl _ h.2⟩
    | ifc t u => simp only [fg, clo] at h ⊢; exact clo_of_fg k u h
theorem depv_clo (d : Dep) : clo 11 d.v = true := by
  have a1 : ∀ k, (rowsV d.ways).all (clo (k + 2)) = true := fun k => by simp [rowsV, rowV, ints]
  have a2 : ∀ k, (ordsV d.ords).all (clo (k + 4)) = true := fun k => by simp [ordsV, Ord.v, Ord.cs, clo_spns (k + 0)]
  have a3 : ∀ k, (trksV d.trks).all (clo (k + 4)) = true := fun k => by simp [trksV, Trk.v, clo_recs (k + 0)]
  have h1 := a1 7
  have h2 := a2 5
  have h3 := a3 5
  rw [show 11 = 10 + 1 from rfl]
  simp only [Dep.v, Dep.cs, clo_agg, List.all_append, List.all_cons, List.all_nil, clo_ints 9, Bool.true_and, Bool.and_true]
  rw [show (10 : Nat) = 9 + 1 from rfl]
  simp only [clo_vs, h1, h2, h3, Bool.and_true]
/-- A depot that is handed back, with two numbers. -/
theorem Cl1_dep {h : H} {n : Nat} {D : List V} {d : Dep} {a b : Int} (hD : fgL D = d.cs) : Cl1 h n (.tup [.agg D, .i a, .i b]) = some (.tup [d.v, .i a, .i b]) := by
  have hf : fg (.agg D) = d.v := by simp only [fg, hD, Dep.v]
  have hc : clo 11 (.agg D) = true := clo_of_fg _ _ (by rw [hf]; exact depv_clo d)
  rw [Cl1_clo (by rw [show sealDepth = 11 + 1 from rfl, clo_tup]; simp [hc])]
  simp only [fg, fgL, hD, Dep.v]
def atsL (ls : List Ln) (j : Nat) : List Int := (List.range (j + 1)).map (atL ls)
theorem atsL_len {ls : List Ln} {j : Nat} : (atsL ls j).length = j + 1 := by simp [atsL]
theorem atsL_succ {ls : List Ln} {j : Nat} : atsL ls (j + 1) = atsL ls j ++ [atL ls (j + 1)] := by
  unfold atsL; rw [List.range_succ, List.map_append]; rfl
theorem atL_bound {ls : List Ln} (h : Tx ls) : ∀ j, j ≤ ls.length → 0 ≤ atL ls j ∧ atL ls j ≤ (j : Int) * 1000000
  | 0, _ => by simp [atL_zero]
  | j + 1, hj => by
    have h1 := atL_bound h j (by omega)
    have h2 := h.1 _ (List.getElem_mem (show j < ls.length by omega))
    rw [atL_succ (by omega)]
    constructor
    · omega
    · have : ((j + 1 : Nat) : Int) * 1000000 = (j : Int) * 1000000 + 1000000 := by omega
      omega
def z55 : List V := ints (List.replicate 19 0) ++ [AM.vs .nil 0 [], AM.vs .nil 0 [], AM.vs .nil 0 []]
theorem z55_fg : fgL z55 = dep0.cs := rfl
theorem z55_len : z55.length = 22 := rfl
theorem wr55 : AM.wr z55 0 z55 = some z55 := rfl
theorem tk55 : z55.take 22 = z55 := rfl
@[simp] theorem cells_fn {f : Fn} {a b : List V} : cellsOf (.fn f a b) = [.fn f a b] := rfl
@[simp] theorem okv_fn {f : Fn} {a b : List V} : okv (.fn f a b) = true := rfl
theorem newO119 {l : List V} : newO cx 119 l = .cells l := rfl
theorem sh_ph : ∀ (j : Nat), j < 7 → shuts cx (68 + j) = false
  | 0, _ => sh68
  | 1, _ => sh69
  | 2, _ => sh70
  | 3, _ => sh71
  | 4, _ => sh72
  | 5, _ => sh73
  | 6, _ => sh74
  | n + 7, hj => by exact absurd hj (by simp)
theorem fn_ph : ∀ (j : Nat) (_ : j < 7) (hh), ([V.fn (Fn.func 68) [] [], V.fn (Fn.func 69) [] [], V.fn (Fn.func 70) [] [], V.fn (Fn.func 71) [] [], V.fn (Fn.func 72) [] [], V.fn (Fn.func 73) [] [], V.fn (Fn.func 74) [] []][j]'hh) = V.fn (Fn.func (68 + j)) [] []
  | 0, _, _ => rfl
  | 1, _, _ => rfl
  | 2, _, _ => rfl
  | 3, _, _ => rfl
  | 4, _, _ => rfl
  | 5, _, _ => rfl
  | 6, _, _ => rfl
  | n + 7, hj, hh => by exact absurd hj (by simp)
theorem wr_all {cs D : List V} {n : Nat} (h1 : cs.length = n) (h2 : D.length = n) (h3 : 2 ≤ n) : AM.wr cs 0 D = some D := by
  unfold AM.wr
  rw [if_pos (by omega)]
  split
  · simp at h2; omega
  · simp; omega
def parV (l : List UInt8) : V := .tup [(parR l).1.v, .i (parR l).2.1, .i (parR l).2.2]
theorem s24 {lo : Nat} {l : List UInt8} {h : H} (hl : l.length < 4294967281) (htx : ∀ ls, lin [] l = some ls → Tx ls) : den cx lo 24 [.t l] h = some (parV l, h) := by
  have e67 := fun lo g => s67 (lo := lo) (h := g) hl
  have hz : (.agg z55 : V) = .agg [V.i 0, V.i 0, V.i 0, V.i 0, V.i 0, V.i 0, V.i 0, V.i 0, V.i 0, V.i 0, V.i 0, V.i 0, V.i 0, V.i 0, V.i 0, V.i 0, V.i 0, V.i 0, V.i 0, AM.vs .nil 0 [], AM.vs .nil 0 [], AM.vs .nil 0 []] := rfl
  have zo : zeroOf cx.P 55 = some (.agg z55) := by rw [hz]; exact zo55
  have bz : buildV cx 55 [] = some (.agg z55) := by rw [hz]; simp [fillV]
  have cz := fun h n a b => Cl1_dep (h := h) (n := n) (D := z55) (d := dep0) (a := a) (b := b) z55_fg
  unfold parV parR
  refine den_pure (fn := Tryz.f24) (by rfl) (by rfl) (by rfl) (by rfl) (by simp [Tryz.f24]) (by simp) ?_
  cases hlin : lin [] l with
  | none =>
    rw [hlin] at e67
    simp only [linV] at e67
    simp (maxSteps := 2000000) (disch := first | omega | (simp; done) | (simp; omega) | assumption) [Tryz.f24, argsE, -zo55, -bu55, zo, bz, isC, boxV, boxO, fresh_no, List.filter_cons, setB, aggN, op_build, List.set, e67, z55_len, tk55, cz, wr55]
    done
  | some ls =>
    rw [hlin] at e67
    simp only [linV] at e67
    have ht := htx ls hlin
    obtain ⟨hfin, hb1, hb2, hb3⟩ := all_ok ls
    have hph : ph ls 7 = allX ls := rfl
    simp only
    rw [hfin, ← hph]
    rw [← hph] at hb1 hb2 hb3
    obtain ⟨v, hv⟩ : ∃ v : V, .tup [(if (ph ls 7).e = 0 then ((ph ls 7).d, 0, 0) else (dep0, atL ls (ph ls 7).i.toNat, (ph ls 7).e) : Dep × Int × Int).1.v, .i (if (ph ls 7).e = 0 then ((ph ls 7).d, 0, 0) else (dep0, atL ls (ph ls 7).i.toNat, (ph ls 7).e) : Dep × Int × Int).2.1, .i (if (ph ls 7).e = 0 then ((ph ls 7).d, 0, 0) else (dep0, atL ls (ph ls 7).i.toNat, (ph ls 7).e) : Dep × Int × Int).2.2] = v := ⟨_, rfl⟩
    rw [hv]
    have htl := ht.2
    simp (maxSteps := 2000000) (disch := first | omega | (simp; done) | (simp; omega) | assumption) [Tryz.f24, argsE, -zo55, -bu55, zo, bz, isC, boxV, boxO, fresh_no, List.filter_cons, setB, aggN, op_build, List.set, e67, z55_len, tk55, elemsV, newO119, push, wr55]
    obtain ⟨I, hI⟩ : ∃ I : Nat → List Ent → List (Nat × List V) → H → Prop, I = (fun n vs lb g => ∃ (j : Nat) (t : Tk), n + j = ls.length ∧ Apd h.length g t ∧ h.length + 1 ≤ g.length ∧ cellsAt g h.length = some (rcOf (rdr0 ls) (AM.vs t 1 (ints (atsL ls j))) (AM.vs .nil 1 []) (AM.vs .nil 5 []) (AM.vs .nil 6 []) (AM.vs .nil 1 (ints []))).cs ∧ vs = [.v (.i j), .v (.i (atL ls j))] ∧ lb = [(2, z55)]) := ⟨_, rfl⟩
    refine Wp.loopQ I (n := ls.length) (by rw [hI]; exact ⟨0, .full, by simp, by simp, by simp, by rw [cellsAt_push]; rfl, by simp [atL_zero], by simp⟩) ?_
    intro n vs lb g hi Q hQ; rw [hI] at hi; obtain ⟨j, t, hj, ha, hg, hp, rfl, rfl⟩ := hi
    by_cases hlt : j < ls.length
    · have hlt' : (j : Int) < (ls.length : Int) := by omega
      have hbd := atL_bound ht j (by omega)
      have hlj := ht.1 _ (List.getElem_mem hlt)
      have hs := atL_succ hlt
      have hjm : (j : Int) * 1000000 ≤ 900000000000 := by omega
      have hal := atsL_len (ls := ls) (j := j)
      have hsn := atsL_succ (ls := ls) (j := j)
      obtain ⟨C, hC⟩ : ∃ C, rcOf (rdr0 ls) (AM.vs t 1 (ints (atsL ls j))) (AM.vs .nil 1 []) (AM.vs .nil 5 []) (AM.vs .nil 6 []) (AM.vs .nil 1 (ints [])) = C := ⟨_, rfl⟩
      have hbk : C.bk.length = 19 := by rw [← hC]; rfl
      have hCA : C.at_ = AM.vs t 1 (ints (atsL ls j)) := by rw [← hC]; rfl
      have hup : ∀ A', rcOf (rdr0 ls) A' (AM.vs .nil 1 []) (AM.vs .nil 5 []) (AM.vs .nil 6 []) (AM.vs .nil 1 (ints [])) = { C with at_ := A' } := fun A' => by rw [← hC]; rfl
      rw [hC] at hp
      have hp1 := ap_cells ha hp
      have hpl : h.length < (apH g t).length := by simp; omega
      obtain ⟨ll, hll⟩ : ∃ ll, ls[j] = ll := ⟨_, rfl⟩
      rw [hll] at hlj hs
      have go : I (n - 1) [.v (.i ((j : Int) + 1)), .v (.i (atL ls j + ((ll.length : Int) + 1)))] [(2, z55)] ((apH g t).set h.length (.cells { C with at_ := AM.vs (.tip g.length) 1 (ints (atsL ls j) ++ [V.i (atL ls j + ((ll.length : Int) + 1))]) }.cs)) := by
        rw [hI]
        have he : atL ls j + ((ll.length : Int) + 1) = atL ls (j + 1) := by rw [hs]; omega
        refine ⟨j + 1, .tip g.length, by omega, ?_, by simp; omega, ?_, by rw [he]; simp, rfl⟩
        · refine (Apd_ap (h := g) (t := t) (by omega)).keep fun (id : Nat) hid hi2 => ?_
          rw [List.getElem?_set_ne]
          · exact hi2
          · intro e; injection hid with hid; have := cellsAt_lt hp; omega
        · rw [cellsAt_set hpl, he, hup, hsn, ints_snoc]
      have h1 : C.cs[1]? = some (AM.vs t 1 (ints (atsL ls j))) := by rw [rc_g1, hCA]
      have hix : (ints (atsL ls j)).length = j + 1 := by simp [ints, hal]
      have hix2 : (List.map V.t ls)[j]? = some (V.t ll) := by simp [hlt, hll]
      clear hI hQ hs hsn hC hup
      simp (maxSteps := 2000000) (disch := first | omega | (simp; done) | (simp; omega) | assumption) [isC, boxV, boxO, fresh_no, List.filter_cons, setB, aggN, op_build, List.set, hlt, hlt', strs, hll, hp, hp1, rc_le, hbk, h1, rc_s1, wrap64, elemsV, hix]
      exact ⟨n - 1, by omega, go⟩
    obtain rfl : j = ls.length := by omega
    have hlt' : ¬ ((ls.length : Int) < (ls.length : Int)) := by omega
    clear hI
    simp (maxSteps := 2000000) (disch := first | omega | (simp; done) | (simp; omega) | assumption) []
    refine hQ _ _ ?_
    clear hQ
    have hst : RdS h.length g h.length (AM.vs t 1 (ints (atsL ls ls.length))) (ph ls 0) := ⟨.nil, .nil, .nil, .nil, [], [], [], hp, Tks.nil.cons_nil.cons_nil.cons_nil.cons_nil, rfl, rfl, rfl⟩
    clear hp
    simp (maxSteps := 2000000) (disch := first | omega | (simp; done) | (simp; omega) | assumption) [elemsV]
    have hstep := fun lo' (h' : lo' = h.length) g' (hg : h.length ≤ g'.length) j hj => stepF ht (lo := h.length) (p := h.length) (A := AM.vs t 1 (ints (atsL ls ls.length))) (g := g') (Nat.le_refl _) hg j hj
    obtain ⟨A, hA⟩ : ∃ A, AM.vs t 1 (ints (atsL ls ls.length)) = A := ⟨_, rfl⟩
    rw [hA] at hst
    simp only [hA] at hstep
    obtain ⟨J, hJ⟩ : ∃ J : Nat → List Ent → List (Nat × List V) → H → Prop, J = (fun n vs lb g => ∃ j : Nat, n + j = 7 ∧ RdS h.length g h.length A (ph ls j) ∧ h.length ≤ g.length ∧ vs = [.v (.i j)] ∧ lb = [(2, z55)]) := ⟨_, rfl⟩
    refine Wp.loopQ J (n := 7) (by rw [hJ]; exact ⟨0, by simp, hst, by show h.length ≤ g.length; omega, by simp, by simp⟩) ?_
    clear hst hg ha
    intro n vs lb g hi Q hQ; rw [hJ] at hi; obtain ⟨j, hj, hs, hg, rfl, rfl⟩ := hi
    by_cases hlt : j < 7
    · obtain ⟨g', e, hs', hg'⟩ := hstep _ rfl g hg j hlt hs
      have go : J (n - 1) [.v (.i ((j : Int) + 1))] [(2, z55)] g' := by
        rw [hJ]; exact ⟨j + 1, by omega, hs', by omega, by simp, rfl⟩
      have hsh := sh_ph j hlt
      have hfn := fn_ph j hlt
      have hlt' : (j : Int) < 7 := by omega
      clear hJ hQ hs hs' hstep
      simp (maxSteps := 2000000) (disch := first | omega | (simp; done) | (simp; omega) | assumption) [isC, hlt, hlt', hfn, hsh, e, wrap64]
      exact ⟨n - 1, by omega, go⟩
    obtain rfl : j = 7 := by omega
    clear hJ hstep
    simp (maxSteps := 2000000) (disch := first | omega | (simp; done) | (simp; omega) | assumption) []
    refine hQ _ _ ?_
    clear hQ
    obtain ⟨t1, t2, t3, t4, W, O, T, hp, hT, hW, hO, hTr⟩ := hs
    obtain ⟨C, hC⟩ : ∃ C, rcOf (ph ls 7) A (AM.vs t1 1 W) (AM.vs t2 5 O) (AM.vs t3 6 T) (AM.vs t4 1 (ints (ph ls 7).truck)) = C := ⟨_, rfl⟩
    have hbk : C.bk.length = 19 := by
      have : C.bk = (ph ls 7).d.bk := by rw [← hC]; rfl
      rw [this]
      have hd : (ph ls 7).d = (ph ls 6).d := by
        show (checkX (ph ls 6)).d = _
        unfold checkX; split
        · split <;> rfl
        · rfl
      rw [hd]; exact (ph6 ht).1.bk
    have hci : C.i = (ph ls 7).i := by rw [← hC]; rfl
    have hce : C.e = (ph ls 7).e := by rw [← hC]; rfl
    have hCA : C.at_ = AM.vs t 1 (ints (atsL ls ls.length)) := by rw [← hC, hA]; rfl
    have hcd2 : fgL ((C.cs.drop 4).take 22) = (ph ls 7).d.cs := by
      rw [rc_dep hbk]
      simp only [fgL_app', fgL_ints]
      rw [← hC]
      simp [fgL, rcOf, hW, hO, hTr, Dep.cs]
    rw [hC] at hp
    obtain ⟨i, hi⟩ : ∃ i : Nat, (ph ls 7).i = i := ⟨(ph ls 7).i.toNat, by omega⟩
    have hil : i ≤ ls.length := by omega
    have hal := atsL_len (ls := ls) (j := ls.length)
    have hix : (ints (atsL ls ls.length)).length = ls.length + 1 := by simp [ints, hal]
    have hgi : ∀ hh, (ints (atsL ls ls.length))[i]'hh = V.i (atL ls i) := by intro hh; simp [ints, atsL]
    have g1 : C.cs[1]? = some (AM.vs t 1 (ints (atsL ls ls.length))) := by rw [rc_g1, hCA]
    have g2 : C.cs[2]? = some (.i (i : Int)) := by rw [rc_g2, hci, hi]
    have hilt : (i : Int) < (ls.length : Int) + 1 := by omega
    clear hT hW hO hTr
    by_cases q : (ph ls 7).e = 0
    · rw [if_pos q] at hv
      have g3 : C.cs[3]? = some (.i 0) := by rw [rc_g3, hce, q]
      obtain ⟨D, hD⟩ : ∃ D, (C.cs.drop 4).take 22 = D := ⟨_, rfl⟩
      have hDl : D.length = 22 := by rw [← hD, rc_dep hbk]; simp [ints, hbk]
      have hwr := wr_all z55_len hDl (by omega)
      have htk : D.take 22 = D := List.take_of_length_le (by omega)
      rw [hD] at hcd2
      have hag : (22 ≤ C.cs.length - 4) = True := eq_true (by rw [rdc_len hbk]; omega)
      have hcl := fun h n => Cl1_dep (h := h) (n := n) (a := 0) (b := 0) hcd2
      simp (maxSteps := 2000000) (disch := first | omega | (simp; done) | (simp; omega) | assumption) [isC, boxV, boxO, fresh_no, List.filter_cons, setB, aggN, op_build, List.set, hp, g3, hag, hD, hwr, htk, hDl, hcl, z55_len, tk55]
      exact hv
    · rw [if_neg q] at hv
      have g3 : C.cs[3]? = some (.i (ph ls 7).e) := by rw [rc_g3, hce]
      have hiN : (ph ls 7).i.toNat = i := by omega
      rw [hiN] at hv
      simp (maxSteps := 2000000) (disch := first | omega | (simp; done) | (simp; omega) | assumption) [-zo55, -bu55, zo, bz, isC, boxV, boxO, fresh_no, List.filter_cons, setB, aggN, op_build, List.set, hp, g1, g2, g3, q, foot, Op.operands, opTmps, z55_len, tk55, wr55, hix, hgi, hilt, cz]
      exact ⟨indep_of bf24_17 (by rfl), hv⟩
end ZD

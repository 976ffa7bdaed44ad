/- The plain law of the document's words (layer 6). -/
import Derived.Test.YthpgijnlegglmaaDoorX12
import Derived.Test.YthpgijnlegglmaaDoorPWordC
namespace Go.Proofs.YthpgijnlegglmaaDoor.Pure
set_option linter.unusedVariables false
set_option linter.unusedSimpArgs false
open Go.RowKit Go.Proofs.YthpgijnlegglmaaDoor.Y0 Go.Proofs.YthpgijnlegglmaaDoor.X1 Go.Proofs.YthpgijnlegglmaaDoor.Ext Go.Proofs.YthpgijnlegglmaaDoorW.PrintWords Go.Proofs.YthpgijnlegglmaaDoorW.PrintLast Go.Proofs.YthpgijnlegglmaaDoorW.PrintMore

abbrev SR := S80
def toR (x : Nat × List UInt8) : SR := ⟨(x.1 : Int), mk x.2⟩
def resR (out : List SR) : Except Nat (List (Nat × List UInt8)) → List SR × Int × Int
  | .ok ws => (out ++ ws.map toR, 0, 0)
  | .error p => ([], (p : Int), 7)
theorem resR_map (out : List SR) (x : Nat × List UInt8) (e : Except Nat (List (Nat × List UInt8))) : resR out (e.map (x :: ·)) = resR (out ++ [toR x]) e := by
  cases e with
  | ok ws => simp [Except.map, resR]
  | error p => rfl
theorem bt_get {s : ByteArray} {i : Int} {c : UInt8} (h0 : 0 ≤ i) (h : s.data.toList[i.toNat]? = some c) : i < s.size ∧ bt s i = c.toNat := by
  obtain ⟨hl, he⟩ := List.getElem?_eq_some_iff.1 h
  have := drop_at (s := s) (i := i) (c := c) (r := s.data.toList.drop (i.toNat + 1)) h0 (by rw [← he]; exact List.drop_eq_getElem_cons hl)
  exact ⟨this.1, this.2.1⟩
def stR (out : List SR) (f : Nat) (cur : List UInt8) : List SR := if cur = [] then out else out ++ [toR (f, cur)]
theorem last_wrap (out : List SR) (x : SR) (h : out.length ≤ 5864062014805) : wrap64 (((out ++ [x]).length : Int) - 1) = (out.length : Int) := by
  rw [List.length_append, List.length_singleton, wrp (by omega) (by omega)]
  omega
theorem last_rd (out : List SR) (x : SR) : rd_T80 (out ++ [x]) (out.length : Int) = x := by
  simp [rd_T80]
theorem last_set (out : List SR) (x y : SR) : (out ++ [x]).set (out.length : Int).toNat y = out ++ [y] := by
  rw [Int.toNat_natCast, List.set_append_right _ _ (Nat.le_refl _)]
  simp
theorem one_extract (s : ByteArray) (i : Nat) (c : UInt8) (r : List UInt8) (h : s.data.toList.drop i = c :: r) : s.extract i (i + 1) = mk [c] := by
  have := extract_cur s i [c] r h
  exact this
theorem refsplit_loop (s : ByteArray) (hs : s.size ≤ 4294967280) (hne : s.data.toList ≠ []) : ∀ (rest : List UInt8) (f : Nat) (cur : List UInt8) (out : List SR), s.data.toList.drop f = cur ++ rest → f ≤ s.size → out.length ≤ f → (∀ c ∈ cur, prt c = true) →
    (cur = [] → f = 0 ∨ (0 < f ∧ s.data.toList[f - 1]? = some 32)) → Ev (fun k => haulierref06_Split.l0 k s (stR out f cur) ((f + cur.length : Nat) : Int)) (resR out (spl f cur rest)) := by
  have hsz : s.size = s.data.toList.length := Lib.size_eq s
  have hpos : 0 < s.size := by rw [hsz]; exact List.length_pos_iff.2 hne
  -- what stands ahead of the place
  have ahead : ∀ (rest : List UInt8) (f : Nat) (cur : List UInt8), s.data.toList.drop f = cur ++ rest → (∀ c ∈ cur, prt c = true) → (cur = [] → f = 0 ∨ (0 < f ∧ s.data.toList[f - 1]? = some 32)) → 0 < f + cur.length →
      ((bt s (((f + cur.length : Nat) : Int) - 1)) = 32 ↔ cur = []) := by
    intro rest f cur h hp hb hi
    rcases List.eq_nil_or_concat cur with rfl | ⟨a, z, rfl⟩
    · rcases hb rfl with h0 | ⟨h0, h1⟩
      · subst h0; simp at hi
      · have := bt_get (s := s) (i := (f : Int) - 1) (by omega) (by rw [show ((f : Int) - 1).toNat = f - 1 by omega]; exact h1)
        simp only [List.length_nil, Nat.add_zero, iff_true]
        exact this.2
    · have hg : s.data.toList[f + a.length]? = some z := by
        have := congrArg (·[a.length]?) h
        simpa [List.getElem?_drop] using this
      have hz := prt_iff.1 (hp z (by simp))
      have := bt_get (s := s) (i := ((f + (a ++ [z]).length : Nat) : Int) - 1) (by simp; omega) (by rw [show (((f + (a ++ [z]).length : Nat) : Int) - 1).toNat = f + a.length by simp; omega]; exact hg)
      rw [List.concat_eq_append, this.2]
      constructor
      · intro e; omega
      · intro e; simp at e
  intro rest
  induction rest with
  | nil =>
    intro f cur out h hf ho hp hb
    have hlen : f + cur.length = s.size := by
      have := congrArg List.length h
      simp at this
      omega
    have hah := ahead [] f cur h hp hb (by omega)
    rw [hlen] at hah
    refine Ev.step (f := fun _ => some (resR out (spl f cur []))) (fun k => ?_) (Ev.now _)
    simp only [haulierref06_Split.l0]
    rw [if_neg (by omega), if_pos (by omega), wrp (by omega) (by omega), if_pos (by omega), if_pos (by omega)]
    by_cases hc : cur = []
    · rw [if_pos (hah.2 hc)]
      subst hc
      simp at hlen
      simp [spl, resR, hlen]
    · rw [if_neg (fun e => hc (hah.1 e))]
      simp [spl, resR, stR, hc]
  | cons c r ih =>
    intro f cur out h hf ho hp hb
    have hlen : f + cur.length + r.length + 1 = s.size := by
      have := congrArg List.length h
      simp at this
      omega
    have hd00 : s.data.toList.drop (f + cur.length) = c :: r := by
      rw [← List.drop_drop, h]
      simp
    obtain ⟨hlt, hbt, hd, hget⟩ := drop_at (i := ((f + cur.length : Nat) : Int)) (by omega) (by rw [Int.toNat_natCast]; exact hd00)
    have hd' : s.data.toList.drop (f + cur.length + 1) = r := by
      rw [show (((f + cur.length : Nat) : Int) + 1).toNat = f + cur.length + 1 by omega] at hd
      exact hd
    rw [Int.toNat_natCast] at hget
    have w1 : wrap64 (((f + cur.length : Nat) : Int) + 1) = ((f + cur.length + 1 : Nat) : Int) := by rw [wrp (by omega) (by omega)]; omega
    have step1 : ∀ k, haulierref06_Split.l0 (k + 1) s (stR out f cur) ((f + cur.length : Nat) : Int) = haulierref06_Split.j1 k s (stR out f cur) ((f + cur.length : Nat) : Int) (c.toNat : Int) (decide (cur = [])) := fun k => by
      simp only [haulierref06_Split.l0]
      rw [if_pos hlt, if_pos (by omega), hbt]
      by_cases hz : ((f + cur.length : Nat) : Int) = 0
      · have : cur = [] := List.eq_nil_of_length_eq_zero (by omega)
        rw [if_pos hz, decide_eq_true this]
      · have hah := ahead (c :: r) f cur h hp hb (by omega)
        rw [if_neg hz, wrp (n := ((f + cur.length : Nat) : Int) - 1) (by omega) (by omega), if_pos (by omega), if_pos (by omega)]
        by_cases hc : cur = []
        · rw [decide_eq_true hc, hah.2 hc]; rfl
        · rw [decide_eq_false hc, show (bt s (((f + cur.length : Nat) : Int) - 1) == 32) = false by simpa using fun e => hc (hah.1 e)]
    have bad : ∀ b : Bool, Ev (fun k => haulierref06_Split.j2 k s (stR out f cur) ((f + cur.length : Nat) : Int) (c.toNat : Int) b true) ([], ((f + cur.length : Nat) : Int), 7) := fun b =>
      Ev.step (f := fun _ => some ([], ((f + cur.length : Nat) : Int), 7)) (fun k => by simp only [haulierref06_Split.j2]; rw [if_pos trivial]) (Ev.now _)
    by_cases hc : c = 32
    · subst hc
      have step2 : ∀ k, haulierref06_Split.j1 (k + 1) s (stR out f cur) ((f + cur.length : Nat) : Int) ((32 : UInt8).toNat : Int) (decide (cur = [])) = haulierref06_Split.j2 k s (stR out f cur) ((f + cur.length : Nat) : Int) ((32 : UInt8).toNat : Int) (decide (cur = [])) (decide (cur = [])) := fun k => by
        simp only [haulierref06_Split.j1]
        rw [if_neg (by decide), if_neg (by decide), if_pos (by decide)]
      refine Ev.step step1 (Ev.step step2 ?_)
      by_cases hcur : cur = []
      · rw [decide_eq_true hcur]
        have := bad true
        subst hcur
        simpa [spl, resR] using this
      · rw [decide_eq_false hcur, show spl f cur (32 :: r) = (spl (f + cur.length + 1) [] r).map ((f, cur) :: ·) by simp [spl, hcur], resR_map]
        have := ih (f + cur.length + 1) [] (out ++ [toR (f, cur)]) (by rw [hd']; rfl) (by omega) (by have : 0 < cur.length := List.length_pos_iff.2 hcur; simp; omega) (fun _ h => by cases h) (fun _ => .inr ⟨by omega, hget⟩)
        refine Ev.step (fun k => ?_) this
        simp only [haulierref06_Split.j2]
        rw [if_neg (by decide), if_pos (by decide), w1]
        simp [stR, hcur]
    · have hc32 : ¬ (c.toNat : Int) = 32 := fun e => hc (is32.1 e)
      by_cases hpc : prt c = true
      · have hpc' := prt_iff.1 hpc
        have step2 : ∀ k, haulierref06_Split.j1 (k + 1) s (stR out f cur) ((f + cur.length : Nat) : Int) (c.toNat : Int) (decide (cur = [])) = haulierref06_Split.j2 k s (stR out f cur) ((f + cur.length : Nat) : Int) (c.toNat : Int) (decide (cur = [])) false := fun k => by
          simp only [haulierref06_Split.j1]
          rw [if_neg (by omega), if_neg (by omega), if_neg hc32]
        have hx : s.extract ((f + cur.length : Nat) : Int).toNat ((f + cur.length + 1 : Nat) : Int).toNat = mk [c] := by
          rw [Int.toNat_natCast, Int.toNat_natCast]
          exact one_extract s _ c r hd00
        have := ih f (cur ++ [c]) out (by rw [h]; simp) hf ho (fun x hx => by rcases List.mem_append.1 hx with h1 | h1; exact hp x h1; rw [List.mem_singleton.1 h1]; exact hpc) (fun e => by simp at e)
        rw [show spl f cur (c :: r) = spl f (cur ++ [c]) r by simp [spl, hc, hpc]]
        refine Ev.step step1 (Ev.step step2 (Ev.step (f := fun k => haulierref06_Split.l0 k s (stR out f (cur ++ [c])) ((f + (cur ++ [c]).length : Nat) : Int)) (fun k => ?_) this))
        have hst : stR out f (cur ++ [c]) = out ++ [toR (f, cur ++ [c])] := by simp [stR]
        have hfin : ((f + (cur ++ [c]).length : Nat) : Int) = ((f + cur.length + 1 : Nat) : Int) := by simp; omega
        simp only [haulierref06_Split.j2]
        rw [if_neg (by decide), if_neg hc32, w1, hst, hfin]
        by_cases hcur : cur = []
        · subst hcur
          rw [decide_eq_true rfl, if_pos rfl, show stR out f [] = out from if_pos rfl, if_pos (by omega)]
          simp only [Option.bind_some]
          rw [last_wrap _ _ (by omega), last_rd, last_set, hx, if_pos (by omega), if_pos (by rw [List.length_append, List.length_singleton]; omega), if_pos (by omega), if_pos (by omega), if_pos (by omega), if_pos (by show 0 + 1 ≤ _; omega)]
          rfl
        · have hst2 : stR out f cur = out ++ [toR (f, cur)] := if_neg hcur
          have hsz2 : (toR (f, cur)).f1.size = cur.length := rfl
          rw [decide_eq_false hcur, if_neg (by decide), hst2, last_wrap _ _ (by omega), last_rd, last_set, hx, if_pos (by omega), if_pos (by rw [List.length_append, List.length_singleton]; omega), if_pos (by omega), if_pos (by omega), if_pos (by omega), if_pos (by rw [hsz2, size_mk]; simp; omega)]
          show haulierref06_Split.l0 k s (out ++ [⟨(f : Int), mk cur ++ mk [c]⟩]) _ = _
          rw [append_mk]
          rfl
      · have hpc' : ¬ (33 ≤ c.toNat ∧ c.toNat ≤ 126) := fun e => hpc (prt_iff.2 e)
        rw [show spl f cur (c :: r) = .error (f + cur.length) by simp [spl, hc, hpc]]
        refine Ev.step step1 (Ev.step (fun k => ?_) (bad (decide (cur = []))))
        simp only [haulierref06_Split.j1]
        by_cases h1 : (c.toNat : Int) < 32
        · rw [if_pos h1]
        · rw [if_neg h1, if_pos (by omega)]
theorem refSplit_tells (s : ByteArray) (hs : s.size ≤ 4294967280) : Ev (fun k => haulierref06_Split.f k s) (resR [] (splR s.data.toList)) := by
  by_cases hne : s.data.toList = []
  · have hz : (s.size : Int) = 0 := by rw [size_int, hne]; rfl
    refine Ev.step (f := fun _ => some ([], 0, 0)) (fun k => ?_) (by unfold splR; rw [if_pos hne]; exact Ev.now _)
    show haulierref06_Split.l0 (k + 1) s [] 0 = _
    simp only [haulierref06_Split.l0]
    rw [if_neg (by omega), if_neg (by omega)]
  · have := refsplit_loop s hs hne s.data.toList 0 [] [] rfl (by omega) (by simp) (fun _ h => by cases h) (fun _ => .inl rfl)
    unfold splR
    rw [if_neg hne]
    exact this
end Go.Proofs.YthpgijnlegglmaaDoor.Pure

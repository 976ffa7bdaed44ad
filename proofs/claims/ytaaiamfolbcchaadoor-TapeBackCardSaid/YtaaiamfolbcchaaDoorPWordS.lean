/- The plain laws of the document's words and of a text's lines (layer 6). -/
import Derived.Test.YtaaiamfolbcchaaDoorX19
import Derived.Test.YtaaiamfolbcchaaDoorX18
import Derived.Test.YtaaiamfolbcchaaDoorPWordC
namespace Go.Proofs.YtaaiamfolbcchaaDoor.Pure
set_option linter.unusedVariables false
set_option linter.unusedSimpArgs false
open Go.RowKit Go.Proofs.YtaaiamfolbcchaaDoor.Y0 Go.Proofs.YtaaiamfolbcchaaDoor.X1 Go.Proofs.YtaaiamfolbcchaaDoor.Ext Go.Proofs.YtaaiamfolbcchaaDoorW.PrintWords Go.Proofs.YtaaiamfolbcchaaDoorW.PrintLast Go.Proofs.YtaaiamfolbcchaaDoorW.PrintMore

abbrev SR := S109
def toR (x : Nat × List UInt8) : SR := ⟨(x.1 : Int), mk x.2⟩
def resR (out : List SR) : Except Nat (List (Nat × List UInt8)) → List SR × Int × Int
  | .ok ws => (out ++ ws.map toR, 0, 0)
  | .error p => ([], (p : Int), 7)
theorem resR_map (out : List SR) (x : Nat × List UInt8) (e : Except Nat (List (Nat × List UInt8))) : resR out (e.map (x :: ·)) = resR (out ++ [toR x]) e := by
  cases e with
  | ok ws => simp [Except.map, resR]
  | error p => rfl
theorem bt_get {s : ByteArray} {i : Int} {c : UInt8} (h0 : 0 ≤ i) (h : s.data.toList[i.toNat]? = some c) : i < s.size ∧ bt s i = c.toNat := by
  obtain ⟨hl, he⟩ := List.getElem?_eq_some_iff.1 h
  have := drop_at (s := s) (i := i) (c := c) (r := s.data.toList.drop (i.toNat + 1)) h0 (by rw [← he]; exact List.drop_eq_getElem_cons hl)
  exact ⟨this.1, this.2.1⟩
def stR (out : List SR) (f : Nat) (cur : List UInt8) : List SR := if cur = [] then out else out ++ [toR (f, cur)]
theorem last_wrap (out : List SR) (x : SR) (h : out.length ≤ 5864062014805) : wrap64 (((out ++ [x]).length : Int) - 1) = (out.length : Int) := by
  rw [List.length_append, List.length_singleton, wrp (by omega) (by omega)]
  omega
theorem last_rd (out : List SR) (x : SR) : rd_T109 (out ++ [x]) (out.length : Int) = x := by
  simp [rd_T109]
theorem last_set (out : List SR) (x y : SR) : (out ++ [x]).set (out.length : Int).toNat y = out ++ [y] := by
  rw [Int.toNat_natCast, List.set_append_right _ _ (Nat.le_refl _)]
  simp
theorem one_extract (s : ByteArray) (i : Nat) (c : UInt8) (r : List UInt8) (h : s.data.toList.drop i = c :: r) : s.extract i (i + 1) = mk [c] := by
  have := extract_cur s i [c] r h
  exact this
theorem refsplit_loop (s : ByteArray) (hs : s.size ≤ 4294967280) (hne : s.data.toList ≠ []) : ∀ (rest : List UInt8) (f : Nat) (cur : List UInt8) (out : List SR), s.data.toList.drop f = cur ++ rest → f ≤ s.size → out.length ≤ f → (∀ c ∈ cur, prt c = true) →
    (cur = [] → f = 0 ∨ (0 < f ∧ s.data.toList[f - 1]? = some 32)) → Ev (fun k => haulierref06_Split.l0 k s (stR out f cur) ((f + cur.length : Nat) : Int)) (resR out (spl f cur rest)) := by
  have hsz : s.size = s.data.toList.length := Lib.size_eq s
  have hpos : 0 < s.size := by rw [hsz]; exact List.length_pos_iff.2 hne
  -- what stands ahead of the place
  have ahead : ∀ (rest : List UInt8) (f : Nat) (cur : List UInt8), s.data.toList.drop f = cur ++ rest → (∀ c ∈ cur, prt c = true) → (cur = [] → f = 0 ∨ (0 < f ∧ s.data.toList[f - 1]? = some 32)) → 0 < f + cur.length →
      ((bt s (((f + cur.length : Nat) : Int) - 1)) = 32 ↔ cur = []) := by
    intro rest f cur h hp hb hi
    rcases List.eq_nil_or_concat cur with rfl | ⟨a, z, rfl⟩
    · rcases hb rfl with h0 | ⟨h0, h1⟩
      · subst h0; simp at hi
      · have := bt_get (s := s) (i := (f : Int) - 1) (by omega) (by rw [show ((f : Int) - 1).toNat = f - 1 by omega]; exact h1)
        simp only [List.length_nil, Nat.add_zero, iff_true]
        exact this.2
    · have hg : s.data.toList[f + a.length]? = some z := by
        have := congrArg (·[a.length]?) h
        simpa [List.getElem?_drop] using this
      have hz := prt_iff.1 (hp z (by simp))
      have := bt_get (s := s) (i := ((f + (a ++ [z]).length : Nat) : Int) - 1) (by simp; omega) (by rw [show (((f + (a ++ [z]).length : Nat) : Int) - 1).toNat = f + a.length by simp; omega]; exact hg)
      rw [List.concat_eq_append, this.2]
      constructor
      · intro e; omega
      · intro e; simp at e
  intro rest
  induction rest with
  | nil =>
    intro f cur out h hf ho hp hb
    have hlen : f + cur.length = s.size := by
      have := congrArg List.length h
      simp at this
      omega
    have hah := ahead [] f cur h hp hb (by omega)
    rw [hlen] at hah
    refine Ev.step (f := fun _ => some (resR out (spl f cur []))) (fun k => ?_) (Ev.now _)
    simp only [haulierref06_Split.l0]
    rw [if_neg (by omega), if_pos (by omega), wrp (by omega) (by omega), if_pos (by omega), if_pos (by omega)]
    by_cases hc : cur = []
    · rw [if_pos (hah.2 hc)]
      subst hc
      simp at hlen
      simp [spl, resR, hlen]
    · rw [if_neg (fun e => hc (hah.1 e))]
      simp [spl, resR, stR, hc]
  | cons c r ih =>
    intro f cur out h hf ho hp hb
    have hlen : f + cur.length + r.length + 1 = s.size := by
      have := congrArg List.length h
      simp at this
      omega
    have hd00 : s.data.toList.drop (f + cur.length) = c :: r := by
      rw [← List.drop_drop, h]
      simp
    obtain ⟨hlt, hbt, hd, hget⟩ := drop_at (i := ((f + cur.length : Nat) : Int)) (by omega) (by rw [Int.toNat_natCast]; exact hd00)
    have hd' : s.data.toList.drop (f + cur.length + 1) = r := by
      rw [show (((f + cur.length : Nat) : Int) + 1).toNat = f + cur.length + 1 by omega] at hd
      exact hd
    rw [Int.toNat_natCast] at hget
    have w1 : wrap64 (((f + cur.length : Nat) : Int) + 1) = ((f + cur.length + 1 : Nat) : Int) := by rw [wrp (by omega) (by omega)]; omega
    have step1 : ∀ k, haulierref06_Split.l0 (k + 1) s (stR out f cur) ((f + cur.length : Nat) : Int) = haulierref06_Split.j1 k s (stR out f cur) ((f + cur.length : Nat) : Int) (c.toNat : Int) (decide (cur = [])) := fun k => by
      simp only [haulierref06_Split.l0]
      rw [if_pos hlt, if_pos (by omega), hbt]
      by_cases hz : ((f + cur.length : Nat) : Int) = 0
      · have : cur = [] := List.eq_nil_of_length_eq_zero (by omega)
        rw [if_pos hz, decide_eq_true this]
      · have hah := ahead (c :: r) f cur h hp hb (by omega)
        rw [if_neg hz, wrp (n := ((f + cur.length : Nat) : Int) - 1) (by omega) (by omega), if_pos (by omega), if_pos (by omega)]
        by_cases hc : cur = []
        · rw [decide_eq_true hc, hah.2 hc]; rfl
        · rw [decide_eq_false hc, show (bt s (((f + cur.length : Nat) : Int) - 1) == 32) = false by simpa using fun e => hc (hah.1 e)]
    have bad : ∀ b : Bool, Ev (fun k => haulierref06_Split.j2 k s (stR out f cur) ((f + cur.length : Nat) : Int) (c.toNat : Int) b true) ([], ((f + cur.length : Nat) : Int), 7) := fun b =>
      Ev.step (f := fun _ => some ([], ((f + cur.length : Nat) : Int), 7)) (fun k => by simp only [haulierref06_Split.j2]; rw [if_pos trivial]) (Ev.now _)
    by_cases hc : c = 32
    · subst hc
      have step2 : ∀ k, haulierref06_Split.j1 (k + 1) s (stR out f cur) ((f + cur.length : Nat) : Int) ((32 : UInt8).toNat : Int) (decide (cur = [])) = haulierref06_Split.j2 k s (stR out f cur) ((f + cur.length : Nat) : Int) ((32 : UInt8).toNat : Int) (decide (cur = [])) (decide (cur = [])) := fun k => by
        simp only [haulierref06_Split.j1]
        rw [if_neg (by decide), if_neg (by decide), if_pos (by decide)]
      refine Ev.step step1 (Ev.step step2 ?_)
      by_cases hcur : cur = []
      · rw [decide_eq_true hcur]
        have := bad true
        subst hcur
        simpa [spl, resR] using this
      · rw [decide_eq_false hcur, show spl f cur (32 :: r) = (spl (f + cur.length + 1) [] r).map ((f, cur) :: ·) by simp [spl, hcur], resR_map]
        have := ih (f + cur.length + 1) [] (out ++ [toR (f, cur)]) (by rw [hd']; rfl) (by omega) (by have : 0 < cur.length := List.length_pos_iff.2 hcur; simp; omega) (fun _ h => by cases h) (fun _ => .inr ⟨by omega, hget⟩)
        refine Ev.step (fun k => ?_) this
        simp only [haulierref06_Split.j2]
        rw [if_neg (by decide), if_pos (by decide), w1]
        simp [stR, hcur]
    · have hc32 : ¬ (c.toNat : Int) = 32 := fun e => hc (is32.1 e)
      by_cases hpc : prt c = true
      · have hpc' := prt_iff.1 hpc
        have step2 : ∀ k, haulierref06_Split.j1 (k + 1) s (stR out f cur) ((f + cur.length : Nat) : Int) (c.toNat : Int) (decide (cur = [])) = haulierref06_Split.j2 k s (stR out f cur) ((f + cur.length : Nat) : Int) (c.toNat : Int) (decide (cur = [])) false := fun k => by
          simp only [haulierref06_Split.j1]
          rw [if_neg (by omega), if_neg (by omega), if_neg hc32]
        have hx : s.extract ((f + cur.length : Nat) : Int).toNat ((f + cur.length + 1 : Nat) : Int).toNat = mk [c] := by
          rw [Int.toNat_natCast, Int.toNat_natCast]
          exact one_extract s _ c r hd00
        have := ih f (cur ++ [c]) out (by rw [h]; simp) hf ho (fun x hx => by rcases List.mem_append.1 hx with h1 | h1; exact hp x h1; rw [List.mem_singleton.1 h1]; exact hpc) (fun e => by simp at e)
        rw [show spl f cur (c :: r) = spl f (cur ++ [c]) r by simp [spl, hc, hpc]]
        refine Ev.step step1 (Ev.step step2 (Ev.step (f := fun k => haulierref06_Split.l0 k s (stR out f (cur ++ [c])) ((f + (cur ++ [c]).length : Nat) : Int)) (fun k => ?_) this))
        have hst : stR out f (cur ++ [c]) = out ++ [toR (f, cur ++ [c])] := by simp [stR]
        have hfin : ((f + (cur ++ [c]).length : Nat) : Int) = ((f + cur.length + 1 : Nat) : Int) := by simp; omega
        simp only [haulierref06_Split.j2]
        rw [if_neg (by decide), if_neg hc32, w1, hst, hfin]
        by_cases hcur : cur = []
        · subst hcur
          rw [decide_eq_true rfl, if_pos rfl, show stR out f [] = out from if_pos rfl, if_pos (by omega)]
          simp only [Option.bind_some]
          rw [last_wrap _ _ (by omega), last_rd, last_set, hx, if_pos (by omega), if_pos (by rw [List.length_append, List.length_singleton]; omega), if_pos (by omega), if_pos (by omega), if_pos (by omega), if_pos (by show 0 + 1 ≤ _; omega)]
          rfl
        · have hst2 : stR out f cur = out ++ [toR (f, cur)] := if_neg hcur
          have hsz2 : (toR (f, cur)).f1.size = cur.length := rfl
          rw [decide_eq_false hcur, if_neg (by decide), hst2, last_wrap _ _ (by omega), last_rd, last_set, hx, if_pos (by omega), if_pos (by rw [List.length_append, List.length_singleton]; omega), if_pos (by omega), if_pos (by omega), if_pos (by omega), if_pos (by rw [hsz2, size_mk]; simp; omega)]
          show haulierref06_Split.l0 k s (out ++ [⟨(f : Int), mk cur ++ mk [c]⟩]) _ = _
          rw [append_mk]
          rfl
      · have hpc' : ¬ (33 ≤ c.toNat ∧ c.toNat ≤ 126) := fun e => hpc (prt_iff.2 e)
        rw [show spl f cur (c :: r) = .error (f + cur.length) by simp [spl, hc, hpc]]
        refine Ev.step step1 (Ev.step (fun k => ?_) (bad (decide (cur = []))))
        simp only [haulierref06_Split.j1]
        by_cases h1 : (c.toNat : Int) < 32
        · rw [if_pos h1]
        · rw [if_neg h1, if_pos (by omega)]
theorem refSplit_tells (s : ByteArray) (hs : s.size ≤ 4294967280) : Ev (fun k => haulierref06_Split.f k s) (resR [] (splR s.data.toList)) := by
  by_cases hne : s.data.toList = []
  · have hz : (s.size : Int) = 0 := by rw [size_int, hne]; rfl
    refine Ev.step (f := fun _ => some ([], 0, 0)) (fun k => ?_) (by unfold splR; rw [if_pos hne]; exact Ev.now _)
    show haulierref06_Split.l0 (k + 1) s [] 0 = _
    simp only [haulierref06_Split.l0]
    rw [if_neg (by omega), if_neg (by omega)]
  · have := refsplit_loop s hs hne s.data.toList 0 [] [] rfl (by omega) (by simp) (fun _ h => by cases h) (fun _ => .inl rfl)
    unfold splR
    rw [if_neg hne]
    exact this

/-! ### Lines -/
def lin : List UInt8 → List UInt8 → Option (List (List UInt8))
  | cur, [] => if cur = [] then some [] else none
  | cur, c :: r => if c = 10 then (lin [] r).map (cur :: ·) else lin (cur ++ [c]) r
def resL (n : Nat) (out : List ByteArray) : Option (List (List UInt8)) → List ByteArray × Int × Int
  | some ls => (out ++ ls.map mk, 0, 0)
  | none => ([], (n : Int), 8)
theorem resL_map (n : Nat) (out : List ByteArray) (x : List UInt8) (e : Option (List (List UInt8))) : resL n out (e.map (x :: ·)) = resL n (out ++ [mk x]) e := by
  cases e with
  | some ls => simp [resL]
  | none => rfl
theorem lin_ended : ∀ (b cur : List UInt8), 10 ∉ cur → lin cur (b ++ [10]) = some (splitL 10 (cur ++ b))
  | [], cur, h => by simp [lin, splitL_none h]
  | c :: b, cur, h => by
    by_cases hc : c = 10
    · subst hc
      rw [splitL_hit b h]
      simp [lin, lin_ended b [] (by simp)]
    · have := lin_ended b (cur ++ [c]) (by simp only [List.mem_append, List.mem_singleton]; rintro (h1 | h1); exact h h1; exact hc h1.symm)
      simp [lin, hc, this]
theorem lin_open : ∀ (b cur : List UInt8) (z : UInt8), z ≠ 10 → lin cur (b ++ [z]) = none
  | [], cur, z, h => by simp [lin, h]
  | c :: b, cur, z, h => by
    by_cases hc : c = 10
    · simp [lin, hc, lin_open b [] z h]
    · simp [lin, hc, lin_open b (cur ++ [c]) z h]
theorem suffix_tells (b : List UInt8) (z : UInt8) (hs : b.length ≤ 4294967280) : strings_CutSuffix.f (mk (b ++ [z])) (⟨#[10]⟩ : ByteArray) = some (if z = 10 then (mk b, true) else (mk (b ++ [z]), false)) := by
  have hsz : ((mk (b ++ [z])).size : Int) = (b.length : Int) + 1 := by rw [size_mk]; simp
  have h1 : (((⟨#[10]⟩ : ByteArray)).size : Int) = 1 := rfl
  have w1 : wrap64 ((b.length : Int) + 1 - 1) = (b.length : Int) := by rw [wrp (by omega) (by omega)]; omega
  have x1 : (mk (b ++ [z])).extract (b.length : Int).toNat (mk (b ++ [z])).size = mk [z] := by
    rw [extract_mk, size_mk, Int.toNat_natCast]
    congr 1
    simp
  have x2 : (mk (b ++ [z])).extract 0 (b.length : Int).toNat = mk b := by rw [extract_mk, Int.toNat_natCast]; simp
  have hH : stringslite_HasSuffix.f (mk (b ++ [z])) (⟨#[10]⟩ : ByteArray) = some (decide (z = 10)) := by
    unfold stringslite_HasSuffix.f
    rw [hsz, h1, w1, x1, if_pos (by omega), if_pos (by omega), if_pos (by omega), toList_mk]
    by_cases hz : z = 10
    · subst hz
      rw [decide_eq_true rfl, show (⟨#[10]⟩ : ByteArray).toList = [10] from toList_mk [10], beq_self_eq_true]
    · rw [decide_eq_false hz, show (⟨#[10]⟩ : ByteArray).toList = [10] from toList_mk [10], show ([z] == [10]) = false by simpa using hz]
  unfold strings_CutSuffix.f stringslite_CutSuffix.f
  rw [hH, hsz, h1, w1, x2]
  by_cases hz : z = 10
  · subst hz
    simp only [Option.bind_some, decide_true, if_true]
    rw [if_pos (by omega), if_pos (by omega)]
    rfl
  · simp [hz]
theorem Lines_tells (s : ByteArray) (hs : s.size ≤ 4294967280) : word_Lines.f s = some (resL s.size [] (lin [] s.data.toList)) := by
  unfold word_Lines.f
  rw [Lib.toList_data]
  rcases List.eq_nil_or_concat s.data.toList with h | ⟨b, z, h⟩
  · rw [if_pos h, h]
    rfl
  · rw [List.concat_eq_append] at h
    have hb : b.length + 1 = s.size := by rw [Lib.size_eq s, h]; simp
    have e : s = mk (b ++ [z]) := by rw [← h]; rfl
    rw [if_neg (by rw [h]; simp), h]
    have hc := suffix_tells b z (by omega)
    rw [← e] at hc
    rw [hc]
    simp only [Option.bind_some]
    by_cases hz : z = 10
    · subst hz
      rw [if_pos rfl, lin_ended b [] (by simp)]
      simp only [if_true]
      rw [Split_tells (mk b) 10 (by rw [size_mk]; omega)]
      rfl
    · rw [if_neg hz, lin_open b [] z hz]
      rfl
theorem refLines_loop (s : ByteArray) (hs : s.size ≤ 4294967280) : ∀ (rest : List UInt8) (f : Nat) (cur : List UInt8) (out : List ByteArray), s.data.toList.drop f = cur ++ rest → f ≤ s.size → out.length ≤ f →
    Ev (fun k => haulierref06_Lines.l0 k s out (f : Int) ((f + cur.length : Nat) : Int)) (resL s.size out (lin cur rest)) := by
  have hsz : s.size = s.data.toList.length := Lib.size_eq s
  intro rest
  induction rest with
  | nil =>
    intro f cur out h hf ho
    have hlen : f + cur.length = s.size := by
      have := congrArg List.length h
      simp at this
      omega
    refine Ev.step (f := fun _ => some (resL s.size out (lin cur []))) (fun k => ?_) (Ev.now _)
    simp only [haulierref06_Lines.l0]
    rw [if_neg (by omega)]
    by_cases hc : cur = []
    · subst hc
      rw [if_neg (by simp at hlen; omega)]
      simp [lin, resL]
    · have hp : 0 < cur.length := List.length_pos_iff.2 hc
      rw [if_pos (by omega)]
      simp [lin, resL, hc]
  | cons c r ih =>
    intro f cur out h hf ho
    have hlen : f + cur.length + r.length + 1 = s.size := by
      have := congrArg List.length h
      simp at this
      omega
    have hd00 : s.data.toList.drop (f + cur.length) = c :: r := by
      rw [← List.drop_drop, h]
      simp
    obtain ⟨hlt, hbt, hd, hget⟩ := drop_at (i := ((f + cur.length : Nat) : Int)) (by omega) (by rw [Int.toNat_natCast]; exact hd00)
    have hd' : s.data.toList.drop (f + cur.length + 1) = r := by
      rw [show (((f + cur.length : Nat) : Int) + 1).toNat = f + cur.length + 1 by omega] at hd
      exact hd
    have w1 : wrap64 (((f + cur.length : Nat) : Int) + 1) = ((f + cur.length + 1 : Nat) : Int) := by rw [wrp (by omega) (by omega)]; omega
    have is10 : ((c.toNat : Int) = 10) ↔ c = 10 := ⟨fun e => by
      have : c.toNat = 10 := by omega
      rw [← UInt8.ofNat_toNat (x := c), this]
      rfl, fun e => by rw [e]; rfl⟩
    by_cases hc : c = 10
    · have := ih (f + cur.length + 1) [] (out ++ [mk cur]) (by rw [hd']; rfl) (by omega) (by simp; omega)
      rw [show lin cur (c :: r) = (lin [] r).map (cur :: ·) by simp [lin, hc], resL_map]
      refine Ev.step (f := fun k => haulierref06_Lines.l0 k s (out ++ [mk cur]) ((f + cur.length + 1 : Nat) : Int) ((f + cur.length + 1 : Nat) : Int)) (fun k => ?_) this
      simp only [haulierref06_Lines.l0]
      rw [if_pos hlt, if_pos (by omega), hbt, if_pos (is10.2 hc), if_pos (by omega), if_pos (by omega), if_pos (by omega), if_pos (by omega), w1, Int.toNat_natCast, Int.toNat_natCast, extract_cur s f cur (c :: r) h]
    · have := ih f (cur ++ [c]) out (by rw [h]; simp) hf ho
      rw [show lin cur (c :: r) = lin (cur ++ [c]) r by simp [lin, hc]]
      refine Ev.step (fun k => ?_) this
      simp only [haulierref06_Lines.l0]
      rw [if_pos hlt, if_pos (by omega), hbt, if_neg (fun e => hc (is10.1 e)), w1]
      simp [Nat.add_assoc]
theorem refLines_tells (s : ByteArray) (hs : s.size ≤ 4294967280) : Ev (fun k => haulierref06_Lines.f k s) (resL s.size [] (lin [] s.data.toList)) := refLines_loop s hs s.data.toList 0 [] [] rfl (by omega) (by simp)
end Go.Proofs.YtaaiamfolbcchaaDoor.Pure

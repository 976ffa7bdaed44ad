/- The plain law of a line's words (layer 6): what is split, by the program and by the document. -/
import Derived.Test.YtaaiamfolbcchaaDoorX14
import Derived.Test.YtaaiamfolbcchaaDoorPWordA
namespace Go.Proofs.YtaaiamfolbcchaaDoor.Pure
set_option linter.unusedVariables false
set_option linter.unusedSimpArgs false
open Go.RowKit Go.Proofs.YtaaiamfolbcchaaDoor.Y0 Go.Proofs.YtaaiamfolbcchaaDoor.X1 Go.Proofs.YtaaiamfolbcchaaDoor.Ext Go.Proofs.YtaaiamfolbcchaaDoorW.PrintWords Go.Proofs.YtaaiamfolbcchaaDoorW.PrintLast Go.Proofs.YtaaiamfolbcchaaDoorW.PrintMore

def prt (c : UInt8) : Bool := decide (33 ≤ c.toNat) && decide (c.toNat ≤ 126)
theorem prt_iff {c : UInt8} : prt c = true ↔ 33 ≤ c.toNat ∧ c.toNat ≤ 126 := by simp [prt]
theorem is32 {c : UInt8} : ((c.toNat : Int) = 32) ↔ c = 32 := ⟨fun h => by
  have : c.toNat = 32 := by omega
  rw [← UInt8.ofNat_toNat (x := c), this]
  rfl, fun h => by rw [h]; rfl⟩
/-- A line's words, from a place on, behind the beginning 'cur' of a word that stands at f; or the place that is wrong. -/
def spl : Nat → List UInt8 → List UInt8 → Except Nat (List (Nat × List UInt8))
  | f, cur, [] => if cur = [] then .error f else .ok [(f, cur)]
  | f, cur, c :: r => if c = 32 then (if cur = [] then .error f else (spl (f + cur.length + 1) [] r).map ((f, cur) :: ·)) else if prt c = true then spl f (cur ++ [c]) r else .error (f + cur.length)
def splR (l : List UInt8) : Except Nat (List (Nat × List UInt8)) := if l = [] then .ok [] else spl 0 [] l
def toW (x : Nat × List UInt8) : S54 := ⟨(x.1 : Int), mk x.2⟩
def resW (out : List S54) : Except Nat (List (Nat × List UInt8)) → List S54 × Int × Int
  | .ok ws => (out ++ ws.map toW, 0, 0)
  | .error p => ([], (p : Int), 7)
theorem resW_map (out : List S54) (x : Nat × List UInt8) (e : Except Nat (List (Nat × List UInt8))) : resW out (e.map (x :: ·)) = resW (out ++ [toW x]) e := by
  cases e with
  | ok ws => simp [Except.map, resW]
  | error p => rfl
theorem extract_cur (s : ByteArray) (f : Nat) (cur rest : List UInt8) (h : s.data.toList.drop f = cur ++ rest) : s.extract f (f + cur.length) = mk cur := by
  rw [← mk_data s, extract_mk, h]
  congr 1
  rw [show f + cur.length - f = cur.length by omega]
  simp
theorem split_loop (s : ByteArray) (hs : s.size ≤ 4294967280) (hne : s.data.toList ≠ []) : ∀ (rest : List UInt8) (f : Nat) (cur : List UInt8) (out : List S54), s.data.toList.drop f = cur ++ rest → f ≤ s.size → out.length ≤ f →
    Ev (fun k => word_Split.l0 k s out (f : Int) (s.size : Int) ((f + cur.length : Nat) : Int)) (resW out (spl f cur rest)) := by
  have hsz : s.size = s.data.toList.length := Lib.size_eq s
  intro rest
  induction rest with
  | nil =>
    intro f cur out h hf ho
    have hlen : f + cur.length = s.size := by
      have := congrArg List.length h
      simp at this
      omega
    refine Ev.step (f := fun _ => some (resW out (spl f cur []))) (fun k => ?_) (Ev.now _)
    simp only [word_Split.l0, Lib.toList_data]
    rw [if_neg (by omega), if_neg hne]
    by_cases hc : cur = []
    · subst hc
      rw [if_pos (by simp at hlen; omega)]
      simp only [spl, if_true, resW]
      simp at hlen
      rw [hlen]
    · have hp : 0 < cur.length := List.length_pos_iff.2 hc
      rw [if_neg (by omega), if_pos (by omega), if_pos (by omega), if_pos (by omega)]
      simp only [spl, if_neg hc, resW, List.map_cons, List.map_nil, toW]
      rw [Int.toNat_natCast, ← hlen, extract_cur s f cur [] h]
  | cons c r ih =>
    intro f cur out h hf ho
    have hlen : f + cur.length + r.length + 1 = s.size := by
      have := congrArg List.length h
      simp at this
      omega
    have hd0 : s.data.toList.drop (((f + cur.length : Nat) : Int)).toNat = c :: r := by
      rw [Int.toNat_natCast, ← List.drop_drop, h]
      simp
    obtain ⟨hlt, hb, hd, _⟩ := drop_at (by omega) hd0
    have hd' : s.data.toList.drop (f + cur.length + 1) = r := by
      rw [show (((f + cur.length : Nat) : Int) + 1).toNat = f + cur.length + 1 by omega] at hd
      exact hd
    have w1 : wrap64 (((f + cur.length : Nat) : Int) + 1) = ((f + cur.length + 1 : Nat) : Int) := by rw [wrp (by omega) (by omega)]; omega
    by_cases hc : c = 32
    · subst hc
      by_cases hcur : cur = []
      · subst hcur
        refine Ev.step (f := fun k => word_Split.j1 k s out (f : Int) ((f + 0 : Nat) : Int) 32 (s.size : Int) ((f + 0 : Nat) : Int) false) (fun k => ?_) (Ev.step (f := fun _ => some (resW out (spl f [] (32 :: r)))) (fun k => ?_) (Ev.now _))
        · simp only [word_Split.l0]
          rw [if_pos hlt, if_pos (by omega), if_pos hlt, hb, if_pos (is32.2 rfl), decide_eq_false (by simp)]
          rfl
        · simp only [word_Split.j1]
          rw [if_neg (by decide), if_pos (by decide)]
          simp [spl, resW]
      · have hp : 0 < cur.length := List.length_pos_iff.2 hcur
        have := ih (f + cur.length + 1) [] (out ++ [toW (f, cur)]) (by rw [hd']; rfl) (by omega) (by simp; omega)
        rw [← resW_map] at this
        rw [show spl f cur (32 :: r) = (spl (f + cur.length + 1) [] r).map ((f, cur) :: ·) by simp [spl, hcur]]
        refine Ev.step (f := fun k => word_Split.j1 k s out (f : Int) ((f + cur.length : Nat) : Int) 32 (s.size : Int) ((f + cur.length : Nat) : Int) true) (fun k => ?_) (Ev.step (fun k => ?_) this)
        · simp only [word_Split.l0]
          rw [if_pos hlt, if_pos (by omega), if_pos hlt, hb, if_pos (is32.2 rfl), decide_eq_true (by omega)]
          rfl
        · simp only [word_Split.j1]
          rw [if_pos trivial, if_pos (by omega), if_pos (by omega), if_pos (by omega), if_pos (by omega), w1, Int.toNat_natCast, Int.toNat_natCast, extract_cur s f cur (32 :: r) h]
          rfl
    · have step1 : ∀ k, word_Split.l0 (k + 1) s out (f : Int) (s.size : Int) ((f + cur.length : Nat) : Int) = word_Split.j1 k s out (f : Int) ((f + cur.length : Nat) : Int) (c.toNat : Int) (s.size : Int) ((f + cur.length : Nat) : Int) false := fun k => by
        simp only [word_Split.l0]
        rw [if_pos hlt, if_pos (by omega), if_pos hlt, hb, if_neg (fun e => hc (is32.1 e))]
      by_cases hp : prt c = true
      · have hp' := prt_iff.1 hp
        have := ih f (cur ++ [c]) out (by rw [h]; simp) hf ho
        rw [show spl f cur (c :: r) = spl f (cur ++ [c]) r by simp [spl, hc, hp]]
        refine Ev.step step1 (Ev.step (fun k => ?_) this)
        simp only [word_Split.j1]
        rw [if_neg (by decide), if_neg (by omega), if_neg (by omega), w1]
        simp [Nat.add_assoc]
      · have hp' : ¬ (33 ≤ c.toNat ∧ c.toNat ≤ 126) := fun e => hp (prt_iff.2 e)
        rw [show spl f cur (c :: r) = .error (f + cur.length) by simp [spl, hc, hp]]
        refine Ev.step step1 (Ev.step (f := fun _ => some ([], ((f + cur.length : Nat) : Int), 7)) (fun k => ?_) (Ev.now _))
        simp only [word_Split.j1]
        rw [if_neg (by decide)]
        by_cases h1 : (c.toNat : Int) < 33
        · rw [if_pos h1]
        · rw [if_neg h1, if_pos (by omega)]
theorem Split_tells' (s : ByteArray) (hs : s.size ≤ 4294967280) : Ev (fun k => word_Split.f k s) (resW [] (splR s.data.toList)) := by
  by_cases hne : s.data.toList = []
  · have hz : (s.size : Int) = 0 := by rw [size_int, hne]; rfl
    refine Ev.step (f := fun _ => some ([], 0, 0)) (fun k => ?_) (by unfold splR; rw [if_pos hne]; exact Ev.now _)
    show word_Split.l0 (k + 1) s [] 0 s.size 0 = _
    simp only [word_Split.l0, Lib.toList_data]
    rw [if_neg (by omega), if_pos hne]
  · have := split_loop s hs hne s.data.toList 0 [] [] rfl (by omega) (by simp)
    unfold splR
    rw [if_neg hne]
    exact this
theorem alive_split : Ev (fun k => word_Split.f k (⟨#[97, 32, 32, 98]⟩ : ByteArray)) ([], 2, 7) := by
  have := Split_tells' (⟨#[97, 32, 32, 98]⟩ : ByteArray) (by decide)
  exact this
theorem alive_tells : Ev (fun k => haulierlaw06_alive.f k) true := by
  unfold haulierlaw06_alive.f
  refine Ev.bind (f := fun k bt111 => _) alive_span ?_
  refine Ev.bind (f := fun k bt115 => _) alive_split ?_
  exact Ev.now _
end Go.Proofs.YtaaiamfolbcchaaDoor.Pure

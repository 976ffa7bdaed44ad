/- The plain law of WordLines: the lines of a text, the words of a line. -/
import Derived.Test.YtaaiamfolbcchaaDoorX110
import Derived.Test.YtaaiamfolbcchaaDoorPWordS
namespace Go.Proofs.YtaaiamfolbcchaaDoor.Pure
set_option linter.unusedVariables false
set_option linter.unusedSimpArgs false
open Go.RowKit Go.Proofs.YtaaiamfolbcchaaDoor.Y0 Go.Proofs.YtaaiamfolbcchaaDoor.X1 Go.Proofs.YtaaiamfolbcchaaDoor.Ext Go.Proofs.YtaaiamfolbcchaaDoorW.PrintWords Go.Proofs.YtaaiamfolbcchaaDoorW.PrintLast Go.Proofs.YtaaiamfolbcchaaDoorW.PrintMore

def wsOf : Except Nat (List (Nat × List UInt8)) → List (Nat × List UInt8)
  | .ok ws => ws
  | .error _ => []
def atOf : Except Nat (List (Nat × List UInt8)) → Int
  | .ok _ => 0
  | .error p => p
def erOf : Except Nat (List (Nat × List UInt8)) → Int
  | .ok _ => 0
  | .error _ => 7
theorem resW_of (e : Except Nat (List (Nat × List UInt8))) : resW [] e = ((wsOf e).map toW, atOf e, erOf e) := by cases e <;> rfl
theorem resR_of (e : Except Nat (List (Nat × List UInt8))) : resR [] e = ((wsOf e).map toR, atOf e, erOf e) := by cases e <;> rfl
theorem spl_len : ∀ (rest : List UInt8) (f : Nat) (cur : List UInt8), (wsOf (spl f cur rest)).length ≤ rest.length + 1
  | [], f, cur => by
    unfold spl
    split <;> simp [wsOf]
  | c :: r, f, cur => by
    have h1 := spl_len r (f + cur.length + 1) []
    have h2 := spl_len r f (cur ++ [c])
    unfold spl
    split
    · split
      · simp [wsOf]
      · cases e : spl (f + cur.length + 1) [] r with
        | ok ws => rw [e] at h1; simp [wsOf, Except.map] at h1 ⊢; omega
        | error p => simp [wsOf, Except.map]
    · split
      · simp; omega
      · simp [wsOf]
theorem splR_len (l : List UInt8) : (wsOf (splR l)).length ≤ l.length + 1 := by
  unfold splR
  split
  · simp [wsOf]
  · exact spl_len l 0 []
theorem same_tells (ws : List (Nat × List UInt8)) (hn : ws.length ≤ 4294967290) : Ev (fun k => haulierlaw06_same.f k (ws.map toW) (ws.map toR)) true := by
  unfold haulierlaw06_same.f
  refine Ev.congr (f := fun k => haulierlaw06_same.l0 k (ws.map toW) (ws.map toR) (ws.map toW).length 0) (fun k => by rw [if_pos (by simp)]) ?_
  suffices H : ∀ (d i : Nat), i + d = ws.length → Ev (fun k => haulierlaw06_same.l0 k (ws.map toW) (ws.map toR) (ws.map toW).length (i : Int)) true from H ws.length 0 (by omega)
  intro d
  induction d with
  | zero =>
    intro i hi
    refine Ev.step (f := fun _ => some true) (fun k => ?_) (Ev.now _)
    simp only [haulierlaw06_same.l0]
    rw [if_neg (by simp; omega)]
  | succ d ih =>
    intro i hi
    have hl : i < ws.length := by omega
    refine Ev.step (f := fun k => haulierlaw06_same.l0 k (ws.map toW) (ws.map toR) (ws.map toW).length ((i + 1 : Nat) : Int)) (fun k => ?_) (ih (i + 1) (by omega))
    have r1 : rd_T54 (ws.map toW) (i : Int) = toW ws[i] := by simp [rd_T54, List.getD_eq_getElem?_getD, hl]
    have r2 : rd_T109 (ws.map toR) (i : Int) = toR ws[i] := by simp [rd_T109, List.getD_eq_getElem?_getD, hl]
    have w1 : wrap64 ((i : Int) + 1) = ((i + 1 : Nat) : Int) := by rw [wrp (by omega) (by omega)]; omega
    simp only [haulierlaw06_same.l0]
    rw [r1, r2, if_pos (by simp; omega), if_pos (by omega), if_pos (by simp; omega), if_pos (by simp; omega), if_neg (by simp [toW, toR]), w1]
theorem lines_same (k0 : Nat) (l : ByteArray) (xs : List ByteArray) (r : Bool) (hn : xs.length ≤ 4294967290) (hend : Ev (fun k => ((word_Split.f k l).bind fun bt226 => ((haulierref06_Split.f k l).bind fun bt231 => ((haulierlaw06_same.f k bt226.1 bt231.1).bind fun t236 => (if t236 = true then (if bt226.2.1 = bt231.2.1 then (if bt226.2.2 = bt231.2.2 then ((haulierlaw06_alive.f k).bind fun t237 => (some t237)) else (some false)) else (some false)) else (some false)))))) r) :
    ∀ (d i : Nat), i + d = xs.length → Ev (fun k => haulierlaw06_WordLines.l0 k l xs xs xs.length (i : Int)) r := by
  intro d
  induction d with
  | zero =>
    intro i hi
    refine Ev.step (fun k => ?_) hend
    simp only [haulierlaw06_WordLines.l0]
    rw [if_neg (by omega)]
  | succ d ih =>
    intro i hi
    refine Ev.step (f := fun k => haulierlaw06_WordLines.l0 k l xs xs xs.length ((i + 1 : Nat) : Int)) (fun k => ?_) (ih (i + 1) (by omega))
    have w1 : wrap64 ((i : Int) + 1) = ((i + 1 : Nat) : Int) := by rw [wrp (by omega) (by omega)]; omega
    simp only [haulierlaw06_WordLines.l0]
    rw [if_pos (by omega), if_pos (by omega), if_pos (by omega), if_pos (by omega), if_pos trivial, w1]
theorem lin_len : ∀ (rest cur : List UInt8) (ls : List (List UInt8)), lin cur rest = some ls → ls.length ≤ rest.length
  | [], cur, ls, h => by
    unfold lin at h
    split at h
    · cases h; simp
    · cases h
  | c :: r, cur, ls, h => by
    unfold lin at h
    split at h
    · obtain ⟨ls', h1, rfl⟩ := Option.map_eq_some_iff.1 h
      have := lin_len r [] ls' h1
      simp; exact this
    · have := lin_len r _ ls h
      simp; omega
theorem WordLines (text line : ByteArray) (ht : text.size ≤ 140737488351232) (hl : line.size ≤ 140737488351232) : ∃ k, haulierlaw06_WordLines.f k text line = some true := by
  apply Ev.rounds
  have al : Ev (fun k => (haulierlaw06_alive.f k).bind fun t => some t) true := Ev.bind (f := fun _ t => some t) alive_tells (Ev.now _)
  have big : Ev (fun k => haulierlaw06_WordLines.j0 k text line true) true := Ev.step (fun k => by simp only [haulierlaw06_WordLines.j0]; rw [if_pos trivial]) al
  unfold haulierlaw06_WordLines.f
  by_cases h1 : (text.size : Int) > 2000
  · exact Ev.congr (fun k => by rw [if_pos h1]) big
  by_cases h2 : (line.size : Int) > 2000
  · exact Ev.congr (fun k => by rw [if_neg h1, decide_eq_true h2]) big
  refine Ev.congr (f := fun k => haulierlaw06_WordLines.j0 k text line false) (fun k => by rw [if_neg h1, decide_eq_false h2]) ?_
  refine Ev.step (f := fun k => ((word_Lines.f text).bind fun bt214 => ((haulierref06_Lines.f k text).bind fun bt219 => (if bt214.2.1 = bt219.2.1 then (if bt214.2.2 = bt219.2.2 then (haulierlaw06_WordLines.j1 k line bt214.1 bt219.1 ((bt214.1.length : Int) != (bt219.1.length : Int))) else (haulierlaw06_WordLines.j1 k line bt214.1 bt219.1 true)) else (haulierlaw06_WordLines.j1 k line bt214.1 bt219.1 true))))) (fun k => by simp only [haulierlaw06_WordLines.j0]; rw [if_neg (by decide)]) ?_
  rw [Lines_tells text (by omega)]
  simp only [Option.bind_some]
  refine Ev.bind (f := fun k bt219 => _) (refLines_tells text (by omega)) ?_
  have hlen : (resL text.size [] (lin [] text.data.toList)).1.length ≤ 4294967290 := by
    have hsz : text.size = text.data.toList.length := Lib.size_eq text
    cases e : lin [] text.data.toList with
    | none => simp [resL]
    | some ls => have := lin_len _ _ _ e; simp [resL]; omega
  simp only [if_true, bne_self_eq_false]
  refine Ev.step (f := fun k => haulierlaw06_WordLines.l0 k line (resL text.size [] (lin [] text.data.toList)).1 (resL text.size [] (lin [] text.data.toList)).1 (resL text.size [] (lin [] text.data.toList)).1.length 0) (fun k => by simp only [haulierlaw06_WordLines.j1]; rw [if_neg (by decide)]) ?_
  refine lines_same 0 line _ true hlen ?_ _ 0 (Nat.zero_add _)
  have sw := Split_tells' line (by omega)
  have sr := refSplit_tells line (by omega)
  rw [resW_of] at sw
  rw [resR_of] at sr
  have hw : (wsOf (splR line.data.toList)).length ≤ 4294967290 := by
    have := splR_len line.data.toList
    have hsz : line.size = line.data.toList.length := Lib.size_eq line
    omega
  refine Ev.bind (f := fun k bt226 => _) sw ?_
  refine Ev.bind (f := fun k bt231 => _) sr ?_
  refine Ev.bind (f := fun k t236 => _) (same_tells _ hw) ?_
  simp only [if_true]
  exact al
end Go.Proofs.YtaaiamfolbcchaaDoor.Pure

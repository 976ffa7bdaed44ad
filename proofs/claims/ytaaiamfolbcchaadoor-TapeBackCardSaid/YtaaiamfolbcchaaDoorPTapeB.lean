/- Layer 10, plain: what tape.Print, tape.Parse and their references tell. -/
import Derived.Test.YtaaiamfolbcchaaDoorExtG
import Derived.Test.YtaaiamfolbcchaaDoorExtH
import Derived.Test.YtaaiamfolbcchaaDoorX36
import Derived.Test.YtaaiamfolbcchaaDoorX36
import Derived.Test.YtaaiamfolbcchaaDoorX36
import Derived.Test.YtaaiamfolbcchaaDoorPTapeA
namespace Go.Proofs.YtaaiamfolbcchaaDoor.Pure
set_option linter.unusedVariables false
set_option linter.unusedSimpArgs false
open Go.RowKit Go.Proofs.YtaaiamfolbcchaaDoor.Y0 Go.Proofs.YtaaiamfolbcchaaDoor.X1 Go.Proofs.YtaaiamfolbcchaaDoor.X2 Go.Proofs.YtaaiamfolbcchaaDoor.X3 Go.Proofs.YtaaiamfolbcchaaDoor.Ext Go.Proofs.YtaaiamfolbcchaaDoorW.PrintWords Go.Proofs.YtaaiamfolbcchaaDoorW.PrintLast Go.Proofs.YtaaiamfolbcchaaDoorW.PrintMore

def lineOf (r : Rec) : List UInt8 := lineL r.f0 r.f1 r.f2
def printL (l : List Rec) : List UInt8 := unl (l.map lineOf)
def printR (l : List Rec) : ByteArray × Int := if (chk none 0 l).2 = 0 then (mk (printL l), 0) else (mk [], (chk none 0 l).2)
theorem chk_all : ∀ (l : List Rec) (p : Option Int) (i : Nat), (chk p i l).2 = 0 → ∀ r ∈ l, faultR r.f0 r.f1 r.f2 = 0
  | [], _, _, _ => fun r hr => by cases hr
  | r :: rs, p, i, h => by
    unfold chk at h
    by_cases hf : faultR r.f0 r.f1 r.f2 = 0
    · rw [if_pos hf] at h
      have key : ∀ q, (chk q (i + 1) rs).2 = 0 → ∀ x ∈ r :: rs, faultR x.f0 x.f1 x.f2 = 0 := fun q hq x hx => by
        rcases List.mem_cons.1 hx with rfl | hx
        · exact hf
        · exact chk_all rs q (i + 1) hq x hx
      cases p with
      | none => exact key _ h
      | some e =>
        simp only at h
        split at h
        · exact absurd h (show ¬ ((5 : Int) = 0) by decide)
        · split at h
          · exact absurd h (show ¬ ((6 : Int) = 0) by decide)
          · exact key _ h
    · rw [if_neg hf] at h
      exact absurd h hf
theorem line_len {r : Rec} (h : faultR r.f0 r.f1 r.f2 = 0) : (lineOf r).length ≤ 43 := by
  obtain ⟨h1, h2, h3, _⟩ := faultR_ok h
  have := toldL_len r.f1 r.f2 ⟨by omega, by omega⟩ ⟨by omega, by omega⟩
  unfold lineOf lineL
  simp only [List.length_cons]
  omega
theorem nl_text (x : List UInt8) : (mk x ++ (⟨#[10]⟩ : ByteArray)) = mk (x ++ [10]) := append_mk x [10]
theorem printL_cons (acc : List UInt8) (r : Rec) (rs : List Rec) : acc ++ (lineOf r ++ [10]) ++ printL rs = acc ++ printL (r :: rs) := by
  unfold printL
  rw [List.map_cons, unl_cons]
  simp
theorem recprint_loop (l : List Rec) (hl : l.length ≤ 2000) (hok : ∀ r ∈ l, faultR r.f0 r.f1 r.f2 = 0) : ∀ (rest : List Rec) (i : Nat) (acc : List UInt8), l.drop i = rest → acc.length ≤ i * 44 →
    Ev (fun k => tape_Print.l0 k l (i : Int) acc) (mk (acc ++ printL rest), 0) := by
  intro rest
  induction rest with
  | nil =>
    intro i acc hd ha
    have hi : l.length ≤ i := by simpa using hd
    exact Ev.step (f := fun _ => some (mk (acc ++ printL []), 0)) (fun k => by simp only [tape_Print.l0]; rw [if_neg (by omega), show acc ++ printL [] = acc by simp [printL, unl]]; rfl) (Ev.now _)
  | cons r rs ih =>
    intro i acc hd ha
    obtain ⟨e1, h1, h2⟩ := rd_drop hd
    have hf := hok r (List.mem_of_mem_drop (hd ▸ List.mem_cons_self))
    have hlen := line_len hf
    have c1 : (i : Int) < (l.length : Int) := by omega
    have c2 : (0 : Int) ≤ (i : Int) := by omega
    have e3 : wrap64 ((i : Int) + 1) = ((i + 1 : Nat) : Int) := by unfold wrap64; omega
    refine Ev.step (f := fun k => (tape_Line.f k r.f0 r.f1 r.f2).bind fun t => if t.2 = 0 then (if t.1.size < 1000000 then (if acc.length < 1000000 then tape_Print.l0 k l ((i + 1 : Nat) : Int) (acc ++ (t.1 ++ (⟨#[10]⟩ : ByteArray)).data.toList) else none) else none) else some (⟨#[]⟩, t.2)) (fun k => by simp only [tape_Print.l0]; rw [if_pos c1, if_pos c2, e1]; simp only [e3]) ?_
    refine Ev.bind (f := fun k t => _) (Line_rec _ _ _) ?_
    unfold lineR
    have c8 : (lineL r.f0 r.f1 r.f2).length < 1000000 := by have : (lineL r.f0 r.f1 r.f2).length ≤ 43 := hlen; omega
    have c9 : acc.length < 1000000 := by omega
    simp only [if_pos hf, if_true, size_mk, if_pos c8, if_pos c9, nl_text, data_mk]
    rw [← printL_cons]
    exact ih (i + 1) _ h2 (by have : (lineL r.f0 r.f1 r.f2).length ≤ 43 := hlen; simp; omega)
theorem Print_recs (l : List Rec) (hl : l.length ≤ 2000) : Ev (fun k => tape_Print.f k l) (printR l) := by
  unfold tape_Print.f printR
  refine Ev.bind (f := fun k t => _) (Check_tells l (by omega)) ?_
  by_cases h : (chk none 0 l).2 = 0
  · simp only [if_pos h]
    exact recprint_loop l hl (chk_all l none 0 h) l 0 [] rfl (by simp)
  · simp only [if_neg h]
    exact Ev.now _
theorem refrecprint_loop (l : List Rec) (hl : l.length ≤ 2000) (hok : ∀ r ∈ l, faultR r.f0 r.f1 r.f2 = 0) : ∀ (rest : List Rec) (i : Nat) (acc : List UInt8), l.drop i = rest → acc.length ≤ i * 44 →
    Ev (fun k => haulierref10_Print.l0 k l (mk acc) (i : Int)) (mk (acc ++ printL rest), 0) := by
  intro rest
  induction rest with
  | nil =>
    intro i acc hd ha
    have hi : l.length ≤ i := by simpa using hd
    exact Ev.step (f := fun _ => some (mk (acc ++ printL []), 0)) (fun k => by simp only [haulierref10_Print.l0]; rw [if_neg (by omega), show acc ++ printL [] = acc by simp [printL, unl]]) (Ev.now _)
  | cons r rs ih =>
    intro i acc hd ha
    obtain ⟨e1, h1, h2⟩ := rd_drop hd
    have hf := hok r (List.mem_of_mem_drop (hd ▸ List.mem_cons_self))
    have hlen : (lineL r.f0 r.f1 r.f2).length ≤ 43 := line_len hf
    have c1 : (i : Int) < (l.length : Int) := by omega
    have c2 : (0 : Int) ≤ (i : Int) := by omega
    have e3 : wrap64 ((i : Int) + 1) = ((i + 1 : Nat) : Int) := by unfold wrap64; omega
    refine Ev.step (f := fun k => (haulierref10_Line.f k r.f0 r.f1 r.f2).bind fun t => if (mk acc).size + t.1.size ≤ 9223372036854775807 then (if (mk acc ++ t.1).size + 1 ≤ 9223372036854775807 then haulierref10_Print.l0 k l ((mk acc ++ t.1) ++ (⟨#[10]⟩ : ByteArray)) ((i + 1 : Nat) : Int) else none) else none) (fun k => by simp only [haulierref10_Print.l0]; rw [if_pos c1, if_pos c2, e1]; simp only [e3]) ?_
    refine Ev.bind (f := fun k t => _) (refLine_rec _ _ _) ?_
    unfold lineR
    have c8 : acc.length + (lineL r.f0 r.f1 r.f2).length ≤ 9223372036854775807 := by omega
    have c9 : (acc ++ lineL r.f0 r.f1 r.f2).length + 1 ≤ 9223372036854775807 := by rw [List.length_append]; omega
    simp only [if_pos hf, append_mk, size_mk, if_pos c8, if_pos c9, nl_text]
    rw [← printL_cons, List.append_assoc]
    exact ih (i + 1) _ h2 (by simp [lineOf]; omega)
theorem refPrint_recs (l : List Rec) (hl : l.length ≤ 2000) : Ev (fun k => haulierref10_Print.f k l) (printR l) := by
  unfold haulierref10_Print.f printR
  refine Ev.bind (f := fun k t => _) (refCheck_tells l (by omega)) ?_
  by_cases h : (chk none 0 l).2 = 0
  · simp only [if_pos h]
    exact refrecprint_loop l hl (chk_all l none 0 h) l 0 [] rfl (by simp)
  · simp only [if_neg h]
    exact Ev.now _

/-- What is wrong with a record behind others that are right. -/
def stepP (p : Option Int) (r : Rec) : Int := if faultR r.f0 r.f1 r.f2 = 0 then (match p with
  | none => 0
  | some e => if r.f1 > e then 5 else if r.f1 < e then 6 else 0) else faultR r.f0 r.f1 r.f2
def lastP : Option Int → List Rec → Option Int
  | p, [] => p
  | _, r :: rs => lastP (some r.f2) rs
theorem chk_single (p : Option Int) (i : Nat) (r : Rec) : (chk p i [r]).2 = stepP p r := by
  unfold chk stepP
  by_cases hf : faultR r.f0 r.f1 r.f2 = 0
  · rw [if_pos hf, if_pos hf]
    cases p with
    | none => rfl
    | some e =>
      simp only
      split
      · rfl
      · split <;> rfl
  · rw [if_neg hf, if_neg hf]
theorem chk_snoc (r : Rec) : ∀ (l : List Rec) (p : Option Int) (i : Nat), (chk p i l).2 = 0 → (chk p i (l ++ [r])).2 = stepP (lastP p l) r
  | [], p, i, _ => chk_single p i r
  | x :: xs, p, i, h => by
    rw [List.cons_append]
    unfold chk at h ⊢
    unfold lastP
    by_cases hf : faultR x.f0 x.f1 x.f2 = 0
    · rw [if_pos hf] at h ⊢
      cases p with
      | none => exact chk_snoc r xs _ _ h
      | some e =>
        simp only at h ⊢
        split at h
        · exact absurd h (show ¬ ((5 : Int) = 0) by decide)
        · rename_i g1
          rw [if_neg g1]
          split at h
          · exact absurd h (show ¬ ((6 : Int) = 0) by decide)
          · rename_i g2
            rw [if_neg g2]
            exact chk_snoc r xs _ _ h
    · rw [if_neg hf] at h
      exact absurd h hf
theorem lastP_snoc (q : Rec) : ∀ (l : List Rec) (p : Option Int), lastP p (l ++ [q]) = some q.f2
  | [], _ => rfl
  | x :: xs, _ => lastP_snoc q xs _
theorem chk_drop (out : List Rec) (r : Rec) (h : (chk none 0 out).2 = 0) : (chk none 0 ((out ++ [r]).drop (out.length - 1))).2 = stepP (lastP none out) r := by
  rcases List.eq_nil_or_concat out with rfl | ⟨o, q, rfl⟩
  · exact chk_single none 0 r
  · rw [List.concat_eq_append] at h ⊢
    have e : (o ++ [q] ++ [r]).drop ((o ++ [q]).length - 1) = [q, r] := by simp
    rw [e, lastP_snoc]
    have hq := chk_all _ none 0 h q (by simp)
    have := chk_snoc r [q] none 0 (by rw [chk_one, if_pos hq])
    exact this
def recOf (t : Int × Int × Int × Int) : Rec := ⟨t.1, t.2.1, t.2.2.1⟩
def takeR (s : List UInt8) (out : List Rec) : List Rec × Int :=
  if (readW (splR s)).2.2.2 = 0 then (out ++ [recOf (readW (splR s))], stepP (lastP none out) (recOf (readW (splR s)))) else (out, (readW (splR s)).2.2.2)
theorem take_tells (s : List UInt8) (hs : s.length ≤ 4294967280) (out : List Rec) (ho : out.length < 1000000) (hc : (chk none 0 out).2 = 0) : Ev (fun k => tape_take.f k (mk s) out) (takeR s out) := by
  unfold tape_take.f takeR
  have rt := Read_tells (mk s) hs
  rw [data_mk] at rt
  refine Ev.bind (f := fun k t => _) rt ?_
  by_cases h : (readW (splR s)).2.2.2 = 0
  · simp only [if_pos h, if_pos ho]
    have ct := Check_tells ((out ++ [recOf (readW (splR s))]).drop (out.length - 1)) (by simp; omega)
    refine Ev.bind (f := fun k c => some (out ++ [recOf (readW (splR s))], c.2)) ct ?_
    rw [chk_drop _ _ hc]
    exact Ev.now _
  · simp only [if_neg h]
    exact Ev.now _
theorem take_inv {s : List UInt8} {out : List Rec} (hc : (chk none 0 out).2 = 0) (h : (takeR s out).2 = 0) : (chk none 0 (takeR s out).1).2 = 0 ∧ (takeR s out).1 = out ++ [recOf (readW (splR s))] ∧ (readW (splR s)).2.2.2 = 0 := by
  unfold takeR at h ⊢
  by_cases hr : (readW (splR s)).2.2.2 = 0
  · rw [if_pos hr] at h ⊢
    exact ⟨by rw [chk_snoc _ _ _ _ hc]; exact h, rfl, hr⟩
  · rw [if_neg hr] at h
    exact absurd h hr
def gatherR : List (List UInt8) → Int → List Rec → Int × Int × List Rec
  | [], _, out => (0, 0, out)
  | s :: ss, n, out => if (takeR s out).2 = 0 then gatherR ss (n + (s.length + 1 : Nat)) (takeR s out).1 else (n, (takeR s out).2, (takeR s out).1)
def finR (g : Int × Int × List Rec) : List Rec × Int × Int := if g.2.1 = 0 then (g.2.2, 0, 0) else ([], g.1, g.2.1)
theorem gather_loop (ls : List (List UInt8)) (hls : ls.length ≤ 100000) : ∀ (rest : List (List UInt8)) (i : Nat) (n : Int) (out : List Rec), ls.drop i = rest → out.length ≤ i → 0 ≤ n → n + (unl rest).length ≤ 1000000 → (chk none 0 out).2 = 0 →
    Ev (fun k => tape_gather.l0 k (ls.map mk) (i : Int) n out) (gatherR rest n out) := by
  intro rest
  induction rest with
  | nil =>
    intro i n out hd ho hn hs hc
    have hi : ls.length ≤ i := by simpa using hd
    exact Ev.step (f := fun _ => some (0, 0, out)) (fun k => by simp only [tape_gather.l0, List.length_map]; rw [if_neg (by omega)]) (Ev.now _)
  | cons s ss ih =>
    intro i n out hd ho hn hs hc
    obtain ⟨e1, h1, h2⟩ := rdOf_drop hd
    rw [unl_cons] at hs
    simp only [List.length_append, List.length_cons] at hs
    have c1 : (i : Int) < (ls.length : Int) := by omega
    have c2 : (0 : Int) ≤ (i : Int) := by omega
    have e3 : wrap64 ((i : Int) + 1) = ((i + 1 : Nat) : Int) := by unfold wrap64; omega
    have e4 : wrap64 (n + wrap64 ((s.length : Int) + 1)) = n + (s.length + 1 : Nat) := by unfold wrap64; omega
    refine Ev.step (f := fun k => (tape_take.f k (mk s) out).bind fun t => if t.2 = 0 then tape_gather.l0 k (ls.map mk) ((i + 1 : Nat) : Int) (n + (s.length + 1 : Nat)) t.1 else some (n, t.2, t.1)) (fun k => by simp only [tape_gather.l0, List.length_map]; rw [if_pos c1, if_pos c2, e1]; simp only [e3, size_mk, e4]) ?_
    refine Ev.bind (f := fun k t => _) (take_tells s (by omega) out (by omega) hc) ?_
    unfold gatherR
    by_cases h : (takeR s out).2 = 0
    · simp only [if_pos h]
      obtain ⟨i1, i2, _⟩ := take_inv hc h
      exact ih (i + 1) _ _ h2 (by rw [i2]; simp; omega) (by omega) (by omega) i1
    · simp only [if_neg h]
      exact Ev.now _
theorem refparse_loop (ls : List (List UInt8)) (hls : ls.length ≤ 100000) : ∀ (rest : List (List UInt8)) (i : Nat) (n : Int) (out : List Rec), ls.drop i = rest → out.length ≤ i → 0 ≤ n → n + (unl rest).length ≤ 1000000 → (chk none 0 out).2 = 0 →
    Ev (fun k => haulierref10_Parse.l0 k (ls.map mk) n out (i : Int)) (finR (gatherR rest n out)) := by
  intro rest
  induction rest with
  | nil =>
    intro i n out hd ho hn hs hc
    have hi : ls.length ≤ i := by simpa using hd
    exact Ev.step (f := fun _ => some (out, 0, 0)) (fun k => by simp only [haulierref10_Parse.l0, List.length_map]; rw [if_neg (by omega)]) (Ev.now _)
  | cons s ss ih =>
    intro i n out hd ho hn hs hc
    obtain ⟨e1, h1, h2⟩ := rdOf_drop hd
    rw [unl_cons] at hs
    simp only [List.length_append, List.length_cons] at hs
    have c1 : (i : Int) < (ls.length : Int) := by omega
    have c2 : (0 : Int) ≤ (i : Int) := by omega
    have e3 : wrap64 ((i : Int) + 1) = ((i + 1 : Nat) : Int) := by unfold wrap64; omega
    have e4 : wrap64 (wrap64 (n + (s.length : Int)) + 1) = n + (s.length + 1 : Nat) := by unfold wrap64; omega
    have c5 : out.length < 5864062014805 := by omega
    refine Ev.step (f := fun k => (haulierref10_Read.f k (mk s)).bind fun t => if t.2.2.2 = 0 then ((haulierref08_Check.f k (out ++ [recOf t])).bind fun c => if c.2 = 0 then haulierref10_Parse.l0 k (ls.map mk) (n + (s.length + 1 : Nat)) (out ++ [recOf t]) ((i + 1 : Nat) : Int) else some ([], n, c.2)) else some ([], n, t.2.2.2)) (fun k => by
      simp only [haulierref10_Parse.l0, List.length_map]
      rw [if_pos c1, if_pos c2, e1]
      simp only [if_pos c5, e3, size_mk, e4, Option.bind_some]
      rfl) ?_
    have rt := refRead_tells (mk s) (by rw [size_mk]; omega)
    rw [data_mk] at rt
    refine Ev.bind (f := fun k t => _) rt ?_
    unfold gatherR
    by_cases hr : (readW (splR s)).2.2.2 = 0
    · simp only [if_pos hr]
      refine Ev.bind (f := fun k c => _) (refCheck_tells (out ++ [recOf (readW (splR s))]) (by simp; omega)) ?_
      rw [chk_snoc _ _ _ _ hc]
      have et : takeR s out = (out ++ [recOf (readW (splR s))], stepP (lastP none out) (recOf (readW (splR s)))) := by unfold takeR; rw [if_pos hr]
      by_cases h : (takeR s out).2 = 0
      · rw [if_pos h]
        obtain ⟨i1, i2, _⟩ := take_inv hc h
        have h' := h
        rw [et] at h'
        simp only [if_pos h']
        rw [i2] at i1 ⊢
        exact ih (i + 1) _ _ h2 (by simp; omega) (by omega) (by omega) i1
      · rw [if_neg h, et]
        rw [et] at h
        simp only [finR, if_neg h]
        exact Ev.now _
    · have et : takeR s out = (out, (readW (splR s)).2.2.2) := by unfold takeR; rw [if_neg hr]
      simp only [if_neg hr, et, finR]
      exact Ev.now _
def parseR (s : List UInt8) : List Rec × Int × Int := match lin [] s with
  | some ls => finR (gatherR ls 0 [])
  | none => ([], (s.length : Int), 8)
theorem lin_size {s : List UInt8} {ls : List (List UInt8)} (h : lin [] s = some ls) : s = unl ls := by have := lin_back s [] ls h; simpa using this
theorem Parse_recs (s : ByteArray) (hs : s.size ≤ 100000) : Ev (fun k => tape_Parse.f k s) (parseR s.data.toList) := by
  unfold tape_Parse.f parseR
  simp only [Lines_tells s (by omega), Option.bind_some]
  rw [Lib.size_eq s] at hs ⊢
  cases h : lin [] s.data.toList with
  | none => simp only [resL]; exact Ev.now _
  | some ls =>
    have e := lin_size h
    have h1 := unl_len ls
    rw [e] at hs
    simp only [resL, List.nil_append, if_true]
    refine Ev.bind (f := fun k g => _) (gather_loop ls (by omega) ls 0 0 [] rfl (by simp) (by omega) (by omega) rfl) ?_
    unfold finR
    by_cases h2 : (gatherR ls 0 []).2.1 = 0
    · simp only [if_pos h2]; exact Ev.now _
    · simp only [if_neg h2]; exact Ev.now _
theorem refParse_recs (s : ByteArray) (hs : s.size ≤ 100000) : Ev (fun k => haulierref10_Parse.f k s) (parseR s.data.toList) := by
  unfold haulierref10_Parse.f parseR
  refine Ev.bind (f := fun k t => _) (refLines_tells s (by omega)) ?_
  rw [Lib.size_eq s] at hs ⊢
  cases h : lin [] s.data.toList with
  | none => simp only [resL]; exact Ev.now _
  | some ls =>
    have e := lin_size h
    have h1 := unl_len ls
    rw [e] at hs
    simp only [resL, List.nil_append, if_true]
    exact refparse_loop ls (by omega) ls 0 0 [] rfl (by simp) (by omega) (by omega) rfl
theorem same_loop (l : List Rec) (hl : l.length ≤ 4294967280) : ∀ (rest : List Rec) (i : Nat), l.drop i = rest → Ev (fun k => haulierref08_Same.l0 k l l (i : Int)) true := by
  intro rest
  induction rest with
  | nil =>
    intro i hd
    have hi : l.length ≤ i := by simpa using hd
    exact Ev.step (f := fun _ => some true) (fun k => by simp only [haulierref08_Same.l0]; rw [if_neg (by omega)]) (Ev.now _)
  | cons r rs ih =>
    intro i hd
    obtain ⟨e1, h1, h2⟩ := rd_drop hd
    have c1 : (i : Int) < (l.length : Int) := by omega
    have c2 : (0 : Int) ≤ (i : Int) := by omega
    have e3 : wrap64 ((i : Int) + 1) = ((i + 1 : Nat) : Int) := by unfold wrap64; omega
    exact Ev.step (f := fun k => haulierref08_Same.l0 k l l ((i + 1 : Nat) : Int)) (fun k => by simp only [haulierref08_Same.l0]; rw [if_pos c1, if_pos c2, if_pos c1, e3, if_neg (by simp)]) (ih (i + 1) h2)
theorem Same_recs (l : List Rec) (hl : l.length ≤ 4294967280) : Ev (fun k => haulierref08_Same.f k l l) true := by
  unfold haulierref08_Same.f
  exact Ev.congr (fun k => by rw [if_pos rfl]; rfl) (same_loop l hl l 0 rfl)
end Go.Proofs.YtaaiamfolbcchaaDoor.Pure

/- What functions tell of meters: the program's. No condition. -/
import Derived.Test.YtieenbjncimikaaGreatDoorBPC
set_option linter.all false
open Go Go.AM Go.Proofs Go.AM.Pl
set_option maxRecDepth 100000
set_option maxHeartbeats 4000000
namespace ZD
structure Mtr where
  now : Int
  acc : Int
  half : Bool
  lie : Int
  dawn : Int
  day : Int
  longers : Int
  split : Bool
  reduces : Int
  sabbath : Int
  brief : Bool
  week : Int
  last : Int
  labour : Int
  deriving DecidableEq
def Mtr.cs (m : Mtr) : List V := [.i m.now, .i m.acc, .b m.half, .i m.lie, .i m.dawn, .i m.day, .i m.longers, .b m.split, .i m.reduces, .i m.sabbath, .b m.brief, .i m.week, .i m.last, .i m.labour]
def Mtr.v (m : Mtr) : V := .agg m.cs
/-- A meter under way: the book, the meter, what was broken. -/
def runC (b : List Int) (m : Mtr) (k : Int) : List V := ints b ++ m.cs ++ [.i k]
@[simp] theorem op_nilCheck {c : Cx} {f lo : Nat} {st : St} {call : Nat → FuncId → List V → H → Option (V × H)} {dst : Option Nat} {x : Operand} : opV c call f lo dst st (.nilCheck x) = match evalE c st x with
    | .lp t o => some (.lp t o, st)
    | .v (.ptr b o) => some (.v (.ptr b o), st)
    | .v (.vptr cs) => some (.v (.vptr cs), st)
    | .v (.fn (.func g) a b) => some (.v (.fn (.func g) a b), st)
    | _ => none := rfl
@[simp] theorem op_makeFunc {c : Cx} {f lo : Nat} {st : St} {call : Nat → FuncId → List V → H → Option (V × H)} {dst : Option Nat} {g : _} {a b : List Operand} : opV c call f lo dst st (.makeFunc g ⟨a⟩ ⟨b⟩) = (evalL c st a).bind fun x => (evalL c st b).bind fun y => some (.v (.fn g x y), st) := by
  simp only [opV]; cases evalL c st a <;> try rfl
@[simp] theorem resultsV_nil {c : Cx} {s : St} : resultsV c s [] = some (.tup []) := rfl
def orI (a c : Int) : Int := IntKind.i64.wrap (BitVec.ofInt 64 a ||| BitVec.ofInt 64 c).toNat
@[simp] theorem or3 {a c : Int} : binOpV cx .or 3 (.i a) (.i c) = some (.i (orI a c)) := rfl
@[simp] theorem rem3 {a c : Int} (h : c ≠ 0) : binOpV cx .rem 3 (.i a) (.i c) = some (.i (a.tmod c)) := by
  have : binS (.i a) (.i c) .rem = some (.i (a.tmod c)) := by simp [binS, bin, V.i, h]
  unfold binOpV; rw [this]
@[simp] theorem sh216 : shuts cx 216 = false := by rfl
@[simp] theorem sh214 : shuts cx 214 = false := by rfl
@[simp] theorem sh215 : shuts cx 215 = false := by rfl
@[simp] theorem sh217 : shuts cx 217 = false := by rfl
@[simp] theorem sh195 : shuts cx 195 = false := by rfl
theorem h_same {h : H} {p : Nat} {C : List V} (hp : cellsAt h p = some C) : h.set p (.cells C) = h := by
  unfold cellsAt at hp
  split at hp
  · rename_i e; cases hp
    obtain ⟨h1, h2⟩ := List.getElem?_eq_some_iff.1 e
    rw [← h2]; exact List.set_getElem_self h1
  · simp at hp
theorem c_same {C : List V} {i : Nat} {v : V} (hp : C[i]? = some v) : C.set i v = C := by
  obtain ⟨h1, h2⟩ := List.getElem?_eq_some_iff.1 hp
  rw [← h2]; exact List.set_getElem_self h1
theorem len_tr {C : List V} (h : C.length = 34) (i : Nat) (hi : i ≤ 34) : (i ≤ C.length) = True := eq_true (by omega)
/-- What is broken, with a clause more if something holds. -/
def orZ (k c : Int) (z : Bool) : Int := if z = true then orI k c else k
theorem s216 {lo p : Nat} {C : List V} {k c : Int} {z : Bool} {h : H} (hp : cellsAt h p = some C) (hn : (34 ≤ C.length) = True) (hC : C[33]? = some (.i k)) (hl : lo ≤ p) : den cx lo 216 [.ptr p 0, .i c, .b z] h = some (.tup [], h.set p (.cells (C.set 33 (.i (orZ k c z))))) := by
  have e1 := c_same hC
  have e2 := h_same hp
  refine den_open (fn := Tryz.f216) (by rfl) (by rfl) (by rfl) (by rfl) (by simp [Tryz.f216]) ?_
  cases z with
  | true =>
    simp (maxSteps := 2000000) (disch := first | omega | (simp; done) | (simp; omega) | assumption) [Tryz.f216, argsE, isC, hp, hC, hn, hl, boxV, boxO, fresh_no, List.filter_cons, setB, aggN, op_build, List.set, foot, Op.operands, opTmps, orZ]
  | false =>
    simp (maxSteps := 2000000) (disch := first | omega | (simp; done) | (simp; omega) | assumption) [Tryz.f216, argsE, isC, orZ, e1, e2]
/-- A week begins. -/
def turnM (b : List Int) (m : Mtr) : Mtr := if 0 < m.now ∧ m.now.tmod (b.getD 18 0) = 0 then { m with last := m.week, week := 0, labour := 0 } else m
theorem runC_len {b : List Int} {m : Mtr} {k : Int} (hb : b.length = 19) : (runC b m k).length = 34 := by simp [runC, Mtr.cs, ints, hb]
theorem s214 {lo p : Nat} {b : List Int} {m : Mtr} {k : Int} {h : H} (hb : b.length = 19) (hz : b.getD 18 0 ≠ 0) (h0 : 0 ≤ m.now) (h1 : m.now ≤ 40320) (hp : cellsAt h p = some (runC b m k)) (hl : lo ≤ p) : den cx lo 214 [.ptr p 0] h = some (.tup [], h.set p (.cells (runC b (turnM b m) k))) := by
  have hn := runC_len (m := m) (k := k) hb
  have n31 := len_tr hn 31 (by omega)
  have n32 := len_tr hn 32 (by omega)
  have n33 := len_tr hn 33 (by omega)
  clear hn
  have e0 : (runC b m k)[19]? = some (.i m.now) := by simp [runC, Mtr.cs, ints, hb]
  have e18 : (runC b m k)[18]? = some (.i (b.getD 18 0)) := by simp [runC, Mtr.cs, ints, hb, List.getD]
  have e11 : (runC b m k)[30]? = some (.i m.week) := by simp [runC, Mtr.cs, ints, hb]
  have hs := h_same hp
  have hbg := cellsAt_lt hp
  have hcs : ∀ X, cellsAt (h.set p (.cells X)) p = some X := fun X => cellsAt_set hbg
  have hf : (((runC b m k).set 31 (.i m.week)).set 30 (.i 0)).set 32 (.i 0) = runC b { m with last := m.week, week := 0, labour := 0 } k := by
    obtain ⟨b0, b1, b2, b3, b4, b5, b6, b7, b8, b9, b10, b11, b12, b13, b14, b15, b16, b17, b18, rfl⟩ := len19 hb
    rfl
  obtain ⟨L, hL⟩ : ∃ L, b.getD 18 0 = L := ⟨_, rfl⟩
  rw [hL] at e18 hz
  obtain ⟨R, hR⟩ : ∃ R, runC b (turnM b m) k = R := ⟨_, rfl⟩
  have hR0 : ¬ (0 < m.now ∧ m.now.tmod L = 0) → R = runC b m k := by intro q; rw [← hR]; unfold turnM; rw [hL, if_neg q]
  have hR1 : (0 < m.now ∧ m.now.tmod L = 0) → R = runC b { m with last := m.week, week := 0, labour := 0 } k := by intro q; rw [← hR]; unfold turnM; rw [hL, if_pos q]
  rw [← hf] at hR1
  rw [hR]; clear hf hR
  obtain ⟨C, hC⟩ : ∃ C, runC b m k = C := ⟨_, rfl⟩
  rw [hC] at hp e0 e18 e11 n31 n32 n33 hR0 hR1 hs
  refine den_open (fn := Tryz.f214) (by rfl) (by rfl) (by rfl) (by rfl) (by simp [Tryz.f214]) ?_
  by_cases q : 0 < m.now
  · by_cases q2 : m.now.tmod L = 0
    · have hR1 := hR1 ⟨q, q2⟩
      simp (maxSteps := 2000000) (disch := first | omega | (simp; done) | (simp; omega) | assumption) [Tryz.f214, argsE, isC, hp, e0, e18, e11, n31, n32, n33, hl, boxV, boxO, fresh_no, List.filter_cons, setB, aggN, op_build, List.set, foot, Op.operands, opTmps, q, q2, hz, hcs]
      exact ⟨indep_of bf214_0 (by rfl), by rw [hR1]⟩
    · have hR0 := hR0 fun z => q2 z.2
      simp (maxSteps := 2000000) (disch := first | omega | (simp; done) | (simp; omega) | assumption) [Tryz.f214, argsE, isC, hp, e0, e18, e11, hl, boxV, boxO, fresh_no, List.filter_cons, setB, aggN, op_build, List.set, foot, Op.operands, opTmps, q, q2, hz]
      exact ⟨indep_of bf214_0 (by rfl), by rw [hR0, hs]⟩
  · have hR0 := hR0 fun z => q z.1
    simp (maxSteps := 2000000) (disch := first | omega | (simp; done) | (simp; omega) | assumption) [Tryz.f214, argsE, isC, hp, e0, e18, e11, hl, boxV, boxO, fresh_no, List.filter_cons, setB, aggN, op_build, List.set, foot, Op.operands, opTmps, q, hz]
    exact ⟨indep_of bf214_0 (by rfl), by rw [hR0, hs]⟩
end ZD
open Go Go.AM Go.Proofs Go.AM.Pl
set_option maxRecDepth 100000
set_option maxHeartbeats 4000000
namespace ZD
def bk (b : List Int) (i : Nat) : Int := b.getD i 0
section
variable {b : List Int} {m : Mtr} {k : Int}

theorem rg19 (hb : b.length = 19) : (runC b m k)[19]? = some (.i m.now) := by simp [runC, Mtr.cs, ints, hb]
theorem rs19 (hb : b.length = 19) {x : Int} : (runC b m k).set 19 (.i x) = runC b { m with now := x } k := by
  obtain ⟨b0, b1, b2, b3, b4, b5, b6, b7, b8, b9, b10, b11, b12, b13, b14, b15, b16, b17, b18, rfl⟩ := len19 hb
  rfl
theorem rg20 (hb : b.length = 19) : (runC b m k)[20]? = some (.i m.acc) := by simp [runC, Mtr.cs, ints, hb]
theorem rs20 (hb : b.length = 19) {x : Int} : (runC b m k).set 20 (.i x) = runC b { m with acc := x } k := by
  obtain ⟨b0, b1, b2, b3, b4, b5, b6, b7, b8, b9, b10, b11, b12, b13, b14, b15, b16, b17, b18, rfl⟩ := len19 hb
  rfl
theorem rg21 (hb : b.length = 19) : (runC b m k)[21]? = some (.b m.half) := by simp [runC, Mtr.cs, ints, hb]
theorem rs21 (hb : b.length = 19) {x : Bool} : (runC b m k).set 21 (.b x) = runC b { m with half := x } k := by
  obtain ⟨b0, b1, b2, b3, b4, b5, b6, b7, b8, b9, b10, b11, b12, b13, b14, b15, b16, b17, b18, rfl⟩ := len19 hb
  rfl
theorem rg22 (hb : b.length = 19) : (runC b m k)[22]? = some (.i m.lie) := by simp [runC, Mtr.cs, ints, hb]
theorem rs22 (hb : b.length = 19) {x : Int} : (runC b m k).set 22 (.i x) = runC b { m with lie := x } k := by
  obtain ⟨b0, b1, b2, b3, b4, b5, b6, b7, b8, b9, b10, b11, b12, b13, b14, b15, b16, b17, b18, rfl⟩ := len19 hb
  rfl
theorem rg23 (hb : b.length = 19) : (runC b m k)[23]? = some (.i m.dawn) := by simp [runC, Mtr.cs, ints, hb]
theorem rs23 (hb : b.length = 19) {x : Int} : (runC b m k).set 23 (.i x) = runC b { m with dawn := x } k := by
  obtain ⟨b0, b1, b2, b3, b4, b5, b6, b7, b8, b9, b10, b11, b12, b13, b14, b15, b16, b17, b18, rfl⟩ := len19 hb
  rfl
theorem rg24 (hb : b.length = 19) : (runC b m k)[24]? = some (.i m.day) := by simp [runC, Mtr.cs, ints, hb]
theorem rs24 (hb : b.length = 19) {x : Int} : (runC b m k).set 24 (.i x) = runC b { m with day := x } k := by
  obtain ⟨b0, b1, b2, b3, b4, b5, b6, b7, b8, b9, b10, b11, b12, b13, b14, b15, b16, b17, b18, rfl⟩ := len19 hb
  rfl
theorem rg25 (hb : b.length = 19) : (runC b m k)[25]? = some (.i m.longers) := by simp [runC, Mtr.cs, ints, hb]
theorem rs25 (hb : b.length = 19) {x : Int} : (runC b m k).set 25 (.i x) = runC b { m with longers := x } k := by
  obtain ⟨b0, b1, b2, b3, b4, b5, b6, b7, b8, b9, b10, b11, b12, b13, b14, b15, b16, b17, b18, rfl⟩ := len19 hb
  rfl
theorem rg26 (hb : b.length = 19) : (runC b m k)[26]? = some (.b m.split) := by simp [runC, Mtr.cs, ints, hb]
theorem rs26 (hb : b.length = 19) {x : Bool} : (runC b m k).set 26 (.b x) = runC b { m with split := x } k := by
  obtain ⟨b0, b1, b2, b3, b4, b5, b6, b7, b8, b9, b10, b11, b12, b13, b14, b15, b16, b17, b18, rfl⟩ := len19 hb
  rfl
theorem rg27 (hb : b.length = 19) : (runC b m k)[27]? = some (.i m.reduces) := by simp [runC, Mtr.cs, ints, hb]
theorem rs27 (hb : b.length = 19) {x : Int} : (runC b m k).set 27 (.i x) = runC b { m with reduces := x } k := by
  obtain ⟨b0, b1, b2, b3, b4, b5, b6, b7, b8, b9, b10, b11, b12, b13, b14, b15, b16, b17, b18, rfl⟩ := len19 hb
  rfl
theorem rg28 (hb : b.length = 19) : (runC b m k)[28]? = some (.i m.sabbath) := by simp [runC, Mtr.cs, ints, hb]
theorem rs28 (hb : b.length = 19) {x : Int} : (runC b m k).set 28 (.i x) = runC b { m with sabbath := x } k := by
  obtain ⟨b0, b1, b2, b3, b4, b5, b6, b7, b8, b9, b10, b11, b12, b13, b14, b15, b16, b17, b18, rfl⟩ := len19 hb
  rfl
theorem rg29 (hb : b.length = 19) : (runC b m k)[29]? = some (.b m.brief) := by simp [runC, Mtr.cs, ints, hb]
theorem rs29 (hb : b.length = 19) {x : Bool} : (runC b m k).set 29 (.b x) = runC b { m with brief := x } k := by
  obtain ⟨b0, b1, b2, b3, b4, b5, b6, b7, b8, b9, b10, b11, b12, b13, b14, b15, b16, b17, b18, rfl⟩ := len19 hb
  rfl
theorem rg30 (hb : b.length = 19) : (runC b m k)[30]? = some (.i m.week) := by simp [runC, Mtr.cs, ints, hb]
theorem rs30 (hb : b.length = 19) {x : Int} : (runC b m k).set 30 (.i x) = runC b { m with week := x } k := by
  obtain ⟨b0, b1, b2, b3, b4, b5, b6, b7, b8, b9, b10, b11, b12, b13, b14, b15, b16, b17, b18, rfl⟩ := len19 hb
  rfl
theorem rg31 (hb : b.length = 19) : (runC b m k)[31]? = some (.i m.last) := by simp [runC, Mtr.cs, ints, hb]
theorem rs31 (hb : b.length = 19) {x : Int} : (runC b m k).set 31 (.i x) = runC b { m with last := x } k := by
  obtain ⟨b0, b1, b2, b3, b4, b5, b6, b7, b8, b9, b10, b11, b12, b13, b14, b15, b16, b17, b18, rfl⟩ := len19 hb
  rfl
theorem rg32 (hb : b.length = 19) : (runC b m k)[32]? = some (.i m.labour) := by simp [runC, Mtr.cs, ints, hb]
theorem rs32 (hb : b.length = 19) {x : Int} : (runC b m k).set 32 (.i x) = runC b { m with labour := x } k := by
  obtain ⟨b0, b1, b2, b3, b4, b5, b6, b7, b8, b9, b10, b11, b12, b13, b14, b15, b16, b17, b18, rfl⟩ := len19 hb
  rfl
theorem rg33 (hb : b.length = 19) : (runC b m k)[33]? = some (.i k) := by simp [runC, Mtr.cs, ints, hb]
theorem rs33 (hb : b.length = 19) {x : Int} : (runC b m k).set 33 (.i x) = runC b m x := by
  obtain ⟨b0, b1, b2, b3, b4, b5, b6, b7, b8, b9, b10, b11, b12, b13, b14, b15, b16, b17, b18, rfl⟩ := len19 hb
  rfl
theorem rb0 (hb : b.length = 19) : (runC b m k)[0]? = some (.i (bk b 0)) := by simp [runC, Mtr.cs, ints, hb, bk, List.getD]
theorem rb1 (hb : b.length = 19) : (runC b m k)[1]? = some (.i (bk b 1)) := by simp [runC, Mtr.cs, ints, hb, bk, List.getD]
theorem rb2 (hb : b.length = 19) : (runC b m k)[2]? = some (.i (bk b 2)) := by simp [runC, Mtr.cs, ints, hb, bk, List.getD]
theorem rb3 (hb : b.length = 19) : (runC b m k)[3]? = some (.i (bk b 3)) := by simp [runC, Mtr.cs, ints, hb, bk, List.getD]
theorem rb4 (hb : b.length = 19) : (runC b m k)[4]? = some (.i (bk b 4)) := by simp [runC, Mtr.cs, ints, hb, bk, List.getD]
theorem rb5 (hb : b.length = 19) : (runC b m k)[5]? = some (.i (bk b 5)) := by simp [runC, Mtr.cs, ints, hb, bk, List.getD]
theorem rb6 (hb : b.length = 19) : (runC b m k)[6]? = some (.i (bk b 6)) := by simp [runC, Mtr.cs, ints, hb, bk, List.getD]
theorem rb7 (hb : b.length = 19) : (runC b m k)[7]? = some (.i (bk b 7)) := by simp [runC, Mtr.cs, ints, hb, bk, List.getD]
theorem rb8 (hb : b.length = 19) : (runC b m k)[8]? = some (.i (bk b 8)) := by simp [runC, Mtr.cs, ints, hb, bk, List.getD]
theorem rb9 (hb : b.length = 19) : (runC b m k)[9]? = some (.i (bk b 9)) := by simp [runC, Mtr.cs, ints, hb, bk, List.getD]
theorem rb10 (hb : b.length = 19) : (runC b m k)[10]? = some (.i (bk b 10)) := by simp [runC, Mtr.cs, ints, hb, bk, List.getD]
theorem rb11 (hb : b.length = 19) : (runC b m k)[11]? = some (.i (bk b 11)) := by simp [runC, Mtr.cs, ints, hb, bk, List.getD]
theorem rb12 (hb : b.length = 19) : (runC b m k)[12]? = some (.i (bk b 12)) := by simp [runC, Mtr.cs, ints, hb, bk, List.getD]
theorem rb13 (hb : b.length = 19) : (runC b m k)[13]? = some (.i (bk b 13)) := by simp [runC, Mtr.cs, ints, hb, bk, List.getD]
theorem rb14 (hb : b.length = 19) : (runC b m k)[14]? = some (.i (bk b 14)) := by simp [runC, Mtr.cs, ints, hb, bk, List.getD]
theorem rb15 (hb : b.length = 19) : (runC b m k)[15]? = some (.i (bk b 15)) := by simp [runC, Mtr.cs, ints, hb, bk, List.getD]
theorem rb16 (hb : b.length = 19) : (runC b m k)[16]? = some (.i (bk b 16)) := by simp [runC, Mtr.cs, ints, hb, bk, List.getD]
theorem rb17 (hb : b.length = 19) : (runC b m k)[17]? = some (.i (bk b 17)) := by simp [runC, Mtr.cs, ints, hb, bk, List.getD]
theorem rb18 (hb : b.length = 19) : (runC b m k)[18]? = some (.i (bk b 18)) := by simp [runC, Mtr.cs, ints, hb, bk, List.getD]
theorem rl (hb : b.length = 19) {i : Nat} (hi : i ≤ 34) : (i ≤ (runC b m k).length) = True := len_tr (runC_len hb) i hi
theorem rx216 {lo p : Nat} {c : Int} {z : Bool} {h : H} (hb : b.length = 19) (hbg : p < h.length) (hl : lo ≤ p) : den cx lo 216 [.ptr p 0, .i c, .b z] (h.set p (.cells (runC b m k))) = some (.tup [], h.set p (.cells (runC b m (orZ k c z)))) := by
  rw [s216 (cellsAt_set hbg) (rl hb (by omega)) (rg33 hb) hl, rs33 hb, List.set_set]
end
/-- Fields of a meter that may be. -/
def MB (m : Mtr) : Prop := 0 ≤ m.now ∧ m.now ≤ 40320 ∧ 0 ≤ m.acc ∧ m.acc ≤ m.now ∧ 0 ≤ m.lie ∧ m.lie ≤ m.now ∧ 0 ≤ m.dawn ∧ m.dawn ≤ m.now ∧ 0 ≤ m.day ∧ m.day ≤ m.now ∧ 0 ≤ m.longers ∧ m.longers ≤ m.now ∧ 0 ≤ m.reduces ∧ m.reduces ≤ m.now ∧ 0 ≤ m.sabbath ∧ m.sabbath ≤ m.now ∧ 0 ≤ m.week ∧ m.week ≤ m.now ∧ 0 ≤ m.last ∧ m.last ≤ m.now ∧ 0 ≤ m.labour ∧ m.labour ≤ m.now
/-- The same, within a minute. -/
def MC (m : Mtr) : Prop := 0 ≤ m.now ∧ m.now ≤ 40320 ∧ 0 ≤ m.acc ∧ m.acc ≤ m.now ∧ 0 ≤ m.lie ∧ m.lie ≤ m.now ∧ 0 ≤ m.dawn ∧ m.dawn ≤ m.now ∧ 0 ≤ m.day ∧ m.day ≤ m.now ∧ 0 ≤ m.longers ∧ m.longers ≤ m.now ∧ 0 ≤ m.reduces ∧ m.reduces ≤ m.now + 1 ∧ 0 ≤ m.sabbath ∧ m.sabbath ≤ m.now ∧ 0 ≤ m.week ∧ m.week ≤ m.now ∧ 0 ≤ m.last ∧ m.last ≤ m.now ∧ 0 ≤ m.labour ∧ m.labour ≤ m.now
theorem MB.c {m : Mtr} (h : MB m) : MC m := by unfold MB at h; unfold MC; omega
def BB (b : List Int) : Prop := b.length = 19 ∧ ∀ i, 0 ≤ bk b i ∧ bk b i ≤ 40320
def drvM (b : List Int) (m : Mtr) : Mtr := { m with acc := m.acc + 1, day := m.day + 1, week := m.week + 1, longers := if m.day + 1 = bk b 4 + 1 then m.longers + 1 else m.longers }
def drvK (b : List Int) (m : Mtr) (k : Int) : Int :=
  orZ (orZ (orZ (orZ (if m.day + 1 = bk b 4 + 1 then orZ k 4 (decide (bk b 6 < m.longers + 1)) else k) 1 (decide (bk b 0 < m.acc + 1))) 2 (decide (bk b 5 < m.day + 1))) 8 (decide (bk b 15 < m.week + 1))) 16 (decide (bk b 16 < m.week + 1 + m.last))
theorem s217 {lo p : Nat} {b : List Int} {m : Mtr} {k : Int} {h : H} (hB : BB b) (hM : MC m) (hp : cellsAt h p = some (runC b m k)) (hl : lo ≤ p) : den cx lo 217 [.ptr p 0] h = some (.tup [], h.set p (.cells (runC b (drvM b m) (drvK b m k)))) := by
  obtain ⟨hb, hB⟩ := hB
  have hbg := cellsAt_lt hp
  have hcs : ∀ X, cellsAt (h.set p (.cells X)) p = some X := fun X => cellsAt_set hbg
  have e216 := fun lo' m k c z (hl' : lo' ≤ p) => rx216 (lo := lo') (b := b) (m := m) (k := k) (c := c) (z := z) (h := h) hb hbg hl'
  have b4 := hB 4
  have b0 := hB 0
  unfold MC at hM
  refine den_open (fn := Tryz.f217) (by rfl) (by rfl) (by rfl) (by rfl) (by simp [Tryz.f217]) ?_
  by_cases q : m.day + 1 = bk b 4 + 1
  · have hf : drvM b m = { m with acc := m.acc + 1, day := m.day + 1, week := m.week + 1, longers := m.longers + 1 } := by unfold drvM; rw [if_pos q]
    have hk : drvK b m k = orZ (orZ (orZ (orZ (orZ k 4 (decide (bk b 6 < m.longers + 1))) 1 (decide (bk b 0 < m.acc + 1))) 2 (decide (bk b 5 < m.day + 1))) 8 (decide (bk b 15 < m.week + 1))) 16 (decide (bk b 16 < m.week + 1 + m.last)) := by unfold drvK; rw [if_pos q]
    rw [hf, hk]
    have q' : m.day = bk b 4 := by omega
    simp (maxSteps := 2000000) (disch := first | omega | (simp; done) | (simp; omega) | assumption) [Tryz.f217, argsE, isC, hp, hl, boxV, boxO, fresh_no, List.filter_cons, setB, aggN, op_build, List.set, foot, Op.operands, opTmps, q', hcs, rl hb, e216, wrap64, rg19 hb, rg20 hb, rg21 hb, rg22 hb, rg23 hb, rg24 hb, rg25 hb, rg26 hb, rg27 hb, rg28 hb, rg29 hb, rg30 hb, rg31 hb, rg32 hb, rg33 hb, rs19 hb, rs20 hb, rs21 hb, rs22 hb, rs23 hb, rs24 hb, rs25 hb, rs26 hb, rs27 hb, rs28 hb, rs29 hb, rs30 hb, rs31 hb, rs32 hb, rs33 hb, rb0 hb, rb1 hb, rb2 hb, rb3 hb, rb4 hb, rb5 hb, rb6 hb, rb7 hb, rb8 hb, rb9 hb, rb10 hb, rb11 hb, rb12 hb, rb13 hb, rb14 hb, rb15 hb, rb16 hb, rb17 hb, rb18 hb]
    exact ⟨indep_of bf217_4 (by rfl), indep_of bf217_6 (by rfl), indep_of bf217_7 (by rfl), indep_of bf217_8 (by rfl), indep_of bf217_9 (by rfl), indep_of bf217_10 (by rfl)⟩
  · have hf : drvM b m = { m with acc := m.acc + 1, day := m.day + 1, week := m.week + 1 } := by unfold drvM; rw [if_neg q]
    have hk : drvK b m k = orZ (orZ (orZ (orZ k 1 (decide (bk b 0 < m.acc + 1))) 2 (decide (bk b 5 < m.day + 1))) 8 (decide (bk b 15 < m.week + 1))) 16 (decide (bk b 16 < m.week + 1 + m.last)) := by unfold drvK; rw [if_neg q]
    rw [hf, hk]
    have q' : ¬ m.day = bk b 4 := by omega
    simp (maxSteps := 2000000) (disch := first | omega | (simp; done) | (simp; omega) | assumption) [Tryz.f217, argsE, isC, hp, hl, boxV, boxO, fresh_no, List.filter_cons, setB, aggN, op_build, List.set, foot, Op.operands, opTmps, q', hcs, rl hb, e216, wrap64, rg19 hb, rg20 hb, rg21 hb, rg22 hb, rg23 hb, rg24 hb, rg25 hb, rg26 hb, rg27 hb, rg28 hb, rg29 hb, rg30 hb, rg31 hb, rg32 hb, rg33 hb, rs19 hb, rs20 hb, rs21 hb, rs22 hb, rs23 hb, rs24 hb, rs25 hb, rs26 hb, rs27 hb, rs28 hb, rs29 hb, rs30 hb, rs31 hb, rs32 hb, rs33 hb, rb0 hb, rb1 hb, rb2 hb, rb3 hb, rb4 hb, rb5 hb, rb6 hb, rb7 hb, rb8 hb, rb9 hb, rb10 hb, rb11 hb, rb12 hb, rb13 hb, rb14 hb, rb15 hb, rb16 hb, rb17 hb, rb18 hb]
    exact ⟨indep_of bf217_4 (by rfl), indep_of bf217_7 (by rfl), indep_of bf217_8 (by rfl), indep_of bf217_9 (by rfl), indep_of bf217_10 (by rfl)⟩
end ZD
open Go Go.AM Go.Proofs Go.AM.Pl
set_option maxRecDepth 100000
set_option maxHeartbeats 4000000
namespace ZD
theorem bks {b : List Int} (hb : b.length = 19) : ∃ B, bkv b = .agg B ∧ (19 ≤ B.length) = True ∧ B.take 19 = B ∧ fgL B = B ∧ ∀ i, i < 19 → B[i]? = some (.i (bk b i)) :=
  ⟨ints b, rfl, eq_true (by simp [ints, hb]), List.take_of_length_le (by simp [ints, hb]), by simp, fun i hi => by simp [ints, bk, List.getD, hb, hi]⟩
/-- What a spell of rest is worth. -/
structure Wth where
  brk : Bool
  half : Bool
  part : Bool
  daily : Bool
  reduced : Bool
  weekly : Bool
  brief : Bool
def Wth.v (w : Wth) : V := .agg [.b w.brk, .b w.half, .b w.part, .b w.daily, .b w.reduced, .b w.weekly, .b w.brief]
def spW (b : List Int) (f t dawn : Int) (half split : Bool) : Wth :=
  let long := t - f
  let inn := if dawn + bk b 11 < t then dawn + bk b 11 - f else long
  let weekly := decide (bk b 13 ≤ long)
  let daily := decide (bk b 8 ≤ long)
  let brk := decide (bk b 1 ≤ long) || (half && decide (bk b 3 ≤ long))
  ⟨brk, !brk && (half || decide (bk b 2 ≤ long)), !daily && decide (bk b 10 ≤ long), daily, daily && !weekly && !split && decide (inn < bk b 7), weekly, weekly && decide (long < bk b 12)⟩
theorem s248 {lo p : Nat} {n x : Int} {h : H} (hp : cellsAt h p = some [.i x]) : den cx lo 248 [.i n, .ptr p 0] h = some (.b (decide (n ≤ x)), h) := by
  refine den_pure (fn := Tryz.f248) (by rfl) (by rfl) (by rfl) (by rfl) (by simp [Tryz.f248]) (by simp) ?_
  simp (maxSteps := 2000000) (disch := first | omega | (simp; done) | (simp; omega) | assumption) [Tryz.f248, argsE, isC, hp]
theorem s247 {lo : Nat} {b : List Int} {f t d : Int} {h : H} (hb : b.length = 19) (ho : okB b = true) (h1 : f < t) (h2 : 0 ≤ f) (h3 : t ≤ 40320) (h4 : 0 ≤ d) (h5 : d ≤ f) : den cx lo 247 [bkv b, .agg [.i f, .i t], .i d] h = some (.i 0, h) := by
  have e := fun lo => s80 (lo := lo) (h := h) hb
  obtain ⟨B, hB, n19, t19, f19, _⟩ := bks hb
  simp only [ho, if_true] at e
  refine den_pure (fn := Tryz.f247) (by rfl) (by rfl) (by rfl) (by rfl) (by simp [Tryz.f247]) (by simp) ?_
  rw [hB] at e ⊢
  simp (maxSteps := 2000000) (disch := first | omega | (simp; done) | (simp; omega) | assumption) [Tryz.f247, argsE, isC, boxV, boxO, fresh_no, List.filter_cons, setB, aggN, op_build, List.set, e, n19, t19, f19, show ¬ t ≤ f by omega, show ¬ f < 0 by omega, show ¬ 40320 < t by omega, show ¬ d < 0 by omega, show ¬ f < d by omega]
theorem okB_ord {b : List Int} (hb : b.length = 19) (h : okB b = true) : (bk b 1 ≤ bk b 10 ∧ bk b 10 ≤ bk b 8 ∧ bk b 8 ≤ bk b 7 ∧ bk b 7 ≤ bk b 13 ∧ bk b 13 ≤ bk b 12 ∧ bk b 8 < bk b 11) ∧ (∀ i, 0 ≤ bk b i ∧ bk b i ≤ 40320) ∧ 1 ≤ bk b 18 := by
  obtain ⟨b0, b1, b2, b3, b4, b5, b6, b7, b8, b9, b10, b11, b12, b13, b14, b15, b16, b17, b18, rfl⟩ := len19 hb
  simp [okB, wit, wit1, ordB] at h
  refine ⟨by simp [bk]; omega, fun i => ?_, by simp [bk]; omega⟩
  match i with
  | 0 | 1 | 2 | 3 | 4 | 5 | 6 | 7 | 8 | 9 | 10 | 11 | 12 | 13 | 14 | 15 | 16 | 17 | 18 => simp [bk]; omega
  | n + 19 => simp [bk]
end ZD
open Go Go.AM Go.Proofs Go.AM.Pl
set_option maxRecDepth 100000
set_option maxHeartbeats 4000000
namespace ZD
theorem newO3 {l : List V} : newO cx 3 l = .cells l := rfl
@[simp] theorem op_min {c : Cx} {f lo : Nat} {st : St} {call : Nat → FuncId → List V → H → Option (V × H)} {dst : Option Nat} {xs : List Operand} {ts : Array TypeId} : opV c call f lo dst st (.call ⟨.builtin .min, ⟨xs⟩, ts⟩) = (evalL c st xs).bind fun l => (minmax false l).map fun v => (.v v, st) := by
  simp only [opV]; cases evalL c st xs <;> rfl
theorem min_int {x y : Int} : minmax false [.i x, .i y] = some (.i (if y < x then y else x)) := by simp [minmax, mm2, V.i]
theorem s244 {lo : Nat} {b : List Int} {f t d : Int} {half split : Bool} {h : H} (hb : b.length = 19) (ho : okB b = true) (h1 : f < t) (h2 : 0 ≤ f) (h3 : t ≤ 40320) (h4 : 0 ≤ d) (h5 : d ≤ f) : den cx lo 244 [bkv b, .agg [.i f, .i t], .i d, .b half, .b split] h = some (.tup [(spW b f t d half split).v, .i 0], h) := by
  have e247 := fun lo => s247 (lo := lo) (h := h) hb ho h1 h2 h3 h4 h5
  obtain ⟨B, hBv, n19, t19, f19, hBi⟩ := bks hb
  obtain ⟨⟨o1, o2, o3, o4, o5, o6⟩, hB, _⟩ := okB_ord hb ho
  have i1 := hBi 1 (by omega)
  have i2 := hBi 2 (by omega)
  have i3 := hBi 3 (by omega)
  have i7 := hBi 7 (by omega)
  have i8 := hBi 8 (by omega)
  have i10 := hBi 10 (by omega)
  have i11 := hBi 11 (by omega)
  have i12 := hBi 12 (by omega)
  have i13 := hBi 13 (by omega)
  have b11 := hB 11
  clear hBi hB
  refine den_pure (fn := Tryz.f244) (by rfl) (by rfl) (by rfl) (by rfl) (by simp [Tryz.f244]) (by simp) ?_
  rw [hBv] at e247 ⊢
  have w1 : IntKind.i64.wrap (t - f) = t - f := wrap64 (by omega) (by omega)
  have w2 : IntKind.i64.wrap (d + bk b 11) = d + bk b 11 := wrap64 (by omega) (by omega)
  obtain ⟨x, hx⟩ : ∃ x, (if d + bk b 11 < t then d + bk b 11 - f else t - f) = x := ⟨_, rfl⟩
  have fin : spW b f t d half split = ⟨decide (bk b 1 ≤ t - f) || (half && decide (bk b 3 ≤ t - f)), !(decide (bk b 1 ≤ t - f) || (half && decide (bk b 3 ≤ t - f))) && (half || decide (bk b 2 ≤ t - f)), !decide (bk b 8 ≤ t - f) && decide (bk b 10 ≤ t - f), decide (bk b 8 ≤ t - f), decide (bk b 8 ≤ t - f) && !decide (bk b 13 ≤ t - f) && !split && decide (x < bk b 7), decide (bk b 13 ≤ t - f), decide (bk b 13 ≤ t - f) && decide (t - f < bk b 12)⟩ := by
    rw [← hx]; rfl
  rw [fin]; clear fin
  simp only [Wth.v]
  have w3 : IntKind.i64.wrap x = x := by rw [← hx]; split <;> exact wrap64 (by omega) (by omega)
  have hx2 : (if d + bk b 11 < t then d + bk b 11 else t) - f = x := by rw [← hx]; split <;> rfl
  clear h1 h2 h3 h4 h5 b11 hx
  obtain ⟨L, hL⟩ : ∃ L, t - f = L := ⟨_, rfl⟩
  rw [hL] at w1 ⊢
  have hgd : ∀ a c : O, (h ++ [a]).set h.length c = h ++ [c] := fun a c => by rw [List.set_append_right _ _ (by simp)]; simp
  have e248 := fun lo' n => s248 (lo := lo') (p := h.length) (n := n) (x := L) (h := h ++ [.cells [.i L]]) (by simp)
  by_cases c1 : bk b 13 ≤ L
  · have c2 : bk b 8 ≤ L := by omega
    have c3 : bk b 1 ≤ L := by omega
    clear o1 o2 o3 o4 o5 o6
    simp (maxSteps := 2000000) (disch := first | omega | (simp; done) | (simp; omega) | assumption) [Tryz.f244, argsE, isC, boxV, boxO, fresh_no, List.filter_cons, setB, aggN, op_build, List.set, n19, t19, f19, i1, i2, i3, i7, i8, i10, i11, i12, i13, w1, w2, hL, c1, c2, c3, Cl1_tup, Cl1_agg, Cl1_vs, e247, e248, push, newO3, hgd]
    by_cases z : L < bk b 12
    · simp [z]
    · simp [z]; omega
  by_cases c2 : bk b 8 ≤ L
  · have c3 : bk b 1 ≤ L := by omega
    clear o1 o2 o3 o4 o5 o6
    cases split <;> simp (maxSteps := 2000000) (disch := first | omega | (simp; done) | (simp; omega) | assumption) [Tryz.f244, argsE, isC, boxV, boxO, fresh_no, List.filter_cons, setB, aggN, op_build, List.set, n19, t19, f19, i1, i2, i3, i7, i8, i10, i11, i12, i13, w1, w2, w3, hL, hx2, c1, c2, c3, Cl1_tup, Cl1_agg, Cl1_vs, e247, e248, push, newO3, hgd, min_int]
  clear o1 o2 o3 o4 o5 o6
  by_cases c3 : bk b 1 ≤ L
  · simp (maxSteps := 2000000) (disch := first | omega | (simp; done) | (simp; omega) | assumption) [Tryz.f244, argsE, isC, boxV, boxO, fresh_no, List.filter_cons, setB, aggN, op_build, List.set, n19, t19, f19, i1, i2, i3, i7, i8, i10, i11, i12, i13, w1, w2, hL, c1, c2, c3, Cl1_tup, Cl1_agg, Cl1_vs, e247, e248, push, newO3, hgd, foot, Op.operands, opTmps]
    exact indep_of bf244_11 (by rfl)
  cases half with
  | false =>
    simp (maxSteps := 2000000) (disch := first | omega | (simp; done) | (simp; omega) | assumption) [Tryz.f244, argsE, isC, boxV, boxO, fresh_no, List.filter_cons, setB, aggN, op_build, List.set, n19, t19, f19, i1, i2, i3, i7, i8, i10, i11, i12, i13, w1, w2, hL, c1, c2, c3, Cl1_tup, Cl1_agg, Cl1_vs, e247, e248, push, newO3, hgd, foot, Op.operands, opTmps]
    exact indep_of bf244_11 (by rfl)
  | true =>
    by_cases c4 : bk b 3 ≤ L
    · simp (maxSteps := 2000000) (disch := first | omega | (simp; done) | (simp; omega) | assumption) [Tryz.f244, argsE, isC, boxV, boxO, fresh_no, List.filter_cons, setB, aggN, op_build, List.set, n19, t19, f19, i1, i2, i3, i7, i8, i10, i11, i12, i13, w1, w2, hL, c1, c2, c3, c4, Cl1_tup, Cl1_agg, Cl1_vs, e247, e248, push, newO3, hgd, foot, Op.operands, opTmps]
      exact indep_of bf244_11 (by rfl)
    · simp (maxSteps := 2000000) (disch := first | omega | (simp; done) | (simp; omega) | assumption) [Tryz.f244, argsE, isC, boxV, boxO, fresh_no, List.filter_cons, setB, aggN, op_build, List.set, n19, t19, f19, i1, i2, i3, i7, i8, i10, i11, i12, i13, w1, w2, hL, c1, c2, c3, c4, Cl1_tup, Cl1_agg, Cl1_vs, e247, e248, push, newO3, hgd, foot, Op.operands, opTmps]
      exact indep_of bf244_11 (by rfl)
end ZD
open Go Go.AM Go.Proofs Go.AM.Pl
set_option maxRecDepth 100000
set_option maxHeartbeats 4000000
namespace ZD
theorem rt19 {b : List Int} {m : Mtr} {k : Int} (hb : b.length = 19) : (runC b m k).take 19 = ints b := by
  have : (ints b).length = 19 := by simp [ints, hb]
  unfold runC; rw [List.append_assoc, List.take_append_of_le_length (by omega), List.take_of_length_le (by omega)]
theorem rt33 {b : List Int} {m : Mtr} {k : Int} (hb : b.length = 19) : ((runC b m k).drop 19).take 14 = m.cs := by
  have : (ints b).length = 19 := by simp [ints, hb]
  unfold runC; rw [List.append_assoc, List.drop_append_of_le_length (by omega), List.drop_of_length_le (by omega)]; simp [Mtr.cs]
/-- Where a spell of rest began. -/
def worM (b : List Int) (m : Mtr) : Wth := spW b (m.now - m.lie) m.now (if m.now - m.lie < m.dawn then m.now - m.lie else m.dawn) m.half m.split
theorem s233 {lo p : Nat} {b : List Int} {m : Mtr} {k : Int} {h : H} (hb : b.length = 19) (ho : okB b = true) (hM : MB m) (hlie : 0 < m.lie) (hp : cellsAt h p = some (runC b m k)) : den cx lo 233 [.ptr p 0] h = some ((worM b m).v, h) := by
  unfold MB at hM
  obtain ⟨d, hd⟩ : ∃ d, (if m.now - m.lie < m.dawn then m.now - m.lie else m.dawn) = d := ⟨_, rfl⟩
  have hd2 : 0 ≤ d ∧ d ≤ m.now - m.lie := by rw [← hd]; split <;> omega
  have e244 := fun lo => s244 (lo := lo) (f := m.now - m.lie) (t := m.now) (d := d) (half := m.half) (split := m.split) (h := h) hb ho (by omega) (by omega) (by omega) hd2.1 hd2.2
  have hw : worM b m = spW b (m.now - m.lie) m.now d m.half m.split := by unfold worM; rw [hd]
  rw [hw]
  obtain ⟨w, hw⟩ : ∃ w, spW b (m.now - m.lie) m.now d m.half m.split = w := ⟨_, rfl⟩
  rw [hw] at e244 ⊢
  simp only [bkv] at e244
  obtain ⟨w1, w2, w3, w4, w5, w6, w7⟩ := w
  simp only [Wth.v] at e244 ⊢
  clear hw
  refine den_pure (fn := Tryz.f233) (by rfl) (by rfl) (by rfl) (by rfl) (by simp [Tryz.f233]) (by simp) ?_
  simp (maxSteps := 2000000) (disch := first | omega | (simp; done) | (simp; omega) | assumption) [Tryz.f233, argsE, isC, hp, boxV, boxO, fresh_no, List.filter_cons, setB, aggN, op_build, List.set, foot, Op.operands, opTmps, rl hb, rt19 hb, wrap64, min_int, hd, e244, Cl1_tup, Cl1_agg, Cl1_vs, rg19 hb, rg20 hb, rg21 hb, rg22 hb, rg23 hb, rg24 hb, rg25 hb, rg26 hb, rg27 hb, rg28 hb, rg29 hb, rg30 hb, rg31 hb, rg32 hb, rg33 hb, rs19 hb, rs20 hb, rs21 hb, rs22 hb, rs23 hb, rs24 hb, rs25 hb, rs26 hb, rs27 hb, rs28 hb, rs29 hb, rs30 hb, rs31 hb, rs32 hb, rs33 hb, rb0 hb, rb1 hb, rb2 hb, rb3 hb, rb4 hb, rb5 hb, rb6 hb, rb7 hb, rb8 hb, rb9 hb, rb10 hb, rb11 hb, rb12 hb, rb13 hb, rb14 hb, rb15 hb, rb16 hb, rb17 hb, rb18 hb]
  exact ⟨indep_of bf233_1 (by rfl), indep_of bf233_2 (by rfl)⟩
theorem sp_facts {b : List Int} {f t d : Int} {half split : Bool} (hb : b.length = 19) (ho : okB b = true) : ((spW b f t d half split).weekly = true → (spW b f t d half split).daily = true ∧ (spW b f t d half split).reduced = false) ∧ ((spW b f t d half split).daily = true → (spW b f t d half split).brk = true) ∧ ((spW b f t d half split).reduced = true → (spW b f t d half split).daily = true) := by
  obtain ⟨⟨o1, o2, o3, o4, o5, o6⟩, _, _⟩ := okB_ord hb ho
  simp only [spW]
  refine ⟨fun h => ?_, fun h => ?_, fun h => ?_⟩
  · simp at h; simp [h]; omega
  · simp at h; simp; omega
  · simp at h; simp; omega
/-- A spell of rest ends. -/
def riseM (m : Mtr) (w : Wth) : Mtr :=
  { now := m.now, acc := if w.brk = true then 0 else m.acc, half := if w.daily = true then false else w.half, lie := 0,
    dawn := if w.daily = true then m.now else m.dawn, day := if w.daily = true then 0 else m.day,
    longers := if w.weekly = true then 0 else m.longers, split := if w.daily = true then false else (m.split || w.part),
    reduces := if w.weekly = true then 0 else if w.reduced = true then m.reduces + 1 else m.reduces,
    sabbath := if w.weekly = true then m.now else m.sabbath, brief := if w.weekly = true then w.brief else m.brief, week := m.week, last := m.last, labour := m.labour }
def riseK (b : List Int) (m : Mtr) (w : Wth) (k : Int) : Int :=
  if w.weekly = true then orZ k 256 (w.brief && m.brief) else if w.reduced = true then orZ k 64 (decide (bk b 9 < m.reduces + 1)) else k
theorem s215 {lo p : Nat} {b : List Int} {m : Mtr} {k : Int} {h : H} (hb : b.length = 19) (ho : okB b = true) (hM : MB m) (hlie : 0 < m.lie) (hp : cellsAt h p = some (runC b m k)) (hl : lo ≤ p) : den cx lo 215 [.ptr p 0] h = some (.tup [], h.set p (.cells (runC b (riseM m (worM b m)) (riseK b m (worM b m) k)))) := by
  have e233 := fun lo => s233 (lo := lo) hb ho hM hlie hp
  have hf := sp_facts (f := m.now - m.lie) (t := m.now) (d := if m.now - m.lie < m.dawn then m.now - m.lie else m.dawn) (half := m.half) (split := m.split) hb ho
  change ((worM b m).weekly = true → (worM b m).daily = true ∧ (worM b m).reduced = false) ∧ ((worM b m).daily = true → (worM b m).brk = true) ∧ ((worM b m).reduced = true → (worM b m).daily = true) at hf
  obtain ⟨w, hw⟩ : ∃ w, worM b m = w := ⟨_, rfl⟩
  rw [hw] at e233 hf ⊢
  clear hw
  have hbg := cellsAt_lt hp
  have hsm := h_same hp
  have hcs : ∀ X, cellsAt (h.set p (.cells X)) p = some X := fun X => cellsAt_set hbg
  have e216 := fun lo' m k c z (hl' : lo' ≤ p) => rx216 (lo := lo') (b := b) (m := m) (k := k) (c := c) (z := z) (h := h) hb hbg hl'
  have e216' : ∀ lo' c z, lo' ≤ p → den cx lo' 216 [.ptr p 0, .i c, .b z] h = some (.tup [], h.set p (.cells (runC b m (orZ k c z)))) := fun lo' c z hl' => by
    have := e216 lo' m k c z hl'; rwa [hsm] at this
  unfold MB at hM
  obtain ⟨wbrk, whalf, wpart, wdaily, wreduced, wweekly, wbrief⟩ := w
  simp only [Wth.v] at e233 hf
  refine den_open (fn := Tryz.f215) (by rfl) (by rfl) (by rfl) (by rfl) (by simp [Tryz.f215]) ?_
  obtain ⟨now, acc, half, lie, dawn, day, longers, split, reduces, sabbath, brief, week, last, labour⟩ := m
  simp only at *
  obtain ⟨f1, f2, f3⟩ := hf
  cases wweekly with
  | true =>
    obtain ⟨rfl, rfl⟩ := f1 rfl
    obtain rfl := f2 rfl
    clear f1 f2 f3
    cases wbrief <;> cases split
    all_goals simp (maxSteps := 2000000) (disch := first | omega | (simp; done) | (simp; omega) | assumption) [Tryz.f215, argsE, isC, hp, hl, boxV, boxO, fresh_no, List.filter_cons, setB, aggN, op_build, List.set, foot, Op.operands, opTmps, hcs, rl hb, e216, e216', e233, hsm, wrap64, riseM, riseK, rg19 hb, rg20 hb, rg21 hb, rg22 hb, rg23 hb, rg24 hb, rg25 hb, rg26 hb, rg27 hb, rg28 hb, rg29 hb, rg30 hb, rg31 hb, rg32 hb, rg33 hb, rs19 hb, rs20 hb, rs21 hb, rs22 hb, rs23 hb, rs24 hb, rs25 hb, rs26 hb, rs27 hb, rs28 hb, rs29 hb, rs30 hb, rs31 hb, rs32 hb, rs33 hb, rb0 hb, rb1 hb, rb2 hb, rb3 hb, rb4 hb, rb5 hb, rb6 hb, rb7 hb, rb8 hb, rb9 hb, rb10 hb, rb11 hb, rb12 hb, rb13 hb, rb14 hb, rb15 hb, rb16 hb, rb17 hb, rb18 hb]
    all_goals first | exact ⟨indep_of bf215_0 (by rfl), indep_of bf215_3 (by rfl)⟩ | exact ⟨indep_of bf215_0 (by rfl), indep_of bf215_6 (by rfl)⟩ | exact indep_of bf215_0 (by rfl)
  | false =>
    clear f1
    cases wdaily with
    | true =>
      obtain rfl := f2 rfl
      clear f2 f3
      cases wreduced <;> cases split
      all_goals simp (maxSteps := 2000000) (disch := first | omega | (simp; done) | (simp; omega) | assumption) [Tryz.f215, argsE, isC, hp, hl, boxV, boxO, fresh_no, List.filter_cons, setB, aggN, op_build, List.set, foot, Op.operands, opTmps, hcs, rl hb, e216, e216', e233, hsm, wrap64, riseM, riseK, rg19 hb, rg20 hb, rg21 hb, rg22 hb, rg23 hb, rg24 hb, rg25 hb, rg26 hb, rg27 hb, rg28 hb, rg29 hb, rg30 hb, rg31 hb, rg32 hb, rg33 hb, rs19 hb, rs20 hb, rs21 hb, rs22 hb, rs23 hb, rs24 hb, rs25 hb, rs26 hb, rs27 hb, rs28 hb, rs29 hb, rs30 hb, rs31 hb, rs32 hb, rs33 hb, rb0 hb, rb1 hb, rb2 hb, rb3 hb, rb4 hb, rb5 hb, rb6 hb, rb7 hb, rb8 hb, rb9 hb, rb10 hb, rb11 hb, rb12 hb, rb13 hb, rb14 hb, rb15 hb, rb16 hb, rb17 hb, rb18 hb]
      all_goals first | exact ⟨indep_of bf215_0 (by rfl), indep_of bf215_3 (by rfl)⟩ | exact ⟨indep_of bf215_0 (by rfl), indep_of bf215_6 (by rfl)⟩ | exact indep_of bf215_0 (by rfl)
    | false =>
      obtain rfl : wreduced = false := by cases wreduced with | true => exact absurd (f3 rfl) (by simp) | false => rfl
      clear f2 f3
      cases wbrk <;> cases split
      all_goals simp (maxSteps := 2000000) (disch := first | omega | (simp; done) | (simp; omega) | assumption) [Tryz.f215, argsE, isC, hp, hl, boxV, boxO, fresh_no, List.filter_cons, setB, aggN, op_build, List.set, foot, Op.operands, opTmps, hcs, rl hb, e216, e216', e233, hsm, wrap64, riseM, riseK, rg19 hb, rg20 hb, rg21 hb, rg22 hb, rg23 hb, rg24 hb, rg25 hb, rg26 hb, rg27 hb, rg28 hb, rg29 hb, rg30 hb, rg31 hb, rg32 hb, rg33 hb, rs19 hb, rs20 hb, rs21 hb, rs22 hb, rs23 hb, rs24 hb, rs25 hb, rs26 hb, rs27 hb, rs28 hb, rs29 hb, rs30 hb, rs31 hb, rs32 hb, rs33 hb, rb0 hb, rb1 hb, rb2 hb, rb3 hb, rb4 hb, rb5 hb, rb6 hb, rb7 hb, rb8 hb, rb9 hb, rb10 hb, rb11 hb, rb12 hb, rb13 hb, rb14 hb, rb15 hb, rb16 hb, rb17 hb, rb18 hb]
      all_goals first | exact ⟨indep_of bf215_0 (by rfl), indep_of bf215_3 (by rfl)⟩ | exact ⟨indep_of bf215_0 (by rfl), indep_of bf215_6 (by rfl)⟩ | exact indep_of bf215_0 (by rfl)
end ZD
open Go Go.AM Go.Proofs Go.AM.Pl
set_option maxRecDepth 100000
set_option maxHeartbeats 4000000
namespace ZD
section
variable {lo p : Nat} {b : List Int} {m : Mtr} {k : Int} {h : H}
theorem rx214 (hb : b.length = 19) (hz : bk b 18 ≠ 0) (h0 : 0 ≤ m.now) (h1 : m.now ≤ 40320) (hbg : p < h.length) (hl : lo ≤ p) : den cx lo 214 [.ptr p 0] (h.set p (.cells (runC b m k))) = some (.tup [], h.set p (.cells (runC b (turnM b m) k))) := by
  rw [s214 hb hz h0 h1 (cellsAt_set hbg) hl, List.set_set]
theorem rx215 (hb : b.length = 19) (ho : okB b = true) (hM : MB m) (hlie : 0 < m.lie) (hbg : p < h.length) (hl : lo ≤ p) : den cx lo 215 [.ptr p 0] (h.set p (.cells (runC b m k))) = some (.tup [], h.set p (.cells (runC b (riseM m (worM b m)) (riseK b m (worM b m) k)))) := by
  rw [s215 hb ho hM hlie (cellsAt_set hbg) hl, List.set_set]
theorem rx217 (hB : BB b) (hM : MC m) (hbg : p < h.length) (hl : lo ≤ p) : den cx lo 217 [.ptr p 0] (h.set p (.cells (runC b m k))) = some (.tup [], h.set p (.cells (runC b (drvM b m) (drvK b m k)))) := by
  rw [s217 hB hM (cellsAt_set hbg) hl, List.set_set]
end
theorem MB_turn {b : List Int} {m : Mtr} (h : MB m) : MB (turnM b m) := by
  unfold turnM; split
  · unfold MB at *; simp only; omega
  · exact h
theorem MC_rise {m : Mtr} {w : Wth} (h : MB m) : MC (riseM m w) := by
  unfold MB at h; unfold MC riseM
  obtain ⟨a, b, c, d, e, f, g⟩ := w
  cases a <;> cases d <;> cases e <;> cases f <;> simp <;> omega
/-- What a minute makes of a meter, ahead of what is driven. -/
def premM (b : List Int) (m : Mtr) : Mtr := if 0 < (turnM b m).lie then riseM (turnM b m) (worM b (turnM b m)) else turnM b m
def premK (b : List Int) (m : Mtr) (k : Int) : Int := if 0 < (turnM b m).lie then riseK b (turnM b m) (worM b (turnM b m)) k else k
def dawnK (b : List Int) (m : Mtr) (k : Int) : Int := orZ (orZ k 32 (decide (bk b 11 - bk b 8 ≤ m.now - m.dawn))) 128 (decide (bk b 14 ≤ m.now - m.sabbath))
def minM (b : List Int) (m : Mtr) (kind : Int) : Mtr :=
  if kind = 0 then { turnM b m with lie := (turnM b m).lie + 1, now := (turnM b m).now + 1 } else
  let m1 := premM b m
  let m2 := if kind = 3 then drvM b m1 else m1
  { m2 with labour := if kind = 1 then m2.labour else m2.labour + 1, now := m2.now + 1 }
def minK (b : List Int) (m : Mtr) (k kind : Int) : Int :=
  if kind = 0 then k else
  let m1 := premM b m
  let k1 := dawnK b m1 (premK b m k)
  let k2 := if kind = 3 then drvK b m1 k1 else k1
  if kind = 1 then k2 else orZ k2 512 (decide (bk b 17 < m1.labour + 1))
theorem MC_prem {b : List Int} {m : Mtr} (h : MB m) : MC (premM b m) := by
  unfold premM; split
  · exact MC_rise (MB_turn h)
  · exact (MB_turn h).c
theorem turn_now {b : List Int} {m : Mtr} : (turnM b m).now = m.now := by unfold turnM; split <;> rfl
theorem turn_lie {b : List Int} {m : Mtr} : (turnM b m).lie = m.lie := by unfold turnM; split <;> rfl
theorem prem_now {b : List Int} {m : Mtr} : (premM b m).now = m.now := by unfold premM; split <;> simp [riseM, turn_now]
theorem s195 {lo p : Nat} {b : List Int} {m : Mtr} {k kind : Int} {h : H} (hb : b.length = 19) (ho : okB b = true) (hM : MB m) (hnow : m.now < 40320) (hk : 0 ≤ kind ∧ kind < 4) (hbg : p < h.length) (hl : lo ≤ p) : den cx lo 195 [.ptr p 0, .i kind] (h.set p (.cells (runC b m k))) = some (.tup [], h.set p (.cells (runC b (minM b m kind) (minK b m k kind)))) := by
  obtain ⟨_, hB, hz⟩ := okB_ord hb ho
  have hcs : ∀ X, cellsAt (h.set p (.cells X)) p = some X := fun X => cellsAt_set hbg
  have hM0 := hM
  unfold MB at hM0
  have e214 := fun lo' (hl' : lo' ≤ p) => rx214 (lo := lo') (b := b) (m := m) (k := k) (h := h) hb (by omega) (by omega) (by omega) hbg hl'
  have hMt := MB_turn (b := b) hM
  have hMp := MC_prem (b := b) hM
  have e215 := fun lo' (q : 0 < (turnM b m).lie) (hl' : lo' ≤ p) => rx215 (lo := lo') (b := b) (m := turnM b m) (k := k) (h := h) hb ho hMt q hbg hl'
  have e217 := fun lo' k (hl' : lo' ≤ p) => rx217 (lo := lo') (b := b) (m := premM b m) (k := k) (h := h) ⟨hb, hB⟩ hMp hbg hl'
  have e216 := fun lo' m k c z (hl' : lo' ≤ p) => rx216 (lo := lo') (b := b) (m := m) (k := k) (c := c) (z := z) (h := h) hb hbg hl'
  have b8 := hB 8
  have b11 := hB 11
  have hpn := prem_now (b := b) (m := m)
  have htn := turn_now (b := b) (m := m)
  have htl := turn_lie (b := b) (m := m)
  refine den_open (fn := Tryz.f195) (by rfl) (by rfl) (by rfl) (by rfl) (by simp [Tryz.f195]) ?_
  by_cases h0 : kind = 0
  · subst h0
    simp only [minM, minK, if_true]
    obtain ⟨m0, hm0⟩ : ∃ m0, turnM b m = m0 := ⟨_, rfl⟩
    rw [hm0] at e214 htn htl ⊢
    clear e215 e216 e217
    simp (maxSteps := 2000000) (disch := first | omega | (simp; done) | (simp; omega) | assumption) [Tryz.f195, argsE, isC, hl, boxV, boxO, fresh_no, List.filter_cons, setB, aggN, op_build, List.set, hcs, rl hb, e214, wrap64, rg19 hb, rg20 hb, rg21 hb, rg22 hb, rg23 hb, rg24 hb, rg25 hb, rg26 hb, rg27 hb, rg28 hb, rg29 hb, rg30 hb, rg31 hb, rg32 hb, rg33 hb, rs19 hb, rs20 hb, rs21 hb, rs22 hb, rs23 hb, rs24 hb, rs25 hb, rs26 hb, rs27 hb, rs28 hb, rs29 hb, rs30 hb, rs31 hb, rs32 hb, rs33 hb, rb0 hb, rb1 hb, rb2 hb, rb3 hb, rb4 hb, rb5 hb, rb6 hb, rb7 hb, rb8 hb, rb9 hb, rb10 hb, rb11 hb, rb12 hb, rb13 hb, rb14 hb, rb15 hb, rb16 hb, rb17 hb, rb18 hb]
  by_cases hlie : 0 < (turnM b m).lie
  · have hpm : riseM (turnM b m) (worM b (turnM b m)) = premM b m := by unfold premM; rw [if_pos hlie]
    have hpk : riseK b (turnM b m) (worM b (turnM b m)) k = premK b m k := by unfold premK; rw [if_pos hlie]
    have e215 := fun lo' hl' => e215 lo' hlie hl'
    simp only [hpm, hpk] at e215
    clear hpm hpk
    simp only [minM, minK, h0, if_false]
    obtain ⟨m0, hm0⟩ : ∃ m0, turnM b m = m0 := ⟨_, rfl⟩
    rw [hm0] at e214 htn hlie
    simp only [hm0] at e215
    obtain ⟨m1, hm1⟩ : ∃ m1, premM b m = m1 := ⟨_, rfl⟩
    obtain ⟨k1, hk1⟩ : ∃ k1, premK b m k = k1 := ⟨_, rfl⟩
    rw [hm1] at hMp hpn
    rw [hm1, hk1]
    simp only [hm1, hk1] at e215 e217
    unfold MC at hMp
    have hdl : (drvM b m1).labour = m1.labour := rfl
    have hdn : (drvM b m1).now = m1.now := rfl
    obtain rfl | rfl | rfl : kind = 1 ∨ kind = 2 ∨ kind = 3 := by omega
    · simp (maxSteps := 2000000) (disch := first | omega | (simp; done) | (simp; omega) | assumption) [Tryz.f195, argsE, isC, hl, boxV, boxO, fresh_no, List.filter_cons, setB, aggN, op_build, List.set, hcs, rl hb, e214, e215, e216, wrap64, hlie, foot, Op.operands, opTmps, dawnK, rg19 hb, rg20 hb, rg21 hb, rg22 hb, rg23 hb, rg24 hb, rg25 hb, rg26 hb, rg27 hb, rg28 hb, rg29 hb, rg30 hb, rg31 hb, rg32 hb, rg33 hb, rs19 hb, rs20 hb, rs21 hb, rs22 hb, rs23 hb, rs24 hb, rs25 hb, rs26 hb, rs27 hb, rs28 hb, rs29 hb, rs30 hb, rs31 hb, rs32 hb, rs33 hb, rb0 hb, rb1 hb, rb2 hb, rb3 hb, rb4 hb, rb5 hb, rb6 hb, rb7 hb, rb8 hb, rb9 hb, rb10 hb, rb11 hb, rb12 hb, rb13 hb, rb14 hb, rb15 hb, rb16 hb, rb17 hb, rb18 hb]
      exact ⟨indep_of bf195_6 (by rfl), indep_of bf195_7 (by rfl)⟩
    · simp (maxSteps := 2000000) (disch := first | omega | (simp; done) | (simp; omega) | assumption) [Tryz.f195, argsE, isC, hl, boxV, boxO, fresh_no, List.filter_cons, setB, aggN, op_build, List.set, hcs, rl hb, e214, e215, e216, wrap64, hlie, foot, Op.operands, opTmps, dawnK, rg19 hb, rg20 hb, rg21 hb, rg22 hb, rg23 hb, rg24 hb, rg25 hb, rg26 hb, rg27 hb, rg28 hb, rg29 hb, rg30 hb, rg31 hb, rg32 hb, rg33 hb, rs19 hb, rs20 hb, rs21 hb, rs22 hb, rs23 hb, rs24 hb, rs25 hb, rs26 hb, rs27 hb, rs28 hb, rs29 hb, rs30 hb, rs31 hb, rs32 hb, rs33 hb, rb0 hb, rb1 hb, rb2 hb, rb3 hb, rb4 hb, rb5 hb, rb6 hb, rb7 hb, rb8 hb, rb9 hb, rb10 hb, rb11 hb, rb12 hb, rb13 hb, rb14 hb, rb15 hb, rb16 hb, rb17 hb, rb18 hb]
      exact ⟨indep_of bf195_6 (by rfl), indep_of bf195_7 (by rfl), indep_of bf195_12 (by rfl)⟩
    · simp (maxSteps := 2000000) (disch := first | omega | (simp; done) | (simp; omega) | assumption) [Tryz.f195, argsE, isC, hl, boxV, boxO, fresh_no, List.filter_cons, setB, aggN, op_build, List.set, hcs, rl hb, e214, e215, e216, e217, wrap64, hlie, foot, Op.operands, opTmps, dawnK, hdl, hdn, rg19 hb, rg20 hb, rg21 hb, rg22 hb, rg23 hb, rg24 hb, rg25 hb, rg26 hb, rg27 hb, rg28 hb, rg29 hb, rg30 hb, rg31 hb, rg32 hb, rg33 hb, rs19 hb, rs20 hb, rs21 hb, rs22 hb, rs23 hb, rs24 hb, rs25 hb, rs26 hb, rs27 hb, rs28 hb, rs29 hb, rs30 hb, rs31 hb, rs32 hb, rs33 hb, rb0 hb, rb1 hb, rb2 hb, rb3 hb, rb4 hb, rb5 hb, rb6 hb, rb7 hb, rb8 hb, rb9 hb, rb10 hb, rb11 hb, rb12 hb, rb13 hb, rb14 hb, rb15 hb, rb16 hb, rb17 hb, rb18 hb]
      exact ⟨indep_of bf195_6 (by rfl), indep_of bf195_7 (by rfl), indep_of bf195_12 (by rfl)⟩
  · have hpm : premM b m = turnM b m := by unfold premM; rw [if_neg hlie]
    have hpk : premK b m k = k := by unfold premK; rw [if_neg hlie]
    clear e215
    simp only [minM, minK, h0, if_false, hpm, hpk]
    simp only [hpm] at e217 hMp hpn
    clear hpm hpk
    obtain ⟨m1, hm1⟩ : ∃ m1, turnM b m = m1 := ⟨_, rfl⟩
    rw [hm1] at e214 htn hlie hMp hpn ⊢
    simp only [hm1] at e217
    unfold MC at hMp
    have hdl : (drvM b m1).labour = m1.labour := rfl
    have hdn : (drvM b m1).now = m1.now := rfl
    obtain rfl | rfl | rfl : kind = 1 ∨ kind = 2 ∨ kind = 3 := by omega
    · simp (maxSteps := 2000000) (disch := first | omega | (simp; done) | (simp; omega) | assumption) [Tryz.f195, argsE, isC, hl, boxV, boxO, fresh_no, List.filter_cons, setB, aggN, op_build, List.set, hcs, rl hb, e214, e216, wrap64, hlie, foot, Op.operands, opTmps, dawnK, rg19 hb, rg20 hb, rg21 hb, rg22 hb, rg23 hb, rg24 hb, rg25 hb, rg26 hb, rg27 hb, rg28 hb, rg29 hb, rg30 hb, rg31 hb, rg32 hb, rg33 hb, rs19 hb, rs20 hb, rs21 hb, rs22 hb, rs23 hb, rs24 hb, rs25 hb, rs26 hb, rs27 hb, rs28 hb, rs29 hb, rs30 hb, rs31 hb, rs32 hb, rs33 hb, rb0 hb, rb1 hb, rb2 hb, rb3 hb, rb4 hb, rb5 hb, rb6 hb, rb7 hb, rb8 hb, rb9 hb, rb10 hb, rb11 hb, rb12 hb, rb13 hb, rb14 hb, rb15 hb, rb16 hb, rb17 hb, rb18 hb]
      exact ⟨indep_of bf195_6 (by rfl), indep_of bf195_7 (by rfl)⟩
    · simp (maxSteps := 2000000) (disch := first | omega | (simp; done) | (simp; omega) | assumption) [Tryz.f195, argsE, isC, hl, boxV, boxO, fresh_no, List.filter_cons, setB, aggN, op_build, List.set, hcs, rl hb, e214, e216, wrap64, hlie, foot, Op.operands, opTmps, dawnK, rg19 hb, rg20 hb, rg21 hb, rg22 hb, rg23 hb, rg24 hb, rg25 hb, rg26 hb, rg27 hb, rg28 hb, rg29 hb, rg30 hb, rg31 hb, rg32 hb, rg33 hb, rs19 hb, rs20 hb, rs21 hb, rs22 hb, rs23 hb, rs24 hb, rs25 hb, rs26 hb, rs27 hb, rs28 hb, rs29 hb, rs30 hb, rs31 hb, rs32 hb, rs33 hb, rb0 hb, rb1 hb, rb2 hb, rb3 hb, rb4 hb, rb5 hb, rb6 hb, rb7 hb, rb8 hb, rb9 hb, rb10 hb, rb11 hb, rb12 hb, rb13 hb, rb14 hb, rb15 hb, rb16 hb, rb17 hb, rb18 hb]
      exact ⟨indep_of bf195_6 (by rfl), indep_of bf195_7 (by rfl), indep_of bf195_12 (by rfl)⟩
    · simp (maxSteps := 2000000) (disch := first | omega | (simp; done) | (simp; omega) | assumption) [Tryz.f195, argsE, isC, hl, boxV, boxO, fresh_no, List.filter_cons, setB, aggN, op_build, List.set, hcs, rl hb, e214, e216, e217, wrap64, hlie, foot, Op.operands, opTmps, dawnK, hdl, hdn, rg19 hb, rg20 hb, rg21 hb, rg22 hb, rg23 hb, rg24 hb, rg25 hb, rg26 hb, rg27 hb, rg28 hb, rg29 hb, rg30 hb, rg31 hb, rg32 hb, rg33 hb, rs19 hb, rs20 hb, rs21 hb, rs22 hb, rs23 hb, rs24 hb, rs25 hb, rs26 hb, rs27 hb, rs28 hb, rs29 hb, rs30 hb, rs31 hb, rs32 hb, rs33 hb, rb0 hb, rb1 hb, rb2 hb, rb3 hb, rb4 hb, rb5 hb, rb6 hb, rb7 hb, rb8 hb, rb9 hb, rb10 hb, rb11 hb, rb12 hb, rb13 hb, rb14 hb, rb15 hb, rb16 hb, rb17 hb, rb18 hb]
      exact ⟨indep_of bf195_6 (by rfl), indep_of bf195_7 (by rfl), indep_of bf195_12 (by rfl)⟩
end ZD

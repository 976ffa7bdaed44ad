/- Rules for stepping the abstract machine, plain laws of texts and numbers, the library functions that it takes as given. No condition. -/
import Derived.Test.YtieenbjncimikaaGreatDoorBAmE
import Derived.Laws.Strings
import Derived.Lib.PathFns
import Derived.Lib.IndexLaws
import Derived.Lib.ItoaNum
import Derived.Lib.Join
import Derived.Lib.IndexBytes
import Derived.Test.YtieenbjncimikaaGreatDoorBAmD
import Derived.Lib.IndexMore
import Derived.Lib.ParseIntB
import Derived.Test.YtieenbjncimikaaGreatDoorBAmB
set_option linter.all false
namespace Go.AM
section
variable {c : Cx} {lo : Nat} {st : St}

@[simp] theorem clo_s {k : Nat} {x : Value} : clo (k + 1) (.s x) = true := rfl
@[simp] theorem clo_agg {k : Nat} {l : List V} : clo (k + 1) (.agg l) = l.all (clo k) := rfl
@[simp] theorem clo_tup {k : Nat} {l : List V} : clo (k + 1) (.tup l) = l.all (clo k) := rfl
@[simp] theorem clo_vptr {k : Nat} {l : List V} : clo (k + 1) (.vptr l) = l.all (clo k) := rfl
@[simp] theorem clo_vs {k w : Nat} {t : Tk} {l : List V} : clo (k + 1) (vs t w l) = l.all (clo k) := by simp only [clo, vs]
@[simp] theorem clo_vsl {k w : Nat} {t : Tk} {l : List V} : clo (k + 1) (.vsl t w l) = l.all (clo k) := rfl
@[simp] theorem cells_vs {t : Tk} {w : Nat} {l : List V} : cellsOf (vs t w l) = [vs t w l] := rfl
@[simp] theorem okv_vs {t : Tk} {w : Nat} {l : List V} : okv (vs t w l) = true := rfl
@[simp] theorem cells_s {x : Value} : cellsOf (.s x) = [.s x] := rfl
@[simp] theorem cells_agg {l : List V} : cellsOf (.agg l) = l := rfl
@[simp] theorem cells_vsl {t : Tk} {w : Nat} {l : List V} : cellsOf (.vsl t w l) = [.vsl t w l] := rfl
@[simp] theorem cells_ptr {b o : Nat} : cellsOf (.ptr b o) = [.ptr b o] := rfl
@[simp] theorem cells_vptr {l : List V} : cellsOf (.vptr l) = [.vptr l] := rfl
@[simp] theorem cells_ifc {t : Nat} {v : V} : cellsOf (.ifc t v) = [.ifc t v] := rfl
@[simp] theorem okv_s {x : Value} : okv (.s x) = true := rfl
@[simp] theorem okv_agg {l : List V} : okv (.agg l) = true := rfl
@[simp] theorem okv_vsl {t : Tk} {w : Nat} {l : List V} : okv (.vsl t w l) = true := rfl
@[simp] theorem okv_ptr {b o : Nat} : okv (.ptr b o) = true := rfl
@[simp] theorem okv_vptr {l : List V} : okv (.vptr l) = true := rfl
@[simp] theorem okv_ifc {t : Nat} {v : V} : okv (.ifc t v) = true := rfl
@[simp] theorem wr_one {cs : List V} {o : Nat} {x : V} : wr cs o [x] = if o + 1 ≤ cs.length then some (cs.set o x) else none := rfl
@[simp] theorem wr_more {cs : List V} {o : Nat} {x y : V} {l : List V} : wr cs o (x :: y :: l) = if o + (l.length + 1 + 1) ≤ cs.length then some (cs.take o ++ (x :: y :: l) ++ cs.drop (o + (l.length + 1 + 1))) else none := rfl
/-- A row that may be appended to. -/
def Apd (lo : Nat) (h : H) (t : Tk) : Prop := t = .full ∨ t = .nil ∨ ∃ id, t = .tip id ∧ lo ≤ id ∧ h[id]? = some .tip
/-- The objects behind an append. -/
def apH (h : H) (t : Tk) : H := match t with
  | .tip id => h.set id .dead ++ [.tip]
  | _ => h ++ [.tip]
@[simp] theorem apH_len {h : H} {t : Tk} : (apH h t).length = h.length + 1 := by cases t <;> simp [apH]
@[simp] theorem Apd_full {h : H} : Apd lo h .full := .inl rfl
@[simp] theorem Apd_nil {h : H} : Apd lo h .nil := .inr (.inl rfl)
theorem Apd_ap {h : H} {t : Tk} (hl : lo ≤ h.length) : Apd lo (apH h t) (.tip h.length) := .inr (.inr ⟨_, rfl, hl, by cases t <;> simp [apH]⟩)

structure ElT (c : Cx) (t : TypeId) (w b : Nat) : Prop where
  el : ∃ e, elemOf? c.P t = some e ∧ szOf c.P e = some w ∧ ((c.P.info? e).map (·.bytes)).getD 0 = b ∧ ∃ z, zeroOf c.P e = some z ∧ (cellsOf z).length = w
  w0 : w ≠ 0
  b0 : b ≠ 0

theorem asl_vs {w w' : Nat} {t : Tk} {l : List V} (hw : w' = w ∨ l = []) : asl w (vs t w' l) = some (if t = .nil then .full else t, l) := by
  unfold vs asl
  simp only
  rw [if_pos]
  by_cases hl : l = []
  · exact .inr ⟨hl, .inl (if_pos hl)⟩
  · rw [if_neg hl]; exact .inl (hw.resolve_right hl)
theorem append_w {t : TypeId} {w b w0 : Nat} {tk tk' : Tk} {l l' : List V} (E : ElT c t w b) (hw : w0 = w ∨ l = []) (ha : Apd lo st.h tk) (hn : tk = .nil → l = []) (hne : l' ≠ []) (hlen : (l.length + l'.length) * b ≤ mostLen) :
    appendV c lo st false t (vs tk w0 l) (vs tk' w l') = some (vs (.tip st.h.length) w (l ++ l'), { st with h := apH st.h tk }) := by
  obtain ⟨⟨e, e1, e2, e3, z, e4, e5⟩, w0', b0⟩ := E
  have a1 := asl_vs (t := tk) hw
  have a2 : newV w (vs tk' w l') = some l' := by
    have := asl_vs (w := w) (t := tk') (l := l') (.inl rfl)
    unfold newV
    simp only [vs] at this ⊢
    rw [this]; rfl
  have hv : vs (.tip st.h.length) w (l ++ l') = .vsl (.tip st.h.length) w (l ++ l') := by
    unfold vs; rw [if_neg]; simp [hne]
  rw [hv]
  unfold appendV
  simp only [e1, e2, e3, e4, Option.bind_eq_bind, Option.bind_some, a2]
  rw [if_neg (by simp [w0', b0, e5])]
  have hemp : l'.isEmpty = false := by cases l' <;> simp_all
  simp only [vs] at a1 ⊢
  simp only [a1, Option.bind_some, hemp, Bool.false_eq_true, if_false]
  rw [if_neg (by omega)]
  rcases ha with rfl | rfl | ⟨id, rfl, h1, h2⟩
  · rfl
  · rfl
  · simp only [push, apH, h2, List.length_set, reduceCtorEq, if_false]
    rw [if_neg (by simp; omega)]
    rfl
theorem append_vs {t : TypeId} {w b : Nat} {tk tk' : Tk} {l l' : List V} (E : ElT c t w b) (ha : Apd lo st.h tk) (hne : l' ≠ []) (hlen : (l.length + l'.length) * b ≤ mostLen) :
    appendV c lo st false t (vs tk w l) (vs tk' w l') = some (vs (.tip st.h.length) w (l ++ l'), { st with h := apH st.h tk }) := by
  by_cases hn : tk = .nil → l = []
  · exact append_w E (.inl rfl) ha hn hne hlen
  · simp only [Classical.not_imp] at hn
    obtain ⟨rfl, h2⟩ := hn
    -- a nil row with elements does not come up, but is told alike
    obtain ⟨⟨e, e1, e2, e3, z, e4, e5⟩, w0', b0⟩ := E
    have a1 := asl_vs (w := w) (t := .nil) (l := l) (.inl rfl)
    have a2 : newV w (vs tk' w l') = some l' := by
      have := asl_vs (w := w) (t := tk') (l := l') (.inl rfl)
      unfold newV
      simp only [vs] at this ⊢
      rw [this]; rfl
    have hv : vs (.tip st.h.length) w (l ++ l') = .vsl (.tip st.h.length) w (l ++ l') := by
      unfold vs; rw [if_neg]; simp [hne]
    rw [hv]
    unfold appendV
    simp only [e1, e2, e3, e4, Option.bind_eq_bind, Option.bind_some, a2]
    rw [if_neg (by simp [w0', b0, e5])]
    have hemp : l'.isEmpty = false := by cases l' <;> simp_all
    simp only [vs] at a1 ⊢
    simp only [a1, Option.bind_some, hemp, Bool.false_eq_true, if_false]
    rw [if_neg (by omega)]
    rfl
/-- A first append, to nil. -/
theorem append_nil {t : TypeId} {w b : Nat} {tk' : Tk} {l' : List V} (E : ElT c t w b) (hne : l' ≠ []) (hlen : l'.length * b ≤ mostLen) :
    appendV c lo st false t (vs .nil 0 []) (vs tk' w l') = some (vs (.tip st.h.length) w l', { st with h := apH st.h .nil }) := by
  have := append_w (c := c) (lo := lo) (st := st) (tk := .nil) (tk' := tk') (l := []) (w0 := 0) E (.inr rfl) Apd_nil (fun _ => rfl) hne (by simpa using hlen)
  simpa using this

/-- A text of bytes. -/
def bs (l : List UInt8) : ByteArray := ⟨l.toArray⟩
abbrev V.t (l : List UInt8) : V := .s (.string (bs l))
@[simp] theorem bs_size {l : List UInt8} : (bs l).size = l.length := by simp [bs, ByteArray.size]
@[simp] theorem bs_app {l m : List UInt8} : bs l ++ bs m = bs (l ++ m) := by
  apply ByteArray.ext; simp [bs]
@[simp] theorem bs_get {l : List UInt8} {i : Nat} : (bs l)[i]? = l[i]? := by
  by_cases h : i < l.length
  · have h' : i < (bs l).size := by simpa using h
    rw [getElem?_pos (bs l) i h', List.getElem?_eq_getElem h]
    rfl
  · have h' : ¬ i < (bs l).size := by simpa using h
    rw [getElem?_neg (bs l) i h', List.getElem?_eq_none (by omega)]
@[simp] theorem bs_cut {l : List UInt8} {i j : Nat} : (bs l).extract i j = bs ((l.drop i).take (j - i)) := by
  apply ByteArray.ext; simp [bs, List.take_drop]
@[simp] theorem mk_bs {l : List UInt8} : ByteArray.mk (List.toArray l) = bs l := rfl
@[simp] theorem toList_bs {l : List UInt8} : (bs l).toList = l := by
  rw [Go.ByteArray.toList_eq]; rfl
theorem add_str {t : TypeId} {a b : List UInt8} (h : a.length + b.length ≤ 9223372036854775807) : binOpV c .add t (.s (.string (bs a))) (.s (.string (bs b))) = some (.s (.string (bs (a ++ b)))) := by
  have hm : IntKind.i64.max = 9223372036854775807 := rfl
  simp only [binOpV, binS, bin, bs_size, hm]
  rw [if_neg (by omega), bs_app]
  rfl
theorem index_str {t : TypeId} {l : List UInt8} {j : Nat} {k : IntKind} (hu : c.P.underlying t = some .string) (hj : j < l.length) : indexV c t (.s (.string (bs l))) (.s (.int k j)) = some (.s (.int .u8 l[j].toNat)) := by
  simp [indexV, hu, idx_nat hj, hj]
theorem len_str {t : TypeId} {l : List UInt8} {h : H} (hu : c.P.underlying t = some .string) : lenV c t h (.s (.string (bs l))) = some (.i l.length) := by simp [lenV, hu]
@[simp] theorem neg_int {k : IntKind} {a : Int} : unV .neg (.s (.int k a)) = some (.s (.int k (k.wrap (-a)))) := by simp [unV]
@[simp] theorem not_bool {b : Bool} : unV .not (.s (.bool b)) = some (.s (.bool (!b))) := by simp [unV]
theorem conv_int {t u : TypeId} {k k' : IntKind} {a : Int} {d : TypeDesc} (ht : c.P.underlying t = some d) (hu : c.P.underlying u = some (.int k')) : convV c t u (.s (.int k a)) = some (.s (.int k' (k'.wrap a))) := by
  unfold convV; rw [ht, hu]
theorem conv_byte1 {t u e : TypeId} {tk : Tk} {w : Nat} {a : Int} (ht : c.P.underlying t = some (.slice e)) (he : c.P.underlying e = some (.int .u8)) (hu : c.P.underlying u = some .string) : convV c t u (vs tk w [.s (.int .u8 a)]) = some (.s (.string (bs [UInt8.ofNat a.toNat]))) := by
  unfold convV vs; rw [ht, hu]; simp only [he, bytesOf, Option.map_some]; rfl
/-- What is known of a type whose values take one cell. -/
structure OneT (c : Cx) (t : TypeId) : Prop where
  z : szOf c.P t = some 1
  g : isAg c.P t = some false
/-- What is known of a type whose values take n cells. -/
structure AggT (c : Cx) (t : TypeId) (n : Nat) : Prop where
  z : szOf c.P t = some n
  g : isAg c.P t = some true
theorem load1_lp {t : TypeId} (T : OneT c t) {b off : Nat} : loadAt c st t (.lp b off) = (getB st.lb b).bind fun cs => cs[off]? := by
  simp only [loadAt, T.z, T.g, Option.bind_eq_bind, Option.bind_some, rd, Bool.false_eq_true, if_false]
  cases getB st.lb b with
  | none => rfl
  | some cs => simp
theorem load1_ptr {t : TypeId} (T : OneT c t) {b off : Nat} : loadAt c st t (.v (.ptr b off)) = (cellsAt st.h b).bind fun cs => cs[off]? := by
  simp only [loadAt, T.z, T.g, Option.bind_eq_bind, Option.bind_some, rd, Bool.false_eq_true, if_false]
  cases cellsAt st.h b with
  | none => rfl
  | some cs => simp
theorem load1_vptr {t : TypeId} (T : OneT c t) {cs : List V} : loadAt c st t (.v (.vptr cs)) = cs[0]? := by
  simp only [loadAt, T.z, T.g, Option.bind_eq_bind, Option.bind_some, rd, Bool.false_eq_true, if_false]
/-- So many cells as one thing. -/
def aggN (n : Nat) (cs : List V) : Option V := if n ≤ cs.length then some (.agg (cs.take n)) else none
theorem loadN_lp {t : TypeId} {n : Nat} (T : AggT c t n) {b off : Nat} : loadAt c st t (.lp b off) = (getB st.lb b).bind fun cs => aggN n (cs.drop off) := by
  simp only [loadAt, T.z, T.g, Option.bind_eq_bind, Option.bind_some, rd, if_true]; rfl
theorem loadN_ptr {t : TypeId} {n : Nat} (T : AggT c t n) {b off : Nat} : loadAt c st t (.v (.ptr b off)) = (cellsAt st.h b).bind fun cs => aggN n (cs.drop off) := by
  simp only [loadAt, T.z, T.g, Option.bind_eq_bind, Option.bind_some, rd, if_true]; rfl
theorem loadN_vptr {t : TypeId} {n : Nat} (T : AggT c t n) {cs : List V} : loadAt c st t (.v (.vptr cs)) = aggN n cs := by
  simp only [loadAt, T.z, T.g, Option.bind_eq_bind, Option.bind_some, rd, if_true]; rfl
theorem store_lp {t : TypeId} {n : Nat} (hz : szOf c.P t = some n) {b off : Nat} {v : V} : storeAt c lo st t (.lp b off) v = if (cellsOf v).length = n ∧ okv v = true then (getB st.lb b).bind fun cs => (wr cs off (cellsOf v)).map fun cs => { st with lb := setB st.lb b cs } else none := by
  simp only [storeAt, hz, Option.bind_eq_bind, Option.bind_some]
  by_cases h : (cellsOf v).length = n ∧ okv v = true
  · rw [if_pos h, if_neg (by simp [h])]
    cases getB st.lb b with
    | none => rfl
    | some cs => simp only [Option.bind_some]; cases wr cs off (cellsOf v) <;> rfl
  · rw [if_neg h, if_pos]
    by_cases h1 : (cellsOf v).length = n
    · exact .inr (by simp [h1] at h; simp [h])
    · exact .inl h1
theorem fieldAddr_lp {t u : TypeId} {i o n : Nat} (hf : fieldOff c.P t i = some (o, u)) (hz : szOf c.P u = some (n + 1)) {b off : Nat} : fieldAddrV c t i (.lp b off) = some (.lp b (off + o)) := by
  simp [fieldAddrV, hf, hz]
theorem fieldAddr_ptr {t u : TypeId} {i o n : Nat} (hf : fieldOff c.P t i = some (o, u)) (hz : szOf c.P u = some (n + 1)) {b off : Nat} : fieldAddrV c t i (.v (.ptr b off)) = some (.v (.ptr b (off + o))) := by
  simp [fieldAddrV, hf, hz]
theorem fieldAddr_vptr {t u : TypeId} {i o n : Nat} (hf : fieldOff c.P t i = some (o, u)) (hz : szOf c.P u = some (n + 1)) {cs : List V} : fieldAddrV c t i (.v (.vptr cs)) = if o ≤ cs.length then some (.v (.vptr (cs.drop o))) else none := by
  simp [fieldAddrV, hf, hz]
theorem build_struct {t : TypeId} {fs : Array Field} {z : V} {ps : List (Nat × Nat)} {parts : List (Nat × V)} (hu : c.P.underlying t = some (.struct fs)) (hz : zeroOf c.P t = some z) (hp : placesV c.P fs.toList = some ps) :
    buildV c t parts = (fillV (fun i => ps[i]?) (cellsOf z) parts).map .agg := by
  simp only [buildV, hz, hu, hp, Option.bind_eq_bind, Option.bind_some]
@[simp] theorem fillV_nil {place : Nat → Option (Nat × Nat)} {cells : List V} : fillV place cells [] = some cells := rfl
@[simp] theorem fillV_cons {place : Nat → Option (Nat × Nat)} {cells : List V} {i : Nat} {v : V} {rest : List (Nat × V)} :
    fillV place cells ((i, v) :: rest) = (place i).bind fun p => if (cellsOf v).length = p.2 ∧ okv v = true then (wr cells p.1 (cellsOf v)).bind fun cs => fillV place cs rest else none := by
  simp only [fillV, Option.bind_eq_bind]
  cases place i with
  | none => rfl
  | some p =>
    simp only [Option.bind_some]
    by_cases h : (cellsOf v).length = p.2 ∧ okv v = true
    · rw [if_pos h, if_neg (by simp [h])]
    · rw [if_neg h, if_pos]
      by_cases h1 : (cellsOf v).length = p.2
      · exact .inr (by simp [h1] at h; simp [h])
      · exact .inl h1
theorem op_build {f : Nat} {call : Nat → FuncId → List V → H → Option (V × H)} {dst : Option Nat} {t : TypeId} {ps : List (Nat × Operand)} : opV c call f lo dst st (.build t ⟨ps⟩) = (evalP c st ps).bind fun l => (buildV c t l).map fun v => (.v v, st) := rfl
@[simp] theorem bound_none {d y : Nat} : bound none d y = some d := rfl
theorem slice_str {t : TypeId} {l : List UInt8} {lo' hi' : Option V} {a b : Nat} (hu : c.P.underlying t = some .string) (hb : bound hi' l.length l.length = some b) (ha : bound lo' 0 b = some a) :
    sliceV c t (.s (.string (bs l))) lo' hi' none = some (.t ((l.drop a).take (b - a))) := by
  simp [sliceV, hu, hb, ha]
theorem slice_vs {t e : TypeId} {tk : Tk} {w : Nat} {l : List V} {lo' hi' : Option V} {a b : Nat} (hu : c.P.underlying t = some (.slice e)) (hz : szOf c.P e = some w) (hb : bound hi' l.length l.length = some b) (ha : bound lo' 0 b = some a) :
    sliceV c t (vs tk w l) lo' hi' none = some (vs (cutTk false l.length b l.length a tk) w ((l.take b).drop a)) := by
  have e : vs (cutTk false l.length b l.length a tk) (if l = [] then 0 else w) ((l.take b).drop a) = vs (cutTk false l.length b l.length a tk) w ((l.take b).drop a) := by
    by_cases hl : l = []
    · subst hl; simp [vs]
    · rw [if_neg hl]
  rw [← e]
  by_cases hl : l = []
  · subst hl; simp only [vs, sliceV, hu, hz, hb, ha, Option.bind_eq_bind, Option.bind_some, if_true, Option.isSome_none, Bool.false_and, Bool.false_eq_true, if_false, ne_eq, not_true, and_false, bound_none]; rfl
  · simp only [vs, sliceV, hu, hz, hb, ha, Option.bind_eq_bind, Option.bind_some, if_neg hl, Option.isSome_none, Bool.false_and, Bool.false_eq_true, if_false, ne_eq, not_true, false_and, bound_none]; rfl
/-- A literal row that nobody writes to. -/
theorem build_row {f : Nat} {call : Nat → FuncId → List V → H → Option (V × H)} {d : Nat} {t e : TypeId} {w n : Nat} {z : V} {ps : List (Nat × Operand)} (he : elemOf? c.P t = some e) (hw : szOf c.P e = some w) (hz : zeroOf c.P e = some z) (hr : isRow c f (some d) = false)
    (h0 : w ≠ 0) (hn : n * w ≤ 16777216) (hl : (cellsOf z).length = w) :
    opV c call f lo (some d) st (.buildSlice t n ⟨ps⟩) = (evalP c st ps).bind fun l => if (l.all fun p => decide (p.1 < n) && (cellsOf p.2).length == w && okv p.2) = true then some (.v (vs .full w (elemsV (List.replicate n z) l)), st) else none := by
  simp only [opV, he, hw, hz, Option.bind_eq_bind, Option.bind_some, hr]
  cases evalP c st ps with
  | none => rfl
  | some l =>
    simp only [Option.bind_some]
    by_cases h : (l.all fun p => decide (p.1 < n) && (cellsOf p.2).length == w && okv p.2) = true
    · rw [if_pos h, if_neg (by simp only [h]; simp [h0, hl]; omega)]; rfl
    · rw [if_neg h, if_pos]
      exact .inr (.inr (.inr (by simpa using h)))
/-- Is a box's address handed on? -/
def escB (c : Cx) (f : FuncId) (d : Nat) : Bool := (c.esc f).contains d
/-- A new box. -/
def boxV (c : Cx) (f : FuncId) (d : Nat) (st : St) (cs : List V) : Option (Ent × St) :=
  if escB c f d = true then some (.v (.ptr st.h.length 0), push st (.cells cs))
  else if fresh d st.env = true then some (.lp d 0, { st with lb := (d, cs) :: st.lb.filter (fun p => p.1 != d) }) else none
/-- A new variable. -/
def boxO (c : Cx) (f : FuncId) (d : Nat) (st : St) (ob : O) (cs : List V) : Option (Ent × St) :=
  if escB c f d = true then some (.v (.ptr st.h.length 0), push st ob)
  else if fresh d st.env = true then some (.lp d 0, { st with lb := (d, cs) :: st.lb.filter (fun p => p.1 != d) }) else none
@[simp] theorem op_box {f : Nat} {call : Nat → FuncId → List V → H → Option (V × H)} {d : Nat} {t : TypeId} {x : Operand} : opV c call f lo (some d) st (.box t x) = (evalV c st x).bind fun v => if okv v = true then boxV c f d st (cellsOf v) else none := by
  simp only [opV, Option.bind_eq_bind]
  cases evalV c st x with
  | none => rfl
  | some v =>
    simp only [Option.bind_some]
    by_cases h : okv v = true
    · simp only [h, Bool.not_true, Bool.false_eq_true, if_false, if_true]; rfl
    · simp only [Bool.not_eq_true] at h; simp only [h, Bool.not_false, if_true, Bool.false_eq_true, if_false]
@[simp] theorem op_alloc {f : Nat} {call : Nat → FuncId → List V → H → Option (V × H)} {d : Nat} {t : TypeId} : opV c call f lo (some d) st (.alloc t) = (zeroOf c.P t).bind fun z => boxO c f d st (newO c t (cellsOf z)) (cellsOf z) := by
  simp only [opV, Option.bind_eq_bind]; rfl
/-- What a row tells, at places that are numbers. -/
theorem idx_int {k : IntKind} {i : Int} {n : Nat} (h0 : 0 ≤ i) (h1 : i < n) : idx (.s (.int k i)) n = some i.toNat := by
  simp only [idx]; rw [if_pos h0, if_pos h1]
theorem bound_int {k : IntKind} {i : Int} {d y : Nat} (h0 : 0 ≤ i) (h1 : i ≤ y) : bound (some (.s (.int k i))) d y = some i.toNat := by
  simp only [bound]; rw [if_pos h0, if_pos h1]
theorem indexAddr_i {t e : TypeId} {tk : Tk} {w : Nat} {i : Int} {l : List V} {k : IntKind} (hu : c.P.underlying t = some (.slice e)) (hz : szOf c.P e = some w) (h0 : 0 ≤ i) (h1 : i < l.length) :
    indexAddrV c t (.v (vs tk w l)) (.s (.int k i)) = some (.v (.vptr (cellsOf (l[i.toNat]'(by omega))))) := by
  obtain ⟨j, rfl⟩ : ∃ j : Nat, i = j := ⟨i.toNat, by omega⟩
  rw [indexAddr_vs hu hz (by omega)]; rfl
theorem index_str_i {t : TypeId} {l : List UInt8} {i : Int} {k : IntKind} (hu : c.P.underlying t = some .string) (h0 : 0 ≤ i) (h1 : i < l.length) : indexV c t (.s (.string (bs l))) (.s (.int k i)) = some (.s (.int .u8 (l[i.toNat]'(by omega)).toNat)) := by
  obtain ⟨j, rfl⟩ : ∃ j : Nat, i = j := ⟨i.toNat, by omega⟩
  rw [index_str hu (by omega)]; rfl
section
variable {t : TypeId} {l : List UInt8} {a b : Int} {k k' : IntKind}
theorem cut_str (hu : c.P.underlying t = some .string) (h0 : 0 ≤ a) (h1 : a ≤ b) (h2 : b ≤ l.length) : sliceV c t (.s (.string (bs l))) (some (.s (.int k a))) (some (.s (.int k' b))) none = some (.t ((l.drop a.toNat).take (b.toNat - a.toNat))) :=
  slice_str hu (bound_int (by omega) h2) (bound_int h0 (by omega))
theorem cut_str_lo (hu : c.P.underlying t = some .string) (h0 : 0 ≤ a) (h2 : a ≤ l.length) : sliceV c t (.s (.string (bs l))) (some (.s (.int k a))) none none = some (.t (l.drop a.toNat)) := by
  rw [slice_str hu bound_none (bound_int h0 h2)]; rw [List.take_of_length_le (by simp)]
theorem cut_str_hi (hu : c.P.underlying t = some .string) (h0 : 0 ≤ b) (h2 : b ≤ l.length) : sliceV c t (.s (.string (bs l))) none (some (.s (.int k b))) none = some (.t (l.take b.toNat)) := by
  rw [slice_str hu (bound_int h0 h2) bound_none]; rfl
end
section
variable {t e : TypeId} {tk : Tk} {w : Nat} {l : List V} {a b : Int} {k k' : IntKind}
theorem cut_vs (hu : c.P.underlying t = some (.slice e)) (hz : szOf c.P e = some w) (h0 : 0 ≤ a) (h1 : a ≤ b) (h2 : b ≤ l.length) : sliceV c t (vs tk w l) (some (.s (.int k a))) (some (.s (.int k' b))) none = some (vs (cutTk false l.length b.toNat l.length a.toNat tk) w ((l.take b.toNat).drop a.toNat)) :=
  slice_vs hu hz (bound_int (by omega) h2) (bound_int h0 (by omega))
theorem cut_vs_lo (hu : c.P.underlying t = some (.slice e)) (hz : szOf c.P e = some w) (h0 : 0 ≤ a) (h2 : a ≤ l.length) : sliceV c t (vs tk w l) (some (.s (.int k a))) none none = some (vs (cutTk false l.length l.length l.length a.toNat tk) w (l.drop a.toNat)) := by
  rw [slice_vs hu hz bound_none (bound_int h0 h2), List.take_length]
theorem cut_vs_hi (hu : c.P.underlying t = some (.slice e)) (hz : szOf c.P e = some w) (h0 : 0 ≤ b) (h2 : b ≤ l.length) : sliceV c t (vs tk w l) none (some (.s (.int k b))) none = some (vs (cutTk false l.length b.toNat l.length 0 tk) w (l.take b.toNat)) := by
  rw [slice_vs hu hz (bound_int h0 h2) bound_none]; rfl
end
theorem list_beq {α : Type} [BEq α] [LawfulBEq α] [DecidableEq α] (a b : List α) : (a == b) = decide (a = b) := by
  by_cases h : a = b
  · subst h; simp
  · simp [h]
@[simp] theorem eql_str {t : TypeId} {a b : List UInt8} : binOpV c .eql t (.s (.string (bs a))) (.s (.string (bs b))) = some (.s (.bool (decide (a = b)))) := by
  simp [binOpV, binS, bin, list_beq]
@[simp] theorem neq_str {t : TypeId} {a b : List UInt8} : binOpV c .neq t (.s (.string (bs a))) (.s (.string (bs b))) = some (.s (.bool (!decide (a = b)))) := by
  simp [binOpV, binS, bin, list_beq]
end
end Go.AM
namespace Go.AM
/-- Fields that are ints, one behind the other. -/
def intFs (P : Program) : Nat → List Field → Bool
  | _, [] => true
  | k, f :: fs => f.offset == k && f.name != "_" && (match P.underlying f.type with | some (.int .i64) => true | _ => false) && (szOf P f.type == some 1) && (isAg P f.type == some false) && intFs P (k + 1) fs
theorem eqfs_ints {P : Program} {eq : TypeId → V → V → Option Bool} (heq : ∀ t a b, P.underlying t = some (.int .i64) → eq t (.i a) (.i b) = some (a == b)) : ∀ (fs : List Field) (k : Nat) (xs ys : List Int), intFs P k fs = true →
    xs.length = k + fs.length → ys.length = k + fs.length → eqfs P eq (xs.map V.i) (ys.map V.i) fs = some (decide (xs.drop k = ys.drop k))
  | [], k, xs, ys, _, hx, hy => by
    simp only [List.length_nil, Nat.add_zero] at hx hy
    simp only [eqfs]
    rw [List.drop_of_length_le (by omega), List.drop_of_length_le (by omega)]; simp
  | f :: fs, k, xs, ys, h, hx, hy => by
    simp only [List.length_cons] at hx hy
    simp only [intFs, Bool.and_eq_true, beq_iff_eq, bne_iff_ne, ne_eq] at h
    obtain ⟨⟨⟨⟨⟨h1, h2⟩, h3⟩, h4⟩, h5⟩, h6⟩ := h
    have hu : P.underlying f.type = some (.int .i64) := by
      cases hq : P.underlying f.type with
      | none => simp [hq] at h3
      | some d => cases d <;> simp [hq] at h3; rename_i kk; cases kk <;> simp_all
    have hxk : k < xs.length := by omega
    have hyk : k < ys.length := by omega
    have fx : ∀ zs : List Int, (hz : k < zs.length) → fieldW P f (zs.map V.i) = some (.i zs[k]) := by
      intro zs hz
      simp [fieldW, h4, h5, h1, rd, List.getElem?_drop, hz]
    have ih := eqfs_ints heq fs (k + 1) xs ys h6 (by omega) (by omega)
    unfold eqfs
    rw [if_pos h2, fx xs hxk, fx ys hyk]
    simp only [Option.bind_eq_bind, Option.bind_some, heq _ _ _ hu]
    have e1 : xs.drop k = xs[k] :: xs.drop (k + 1) := List.drop_eq_getElem_cons hxk
    have e2 : ys.drop k = ys[k] :: ys.drop (k + 1) := List.drop_eq_getElem_cons hyk
    rw [ih]
    simp only [e1, e2, List.cons.injEq]
    by_cases hq : xs[k] = ys[k]
    · rw [if_pos (by simpa using hq)]; simp only [hq, true_and]
    · rw [if_neg (by simpa using hq)]; simp only [hq, false_and, decide_false]
theorem eqv_ints' {P : Program} {d : Nat} {t : TypeId} {fs : Array Field} {xs ys : List Int} (hu : P.underlying t = some (.struct fs)) (hs : P.stoodInHeld t = false) (hf : intFs P 0 fs.toList = true) (hx : xs.length = fs.size) (hy : ys.length = fs.size) :
    eqv P (d + 1 + 1) t (.agg (xs.map V.i)) (.agg (ys.map V.i)) = some (decide (xs = ys)) := by
  unfold eqv
  simp only [hu, hs, Bool.false_eq_true, if_false]
  rw [eqfs_ints (fun t a b h => by unfold eqv; simp only [h, if_true]) fs.toList 0 xs ys hf (by simpa using hx) (by simpa using hy)]
  rfl
theorem eqv_ints {P : Program} {t : TypeId} {fs : Array Field} {xs ys : List Int} (hu : P.underlying t = some (.struct fs)) (hs : P.stoodInHeld t = false) (hf : intFs P 0 fs.toList = true) (hx : xs.length = fs.size) (hy : ys.length = fs.size) :
    eqv P 100 t (.agg (xs.map V.i)) (.agg (ys.map V.i)) = some (decide (xs = ys)) := eqv_ints' (d := 98) hu hs hf hx hy
theorem guard_fs {P : Program} {d : Nat} : ∀ (fs : List Field) (k : Nat), intFs P k fs = true → fs.any (fun f => f.name != "_" && P.eqGuardType (d + 1) f.type) = false
  | [], _, _ => rfl
  | f :: fs, k, h => by
    simp only [intFs, Bool.and_eq_true, beq_iff_eq, bne_iff_ne, ne_eq] at h
    obtain ⟨⟨⟨⟨⟨h1, h2⟩, h3⟩, h4⟩, h5⟩, h6⟩ := h
    have hu : P.underlying f.type = some (.int .i64) := by
      cases hq : P.underlying f.type with
      | none => simp [hq] at h3
      | some d => cases d <;> simp [hq] at h3; rename_i kk; cases kk <;> simp_all
    have e : P.eqGuardType (d + 1) f.type = false := by unfold Program.eqGuardType; rw [hu]
    rw [List.any_cons, e, Bool.and_false, Bool.false_or]
    exact guard_fs fs (k + 1) h6
theorem guard_ints {P : Program} {d : Nat} {t : TypeId} {fs : Array Field} (hd : 2 ≤ d) (hu : P.underlying t = some (.struct fs)) (hf : intFs P 0 fs.toList = true) : P.eqGuardType d t = false := by
  obtain ⟨e, rfl⟩ : ∃ e, d = e + 1 + 1 := ⟨d - 2, by omega⟩
  unfold Program.eqGuardType
  rw [hu]
  simp only
  rw [← Array.any_toList]
  exact guard_fs _ 0 hf
section
variable {c : Cx} {t : TypeId} {fs : Array Field} {xs ys : List Int}
theorem eq_ints (hu : c.P.underlying t = some (.struct fs)) (hs : c.P.stoodInHeld t = false) (hd : 2 ≤ c.P.depth) (hf : intFs c.P 0 fs.toList = true) (hx : xs.length = fs.size) (hy : ys.length = fs.size) :
    binOpV c .eql t (.agg (xs.map V.i)) (.agg (ys.map V.i)) = some (.b (decide (xs = ys))) := by
  simp [binOpV, binS, eqV, plainE, isAggV, guard_ints hd hu hf, eqv_ints hu hs hf hx hy]
theorem ne_ints (hu : c.P.underlying t = some (.struct fs)) (hs : c.P.stoodInHeld t = false) (hd : 2 ≤ c.P.depth) (hf : intFs c.P 0 fs.toList = true) (hx : xs.length = fs.size) (hy : ys.length = fs.size) :
    binOpV c .neq t (.agg (xs.map V.i)) (.agg (ys.map V.i)) = some (.b (!decide (xs = ys))) := by
  simp [binOpV, binS, eqV, plainE, isAggV, guard_ints hd hu hf, eqv_ints hu hs hf hx hy]
end
/-- A primitive call. -/
theorem den_prim {c : Cx} {lo f : Nat} {args : List V} {h : H} {g : List V → Option V} (hp : c.prim f = some g) {v : V} (hv : g (fgL args) = some v) (hz : c.frz f = false := by rfl) : den c lo f args h = some (v, h) := by
  refine den_body hz ?_
  unfold bodyV
  rw [hp]
  simp only [hv, Option.map_some]
theorem Cl1_tup {h : H} {n : Nat} {l : List V} (e : l.all (clo 11) = true) : Cl1 h n (.tup l) = some (.tup (fgL l)) := Cl1_clo (v := .tup l) (by rw [show sealDepth = 11 + 1 from rfl, clo_tup]; exact e)
theorem Cl1_agg {h : H} {n : Nat} {l : List V} (e : l.all (clo 11) = true) : Cl1 h n (.agg l) = some (.agg (fgL l)) := Cl1_clo (v := .agg l) (by rw [show sealDepth = 11 + 1 from rfl, clo_agg]; exact e)
theorem Cl1_vs {h : H} {n w : Nat} {t : Tk} {l : List V} (e : l.all (clo 11) = true) : Cl1 h n (vs t w l) = some (vs .dead w (fgL l)) := by
  rw [Cl1_clo (v := vs t w l) (by rw [show sealDepth = 11 + 1 from rfl, clo_vs]; exact e), fg_vs]
theorem cmp_of {c : Cx} {t : TypeId} {x y : V} {r : Bool} (hx : plainE x = true) (ha : isAggV x = false) (hb : binS x y .eql = none) (hb' : binS x y .neq = none) (h : ∀ d, eqv c.P (d + 1) t x y = some r) :
    binOpV c .eql t x y = some (.b r) ∧ binOpV c .neq t x y = some (.b (!r)) := by
  have h := h 99
  constructor
  · simp only [binOpV, hb, eqV, hx, ha]; simp [h]
  · simp only [binOpV, hb', eqV, hx, ha]; simp [h]
section
variable {c : Cx} {t : TypeId}
theorem ifc_nn {ms} (hu : c.P.underlying t = some (.interface ms)) : binOpV c .eql t (.s .nilIface) (.s .nilIface) = some (.b true) ∧ binOpV c .neq t (.s .nilIface) (.s .nilIface) = some (.b false) :=
  cmp_of rfl rfl rfl rfl fun d => by unfold eqv; rw [hu]
theorem ifc_vn {ms} {u : TypeId} {v : V} (hu : c.P.underlying t = some (.interface ms)) : binOpV c .eql t (.ifc u v) (.s .nilIface) = some (.b false) ∧ binOpV c .neq t (.ifc u v) (.s .nilIface) = some (.b true) :=
  cmp_of rfl rfl rfl rfl fun d => by unfold eqv; rw [hu]
end
@[simp] theorem nilI2_ifc {t : TypeId} {v x : V} : nilI2 (.ifc t v) x = false := rfl
@[simp] theorem nilI2_agg {l : List V} {x : V} : nilI2 (.agg l) x = false := rfl
@[simp] theorem nilI2_ptr {b o : Nat} {x : V} : nilI2 (.ptr b o) x = false := rfl
@[simp] theorem nilI2_vptr {l : List V} {x : V} : nilI2 (.vptr l) x = false := rfl
@[simp] theorem nilI2_vs {t : Tk} {w : Nat} {l : List V} {x : V} : nilI2 (vs t w l) x = false := rfl
@[simp] theorem nilI2_ptr' {a : Value} {b o : Nat} : nilI2 (.s a) (.ptr b o) = false := by cases a <;> rfl
@[simp] theorem nilI2_ifc' {a : Value} {t : TypeId} {v : V} : nilI2 (.s a) (.ifc t v) = false := by cases a <;> rfl
end Go.AM
namespace Go.AM
section
variable {c : Cx} {lo : Nat} {st : St}
/-- Rows that are written to: a first append. -/
theorem append_row0 {t : TypeId} {w b w0 : Nat} {tk tk' : Tk} {l' : List V} (E : ElT c t w b) (ht : tk = .nil ∨ tk = .full) (hne : l' ≠ []) (hlen : l'.length * b ≤ mostLen) :
    appendV c lo st true t (vs tk w0 []) (vs tk' w l') = some (.msl st.h.length 0 l'.length w, push st (.cells (l'.flatMap cellsOf))) := by
  obtain ⟨⟨e, e1, e2, e3, z, e4, e5⟩, w0', b0⟩ := E
  have a1 := asl_vs (w := w) (w' := w0) (t := tk) (l := []) (.inr rfl)
  have a2 : newV w (vs tk' w l') = some l' := by
    have := asl_vs (w := w) (t := tk') (l := l') (.inl rfl)
    unfold newV
    simp only [vs] at this ⊢
    rw [this]; rfl
  unfold appendV
  simp only [e1, e2, e3, e4, Option.bind_eq_bind, Option.bind_some, a2]
  rw [if_neg (by simp [w0', b0, e5])]
  have hemp : l'.isEmpty = false := by cases l' <;> simp_all
  simp only [vs] at a1 ⊢
  simp only [a1, Option.bind_some, hemp, Bool.false_eq_true, if_false]
  rw [if_neg (by simp; omega)]
  rcases ht with rfl | rfl <;> simp
/-- A further append. -/
theorem append_row {t : TypeId} {w b k n : Nat} {m : Bool} {tk' : Tk} {l' cs : List V} (E : ElT c t w b) (hk : lo ≤ k) (hc : cellsAt st.h k = some cs) (hn : cs.length = n * w) (hne : l' ≠ []) (hlen : (n + l'.length) * b ≤ mostLen) :
    appendV c lo st m t (.msl k 0 n w) (vs tk' w l') = some (.msl st.h.length 0 (n + l'.length) w, { st with h := st.h.set k .dead ++ [.cells (cs ++ l'.flatMap cellsOf)] }) := by
  obtain ⟨⟨e, e1, e2, e3, z, e4, e5⟩, w0', b0⟩ := E
  have a2 : newV w (vs tk' w l') = some l' := by
    have := asl_vs (w := w) (t := tk') (l := l') (.inl rfl)
    unfold newV
    simp only [vs] at this ⊢
    rw [this]; rfl
  unfold appendV
  simp only [e1, e2, e3, e4, Option.bind_eq_bind, Option.bind_some, a2]
  rw [if_neg (by simp [w0', b0, e5])]
  have hemp : l'.isEmpty = false := by cases l' <;> simp_all
  simp only [hemp, Bool.false_eq_true, if_false]
  rw [if_neg (by simp; omega), hc]
  simp only [Option.bind_some]
  rw [if_neg (by simp [hn]; omega)]
  simp [push]
theorem len_msl {t e : TypeId} {b o n w : Nat} {h : H} (hu : c.P.underlying t = some (.slice e)) : lenV c t h (.msl b o n w) = some (.i n) := by simp [lenV, hu]
theorem indexAddr_msl {t e : TypeId} {b o n w : Nat} {i : Int} {k : IntKind} (hu : c.P.underlying t = some (.slice e)) (hz : szOf c.P e = some w) (h0 : 0 ≤ i) (h1 : i < n) :
    indexAddrV c t (.v (.msl b o n w)) (.s (.int k i)) = some (.v (.ptr b (o + i.toNat * w))) := by
  simp [indexAddrV, hu, hz, idx_int h0 h1]
theorem store_ptr {t : TypeId} {n : Nat} (hz : szOf c.P t = some n) {b off : Nat} {v : V} : storeAt c lo st t (.v (.ptr b off)) v = if (cellsOf v).length = n ∧ okv v = true ∧ lo ≤ b then (cellsAt st.h b).bind fun cs => (wr cs off (cellsOf v)).map fun cs => { st with h := st.h.set b (.cells cs) } else none := by
  simp only [storeAt, hz, Option.bind_eq_bind, Option.bind_some]
  by_cases h : (cellsOf v).length = n ∧ okv v = true
  · rw [if_neg (by simp [h])]
    by_cases hb : b < lo
    · rw [if_pos hb, if_neg (by omega)]
    · rw [if_neg hb, if_pos ⟨h.1, h.2, by omega⟩]
      cases cellsAt st.h b with
      | none => rfl
      | some cs => simp only [Option.bind_some]; cases wr cs off (cellsOf v) <;> rfl
  · rw [if_pos, if_neg (fun e => h ⟨e.1, e.2.1⟩)]
    by_cases h1 : (cellsOf v).length = n
    · exact .inr (by simp [h1] at h; simp [h])
    · exact .inl h1
end
theorem cellsAt_of {h : H} {b : Nat} {cs : List V} (e : h[b]? = some (.cells cs)) : cellsAt h b = some cs := by simp [cellsAt, e]
theorem cellsAt_lt {h : H} {b : Nat} {cs : List V} (e : cellsAt h b = some cs) : b < h.length := by
  unfold cellsAt at e
  split at e
  · rename_i q hq; exact (List.getElem?_eq_some_iff.1 hq).1
  · cases e
theorem cellsAt_set {h : H} {b : Nat} {cs : List V} (hb : b < h.length) : cellsAt (h.set b (.cells cs)) b = some cs := by simp [cellsAt, hb]
@[simp] theorem cellsAt_push {h : H} {cs : List V} : cellsAt (h ++ [.cells cs]) h.length = some cs := by simp [cellsAt]
theorem cellsAt_push' {h : H} {cs : List V} {b : Nat} (hb : h.length = b) : cellsAt (h ++ [.cells cs]) b = some cs := by subst hb; simp
/-- Elements of so many cells each. -/
theorem chunks_flat {w : Nat} : ∀ (l : List V), (∀ v ∈ l, (w ≠ 1 ∧ ∃ cs, v = .agg cs ∧ cs.length = w) ∨ (w = 1 ∧ okc v = true)) → chunks w l.length (l.flatMap cellsOf) = l
  | [], _ => rfl
  | v :: l, h => by
    have ih := chunks_flat (w := w) l fun u hu => h u (by simp [hu])
    simp only [List.length_cons, List.flatMap_cons, chunks]
    rcases h v (by simp) with ⟨h1, cs, rfl, h2⟩ | ⟨rfl, h2⟩
    · rw [if_neg h1]
      have e1 : (cellsOf (.agg cs) ++ l.flatMap cellsOf).take w = cs := by rw [cells_agg, List.take_left' h2]
      have e2 : (cellsOf (.agg cs) ++ l.flatMap cellsOf).drop w = l.flatMap cellsOf := by rw [cells_agg, List.drop_left' h2]
      rw [e1, e2, ih]
    · have e1 : cellsOf v = [v] := by cases v <;> first | rfl | simp [okc] at h2
      rw [if_pos rfl, e1]
      simp [ih]
theorem fgL_chunks {w : Nat} : ∀ (k : Nat) (m : List V), fgL (chunks w k m) = chunks w k (fgL m)
  | 0, _ => rfl
  | k + 1, m => by
    simp only [chunks, fgL_cons]
    rw [fgL_chunks k (m.drop w)]
    have e1 : (fgL m).drop w = fgL (m.drop w) := by simp [fgL_map, List.map_drop]
    have e2 : (fgL m).take w = fgL (m.take w) := by simp [fgL_map, List.map_take]
    rw [e1, e2]
    congr 1
    split
    · cases m with
      | nil => rfl
      | cons v m => rfl
    · rfl
theorem seal_msl {h : H} {n b k w d : Nat} {cs m : List V} (hb : n ≤ b) (hc : cellsAt h b = some cs) (hk : cs.length = k * w) (h1 : sealL (sealV h n d) cs = some m) : sealV h n (d + 1) (.msl b 0 k w) = some (.vsl .dead w (chunks w k m)) := by
  simp only [sealV]
  rw [if_neg (by omega), hc]
  simp only [Option.bind_eq_bind, Option.bind_some, List.drop_zero]
  rw [if_neg (by omega), List.take_of_length_le (by omega), h1]
  rfl
/-- A row of one's own, handed back. -/
theorem Cl1_msl {h : H} {n b k w : Nat} {cs l : List V} (hb : n ≤ b) (hc : cellsAt h b = some cs) (hk : cs.length = k * w) (hl : cs.all (clo 11) = true) (he : chunks w k cs = l) : Cl1 h n (.msl b 0 k w) = some (vs .dead w (fgL l)) := by
  subst he
  obtain ⟨m, h1, h2⟩ := sealL_fg (l := cs) fun v hv => clo_fg (h := h) (n := n) (List.all_eq_true.1 hl v hv)
  have e : sealV h n sealDepth (.msl b 0 k w) = some (.vsl .dead w (chunks w k m)) := seal_msl (d := 11) hb hc hk h1
  unfold Cl1
  rw [e, Option.map_some, fgL_chunks, ← h2, ← fgL_chunks]
  rfl
/-- The loops of a piece of code. -/
def lbs : Code → List Code
  | .seq a b => lbs a ++ lbs b
  | .cond _ a b => lbs a ++ lbs b
  | .block _ a => lbs a
  | .scope a => lbs a
  | .loop a => a :: lbs a
  | _ => []
def lpb (f : Func) (k : Nat) : Code := match f.body with
  | some code => (lbs code).getD k .skip
  | none => .skip
/-- The operations of regions. -/
def rgs : Code → List (Nat × List Oper)
  | .region id ops _ => [(id, ops.toList)]
  | .seq a b => rgs a ++ rgs b
  | .cond _ a b => rgs a ++ rgs b
  | .block _ a => rgs a
  | .loop a => rgs a
  | .scope a => rgs a
  | _ => []
def rg (f : Func) (id : Nat) : List Oper := match f.body with
  | some code => (((rgs code).find? (·.1 == id)).map (·.2)).getD []
  | none => []
theorem indep_of {ops : List Oper} {bf : List Nat} {env : List (Nat × Ent)} {fs : List Ft} (h : Region.before ⟨ops⟩ = ⟨bf⟩) (h2 : indep ⟨bf⟩ env fs = true) : indep (Region.before ⟨ops⟩) env fs = true := by rw [h]; exact h2
end Go.AM
namespace Go.AM
section
variable {c : Cx} {f lo blk : Nat} {st : St} {Q : X → St → Prop}
/-- A loop, by what holds of what is carried; what comes behind it stands aside. -/
theorem Wp.loopQ {a : Code} (I : Nat → List Ent → List (Nat × List V) → H → Prop) {n : Nat}
    (h0 : I n ((c.carry f blk).1.map (getE st.env)) (st.lb.filter fun p => !(c.carry f blk).2.2.contains p.1) st.h)
    (step : ∀ n vs lb h, I n vs lb h → ∀ Q' : X → St → Prop, (∀ x s, Q x s → Q' x s) → Wp c f lo blk a ⟨(c.carry f blk).1.zip vs ++ st.env.filter (fun p => !((c.carry f blk).1 ++ (c.carry f blk).2.1).contains p.1), lb, h⟩
      (Again (c.carry f blk) (st.env.filter (fun p => !((c.carry f blk).1 ++ (c.carry f blk).2.1).contains p.1)) I n Q')) : Wp c f lo blk (.loop a) st Q :=
  Wp.loopI I h0 fun n vs lb h hi => step n vs lb h hi Q fun _ _ h => h
theorem indexAddr_arr {t e : TypeId} {b off n w : Nat} {i : Int} {k : IntKind} (hu : c.P.underlying t = some (.array n e)) (hz : szOf c.P e = some w) (h0 : 0 ≤ i) (h1 : i < n) :
    indexAddrV c t (.lp b off) (.s (.int k i)) = some (.lp b (off + i.toNat * w)) := by
  simp [indexAddrV, hu, hz, idx_int h0 h1]
end
/-- No slot holds the box's address. -/
def noLp (t : Nat) : List (Nat × Ent) → Bool
  | [] => true
  | (_, x) :: e => !x.isLp t && noLp t e
@[simp] theorem noLp_nil {t : Nat} : noLp t [] = true := rfl
@[simp] theorem noLp_v {t k : Nat} {v : V} {e : List (Nat × Ent)} : noLp t ((k, .v v) :: e) = noLp t e := by simp [noLp, Ent.isLp]
@[simp] theorem noLp_lp {t k u o : Nat} {e : List (Nat × Ent)} : noLp t ((k, .lp u o) :: e) = (!(u == t) && noLp t e) := by simp [noLp, Ent.isLp]
theorem fresh_no {t : Nat} {env : List (Nat × Ent)} (h : noLp t env = true) : fresh t env = true := by
  unfold fresh
  rw [List.all_eq_true]
  intro p hp
  have : p.2.isLp t = false := by
    induction env with
    | nil => cases hp
    | cons q e ih =>
      obtain ⟨k, x⟩ := q
      simp only [noLp, Bool.and_eq_true, Bool.not_eq_true'] at h
      rcases List.mem_cons.1 hp with rfl | hp
      · exact h.1
      · exact ih h.2 hp
  rw [this]; rfl
end Go.AM
namespace Go.AM.Pl
set_option linter.unusedVariables false
set_option linter.unusedSimpArgs false
open Go
abbrev Wd := Nat × List UInt8
/-- A span. -/
structure Spn where
  f0 : Int
  f1 : Int
  deriving DecidableEq, Inhabited
-- XPStr
/-- A text's parts between the bytes c. -/
def splitL (c : UInt8) : List UInt8 → List (List UInt8)
  | [] => [[]]
  | b :: r => if b = c then [] :: splitL c r else match splitL c r with | [] => [[b]] | h :: t => (b :: h) :: t
theorem splitL_ne (c : UInt8) : ∀ l, splitL c l ≠ []
  | [] => by simp [splitL]
  | b :: r => by
    unfold splitL
    split
    · simp
    · split <;> simp
theorem splitL_none {c : UInt8} : ∀ {l : List UInt8}, c ∉ l → splitL c l = [l]
  | [], _ => rfl
  | b :: r, h => by
    have h1 : ¬ b = c := fun e => h (by rw [e]; exact List.mem_cons_self)
    have h2 : c ∉ r := fun e => h (List.mem_cons_of_mem _ e)
    unfold splitL
    rw [if_neg h1, splitL_none h2]
theorem splitL_hit {c : UInt8} : ∀ {p : List UInt8} (q : List UInt8), c ∉ p → splitL c (p ++ c :: q) = p :: splitL c q
  | [], q, _ => by
    show splitL c (c :: q) = _
    rw [splitL, if_pos rfl]
  | b :: p, q, h => by
    have h1 : ¬ b = c := fun e => h (by rw [e]; exact List.mem_cons_self)
    have h2 : c ∉ p := fun e => h (List.mem_cons_of_mem _ e)
    show splitL c (b :: (p ++ c :: q)) = _
    rw [splitL, if_neg h1, splitL_hit q h2]
/-- Where the first c stands. -/
theorem first_of {l : List UInt8} {c : UInt8} {i : Nat} (h : Lib.indexByte l c = i) : ∃ p q, l = p ++ c :: q ∧ c ∉ p ∧ p.length = i := by
  obtain ⟨h1, h2⟩ := Lib.indexByte_some h
  obtain ⟨hl, he⟩ := List.getElem?_eq_some_iff.1 h1
  refine ⟨l.take i, l.drop (i + 1), ?_, fun hm => ?_, by simp; omega⟩
  · rw [← he, ← List.drop_eq_getElem_cons hl, List.take_append_drop]
  · obtain ⟨k, hk, e⟩ := List.getElem_of_mem hm
    rw [List.length_take] at hk
    apply h2 k (by omega)
    rw [List.getElem_take] at e
    rw [List.getElem?_eq_getElem (by omega), e]
theorem none_of {l : List UInt8} {c : UInt8} (h : Lib.indexByte l c = -1) : c ∉ l := fun hm => by
  obtain ⟨k, hk, e⟩ := List.getElem_of_mem hm
  exact Lib.indexByte_none h k (by rw [List.getElem?_eq_getElem hk, e])
theorem index_cases (l : List UInt8) (c : UInt8) : (Lib.index l [c] = -1 ∧ c ∉ l) ∨ ∃ p q, Lib.index l [c] = p.length ∧ l = p ++ c :: q ∧ c ∉ p := by
  rw [Lib.index_one]
  have hg := Lib.indexByte_ge l c
  by_cases h : Lib.indexByte l c = -1
  · exact .inl ⟨h, none_of h⟩
  · obtain ⟨i, hi⟩ : ∃ i : Nat, Lib.indexByte l c = i := ⟨(Lib.indexByte l c).toNat, by omega⟩
    obtain ⟨p, q, e, hp, hl⟩ := first_of hi
    exact .inr ⟨p, q, by rw [hi, hl], e, hp⟩
/-- A text with a byte c, or without. -/
theorem cases_at (l : List UInt8) (c : UInt8) : c ∉ l ∨ ∃ p q, l = p ++ c :: q ∧ c ∉ p := by
  rcases index_cases l c with ⟨_, h⟩ | ⟨p, q, _, e, h⟩
  · exact .inl h
  · exact .inr ⟨p, q, e, h⟩
-- XPWordA
def isDig (c : UInt8) : Bool := decide (48 ≤ c.toNat) && decide (c.toNat ≤ 57)
theorem isDig_iff {c : UInt8} : isDig c = true ↔ 48 ≤ c.toNat ∧ c.toNat ≤ 57 := by simp [isDig]
def head48 : List UInt8 → Bool
  | [] => false
  | c :: r => r.isEmpty || (c != 48)
def numT (l : List UInt8) : Bool := l.all isDig && head48 l
def dstep (a : Nat) (c : UInt8) : Nat := a * 10 + (c.toNat - 48)
def valA (acc : Nat) (l : List UInt8) : Nat := l.foldl dstep acc
theorem valA_cons (acc : Nat) (c : UInt8) (r : List UInt8) : valA acc (c :: r) = valA (acc * 10 + (c.toNat - 48)) r := List.foldl_cons ..
theorem valA_nil (acc : Nat) : valA acc [] = acc := List.foldl_nil ..
theorem valA_ge : ∀ (l : List UInt8) (acc : Nat), acc ≤ valA acc l
  | [], acc => by rw [valA_nil]; exact Nat.le_refl _
  | c :: r, acc => by
    have := valA_ge r (acc * 10 + (c.toNat - 48))
    rw [valA_cons]
    omega
def val (l : List UInt8) : Nat := valA 0 l
theorem numT_all {l : List UInt8} (h : numT l = true) : l.all isDig = true := by unfold numT at h; rw [Bool.and_eq_true] at h; exact h.1
theorem numT_ne {l : List UInt8} (h : numT l = true) : l ≠ [] := by
  rintro rfl
  simp [numT, head48] at h
/-- The number of a text, at most 'most'. -/
def numR (l : List UInt8) (most : Int) : Int × Int := if numT l = true then (if val l < 9223372036854775808 then (if most < (val l : Int) then (0, 4) else ((val l : Int), 0)) else (0, 4)) else (0, 7)
theorem digits_len (j : Nat) : ∀ u : Nat, u < 10 ^ (j + 1) → (Lib.decDigits u).length ≤ j + 1 := by
  induction j with
  | zero => intro u h; rw [Lib.decDigits, dif_pos (by simpa using h)]; simp
  | succ j ih =>
    intro u h
    rw [Lib.decDigits]
    split
    · simp
    · have := ih (u / 10) (by rw [Nat.pow_succ] at h; omega)
      simp
      exact this
theorem digits_pos (u : Nat) : 1 ≤ (Lib.decDigits u).length := by
  rw [Lib.decDigits]
  split <;> simp
theorem itoa_len (n : Int) (h0 : -9223372036854775808 ≤ n) (h1 : n ≤ 9223372036854775807) : (Lib.itoa n).length ≤ 20 := by
  unfold Lib.itoa
  split
  · have := digits_len 18 n.natAbs (by omega)
    simp; omega
  · have := digits_len 18 n.toNat (by omega)
    omega
def dgN (d : Nat) : UInt8 := UInt8.ofNat (48 + d)
def toldL (a b : Int) : List UInt8 := Lib.itoa a ++ 45 :: Lib.itoa b
def i64B (n : Int) : Prop := -9223372036854775808 ≤ n ∧ n ≤ 9223372036854775807
theorem numR_err {l : List UInt8} {most : Int} (h : numT l = true) : (numR l most).2 = 0 ∨ numR l most = (0, 4) := by
  unfold numR
  rw [if_pos h]
  split
  · split
    · exact .inr rfl
    · exact .inl rfl
  · exact .inr rfl
/-- The span of two texts. -/
def spanP (p q : List UInt8) : Int × Int × Int :=
  if numT p = true ∧ numT q = true then
    (if (numR p 40320).2 = 0 then (if (numR q 40320).2 = 0 then (if (numR p 40320).1 ≥ (numR q 40320).1 then (0, 0, 3) else ((numR p 40320).1, (numR q 40320).1, 0)) else (0, 0, 4)) else (0, 0, 4))
  else (0, 0, 7)
def spanR (l : List UInt8) : Int × Int × Int := match splitL 45 l with
  | [p, q] => spanP p q
  | _ => (0, 0, 7)
theorem dash_no {l : List UInt8} (h : 45 ∈ l) : numT l = false := by
  unfold numT
  rw [Bool.and_eq_false_iff]
  left
  rw [List.all_eq_false]
  exact ⟨45, h, by decide⟩
theorem spanR_none {l : List UInt8} (h : 45 ∉ l) : spanR l = (0, 0, 7) := by unfold spanR; rw [splitL_none h]
theorem spanR_one {p q : List UInt8} (hp : 45 ∉ p) (hq : 45 ∉ q) : spanR (p ++ 45 :: q) = spanP p q := by unfold spanR; rw [splitL_hit q hp, splitL_none hq]
theorem spanR_two {p q : List UInt8} (hp : 45 ∉ p) (hq : 45 ∈ q) : spanR (p ++ 45 :: q) = (0, 0, 7) := by
  obtain ⟨a, b, rfl, ha⟩ := (cases_at q 45).resolve_left (fun h => h hq)
  unfold spanR
  rw [splitL_hit _ hp, splitL_hit _ ha]
  split
  · rename_i x y e
    injection e with e1 e2
    injection e2 with e3 e4
    exact absurd e4 (splitL_ne 45 b)
  · rfl
-- XPWordC
def prt (c : UInt8) : Bool := decide (33 ≤ c.toNat) && decide (c.toNat ≤ 126)
theorem prt_iff {c : UInt8} : prt c = true ↔ 33 ≤ c.toNat ∧ c.toNat ≤ 126 := by simp [prt]
/-- A line's words, from a place on, behind the beginning 'cur' of a word that stands at f; or the place that is wrong. -/
def spl : Nat → List UInt8 → List UInt8 → Except Nat (List (Nat × List UInt8))
  | f, cur, [] => if cur = [] then .error f else .ok [(f, cur)]
  | f, cur, c :: r => if c = 32 then (if cur = [] then .error f else (spl (f + cur.length + 1) [] r).map ((f, cur) :: ·)) else if prt c = true then spl f (cur ++ [c]) r else .error (f + cur.length)
def splR (l : List UInt8) : Except Nat (List (Nat × List UInt8)) := if l = [] then .ok [] else spl 0 [] l
-- XPWordD
theorem dgN_nat {d : Nat} (h : d < 10) : (dgN d).toNat = 48 + d := by unfold dgN; rw [UInt8.toNat_ofNat']; omega
theorem dgN_dig {d : Nat} (h : d < 10) : isDig (dgN d) = true := by rw [isDig_iff, dgN_nat h]; omega
theorem digits_all (u : Nat) : (Lib.decDigits u).all isDig = true := by
  induction u using Nat.strongRecOn with
  | _ u ih =>
    rw [Lib.decDigits]
    split
    · rename_i h
      rw [List.all_cons, List.all_nil, Bool.and_true]
      exact dgN_dig h
    · rename_i h
      rw [List.all_append, ih (u / 10) (by omega), Bool.true_and, List.all_cons, List.all_nil, Bool.and_true]
      exact dgN_dig (by omega)
theorem digits_head (u : Nat) (h1 : 1 ≤ u) : ∃ c r, Lib.decDigits u = c :: r ∧ c ≠ 48 := by
  induction u using Nat.strongRecOn with
  | _ u ih =>
    rw [Lib.decDigits]
    split
    · rename_i h
      refine ⟨dgN u, [], rfl, fun e => ?_⟩
      have := dgN_nat h
      rw [e] at this
      have : (48 : UInt8).toNat = 48 + u := this
      have h48 : (48 : UInt8).toNat = 48 := rfl
      omega
    · rename_i h
      obtain ⟨c, r, e, hc⟩ := ih (u / 10) (by omega) (by omega)
      exact ⟨c, r ++ [UInt8.ofNat (48 + u % 10)], by rw [e]; rfl, hc⟩
theorem numT_digits (u : Nat) : numT (Lib.decDigits u) = true := by
  unfold numT
  rw [digits_all, Bool.true_and]
  by_cases h : 1 ≤ u
  · obtain ⟨c, r, e, hc⟩ := digits_head u h
    rw [e]
    simp [head48, hc]
  · have : u = 0 := by omega
    subst this
    rw [Lib.decDigits, dif_pos (by omega)]
    rfl
theorem val_digits (u : Nat) : val (Lib.decDigits u) = u := by
  induction u using Nat.strongRecOn with
  | _ u ih =>
    rw [Lib.decDigits]
    split
    · rename_i h
      show dstep 0 (dgN u) = u
      unfold dstep
      rw [dgN_nat h]
      omega
    · rename_i h
      have := ih (u / 10) (by omega)
      unfold val valA at this ⊢
      rw [List.foldl_append, this]
      show dstep (u / 10) (dgN (u % 10)) = u
      unfold dstep
      rw [dgN_nat (by omega)]
      omega
theorem digits_no (u : Nat) : (45 : UInt8) ∉ Lib.decDigits u := fun h => by
  have := dash_no h
  rw [numT_digits] at this
  cases this
theorem itoa_pos {n : Int} (h : 0 ≤ n) : Lib.itoa n = Lib.decDigits n.toNat := by unfold Lib.itoa; rw [if_neg (by omega)]
theorem itoa_min {n : Int} (h : n < 0) : Lib.itoa n = 45 :: Lib.decDigits n.natAbs := by unfold Lib.itoa; rw [if_pos h]
theorem numR_itoa {n : Int} (most : Int) (h : 0 ≤ n) (h1 : n ≤ 9223372036854775807) : numR (Lib.itoa n) most = if most < n then (0, 4) else (n, 0) := by
  rw [itoa_pos h]
  unfold numR
  rw [if_pos (numT_digits _), val_digits, if_pos (by omega), show ((n.toNat : Nat) : Int) = n by omega]
theorem numT_itoa {n : Int} (h : 0 ≤ n) : numT (Lib.itoa n) = true := by rw [itoa_pos h]; exact numT_digits _
/-- What is told of a span is read as it. -/
def spanB (a b : Int) : Int × Int × Int := if 0 ≤ a ∧ 0 ≤ b then (if a ≤ 40320 ∧ b ≤ 40320 then (if a ≥ b then (0, 0, 3) else (a, b, 0)) else (0, 0, 4)) else (0, 0, 7)
theorem span_told (a b : Int) (ha : i64B a) (hb : i64B b) : spanR (toldL a b) = spanB a b := by
  unfold spanB toldL
  by_cases h1 : 0 ≤ a
  case neg =>
    rw [if_neg (fun h => h1 h.1), itoa_min (show a < 0 by omega)]
    exact spanR_two (p := []) (by simp) (by simp)
  have na : (45 : UInt8) ∉ Lib.itoa a := by rw [itoa_pos h1]; exact digits_no _
  by_cases h2 : 0 ≤ b
  case neg =>
    rw [if_neg (fun h => h2 h.2), itoa_min (show b < 0 by omega)]
    exact spanR_two na (by simp)
  have nb : (45 : UInt8) ∉ Lib.itoa b := by rw [itoa_pos h2]; exact digits_no _
  rw [if_pos ⟨h1, h2⟩, spanR_one na nb]
  unfold spanP
  rw [if_pos ⟨numT_itoa h1, numT_itoa h2⟩, numR_itoa 40320 h1 ha.2, numR_itoa 40320 h2 hb.2]
  by_cases c1 : (40320 : Int) < a
  · rw [if_pos c1, if_neg (show ¬ (a ≤ 40320 ∧ b ≤ 40320) by omega)]
    rfl
  · by_cases c2 : (40320 : Int) < b
    · rw [if_neg c1, if_pos c2, if_neg (show ¬ (a ≤ 40320 ∧ b ≤ 40320) by omega)]
      rfl
    · rw [if_neg c1, if_neg c2, if_pos (show a ≤ 40320 ∧ b ≤ 40320 by omega)]
      rfl

/-! ### Words, joined -/
theorem join_words : ∀ (rest : List UInt8) (f : Nat) (cur : List UInt8) (ws : List (Nat × List UInt8)), spl f cur rest = .ok ws → ws ≠ [] ∧ Lib.join (ws.map (·.2)) [32] = cur ++ rest
  | [], f, cur, ws, h => by
    unfold spl at h
    split at h
    · cases h
    · cases h
      simp [Lib.join_one]
  | c :: r, f, cur, ws, h => by
    unfold spl at h
    split at h
    · split at h
      · cases h
      · rename_i hc hcur
        cases e : spl (f + cur.length + 1) [] r with
        | error p => rw [e] at h; cases h
        | ok ws' =>
          rw [e] at h
          cases h
          obtain ⟨hn, hj⟩ := join_words r _ [] ws' e
          refine ⟨by simp, ?_⟩
          cases ws' with
          | nil => exact absurd rfl hn
          | cons x ws'' =>
            rw [List.map_cons, Lib.join_cons] at hj
            rw [List.map_cons, List.map_cons, Lib.join_cons, Lib.joinTail, List.map_cons, List.flatten_cons]
            have : x.2 ++ Lib.joinTail [32] (ws''.map (·.2)) = r := by
              have := hj
              simpa using this
            rw [← this, hc]
            simp [Lib.joinTail]
    · split at h
      · obtain ⟨hn, hj⟩ := join_words r f (cur ++ [c]) ws h
        exact ⟨hn, by rw [hj]; simp⟩
      · cases h
/-- Each word stands where it is told. -/
theorem words_at (L : List UInt8) : ∀ (rest : List UInt8) (f : Nat) (cur : List UInt8) (ws : List (Nat × List UInt8)), spl f cur rest = .ok ws → L.drop f = cur ++ rest → f ≤ L.length → ∀ x ∈ ws, x.1 + x.2.length ≤ L.length ∧ (L.drop x.1).take x.2.length = x.2
  | [], f, cur, ws, h, hd, hf => by
    unfold spl at h
    split at h
    · cases h
    · cases h
      intro x hx
      obtain rfl := List.mem_singleton.1 hx
      have hl : L.length = f + cur.length := by have := congrArg List.length hd; simp at this; omega
      exact ⟨by simp [hl], by simp [hd]⟩
  | c :: r, f, cur, ws, h, hd, hf => by
    have hl : L.length = f + cur.length + r.length + 1 := by have := congrArg List.length hd; simp at this; omega
    unfold spl at h
    split at h
    · split at h
      · cases h
      · cases e : spl (f + cur.length + 1) [] r with
        | error p => rw [e] at h; cases h
        | ok ws' =>
          rw [e] at h
          cases h
          intro x hx
          rcases List.mem_cons.1 hx with rfl | hx
          · exact ⟨by simp; omega, by simp [hd]⟩
          · refine words_at L r (f + cur.length + 1) [] ws' e ?_ (by omega) x hx
            rw [Nat.add_assoc, ← List.drop_drop, hd, ← List.drop_drop]
            simp
    · split at h
      · exact words_at L r f (cur ++ [c]) ws h (by rw [hd]; simp) hf
      · cases h
theorem splR_ok {L : List UInt8} {ws : List (Nat × List UInt8)} (h : splR L = .ok ws) : Lib.join (ws.map (·.2)) [32] = L ∧ ∀ x ∈ ws, x.1 + x.2.length ≤ L.length ∧ (L.drop x.1).take x.2.length = x.2 := by
  unfold splR at h
  split at h
  · rename_i e
    cases h
    rw [e]
    exact ⟨rfl, fun x hx => by cases hx⟩
  · exact ⟨(join_words L 0 [] ws h).2, words_at L L 0 [] ws h rfl (by omega)⟩
-- XPWordE
theorem spl_wl : ∀ (l : List UInt8) (f : Nat) (cur : List UInt8) (ws : List (Nat × List UInt8)), spl f cur l = .ok ws → ∀ x ∈ ws, x.2.length ≤ cur.length + l.length
  | [], f, cur, ws, h => by
    unfold spl at h
    split at h
    · cases h
    · cases h
      intro x hx
      obtain rfl := List.mem_singleton.1 hx
      simp
  | c :: r, f, cur, ws, h => by
    unfold spl at h
    split at h
    · split at h
      · cases h
      · cases e : spl (f + cur.length + 1) [] r with
        | error p => rw [e] at h; cases h
        | ok ws' =>
          rw [e] at h
          cases h
          intro x hx
          rcases List.mem_cons.1 hx with rfl | hx
          · simp
          · have := spl_wl r _ [] ws' e x hx
            simp at this ⊢
            omega
    · split at h
      · intro x hx
        have := spl_wl r f (cur ++ [c]) ws h x hx
        simp at this ⊢
        omega
      · cases h
theorem splR_wl {l : List UInt8} {ws : List (Nat × List UInt8)} (h : splR l = .ok ws) : ∀ x ∈ ws, x.2.length ≤ l.length := by
  unfold splR at h
  split at h
  · cases h
    intro x hx
    cases hx
  · intro x hx
    have := spl_wl l 0 [] ws h x hx
    simpa using this
theorem spl_word' (p : List UInt8) : ∀ (f : Nat) (cur : List UInt8) (r : List UInt8), (∀ c ∈ p, prt c = true) → cur ++ p ≠ [] → spl f cur (p ++ 32 :: r) = (spl (f + (cur ++ p).length + 1) [] r).map ((f, cur ++ p) :: ·) := by
  induction p with
  | nil =>
    intro f cur r _ hne
    have hc : cur ≠ [] := by simpa using hne
    simp [spl, hc]
  | cons c p ih =>
    intro f cur r hp hne
    have hpc := hp c (by simp)
    have hc : ¬ c = 32 := fun e => by rw [e] at hpc; exact absurd hpc (by decide)
    show spl f cur (c :: (p ++ 32 :: r)) = _
    rw [spl, if_neg hc, if_pos hpc, ih f (cur ++ [c]) r (fun x hx => hp x (by simp [hx])) (by simp)]
    simp
theorem spl_last' (p : List UInt8) : ∀ (f : Nat) (cur : List UInt8), (∀ c ∈ p, prt c = true) → cur ++ p ≠ [] → spl f cur p = .ok [(f, cur ++ p)] := by
  induction p with
  | nil =>
    intro f cur _ hne
    have hc : cur ≠ [] := by simpa using hne
    simp [spl, hc]
  | cons c p ih =>
    intro f cur hp hne
    have hpc := hp c (by simp)
    have hc : ¬ c = 32 := fun e => by rw [e] at hpc; exact absurd hpc (by decide)
    rw [spl, if_neg hc, if_pos hpc, ih f (cur ++ [c]) (fun x hx => hp x (by simp [hx])) (by simp)]
    simp
theorem dig_prt' {c : UInt8} (h : isDig c = true) : prt c = true := by have := isDig_iff.1 h; rw [prt_iff]; omega
theorem itoa_prt {a : Int} (ha : 0 ≤ a) : ∀ c ∈ Lib.itoa a, prt c = true := by
  intro c hc
  rw [itoa_pos ha] at hc
  exact dig_prt' (List.all_eq_true.1 (digits_all _) c hc)
theorem told_prt' (a b : Int) (ha : 0 ≤ a) (hb : 0 ≤ b) : ∀ c ∈ toldL a b, prt c = true := by
  intro c hc
  unfold toldL at hc
  rcases List.mem_append.1 hc with h | h
  · exact itoa_prt ha c h
  · rcases List.mem_cons.1 h with h | h
    · rw [h]; decide
    · exact itoa_prt hb c h
theorem told_ne' (a b : Int) : toldL a b ≠ [] := by unfold toldL; simp
theorem prt_ne10 {c : UInt8} (h : prt c = true) : c ≠ 10 := fun e => by rw [e] at h; exact absurd h (by decide)
/-- A numeral is the one of its number. -/
theorem val_snoc (p : List UInt8) (c : UInt8) : val (p ++ [c]) = val p * 10 + (c.toNat - 48) := by simp [val, valA, dstep, List.foldl_append]
theorem digits_val' (n : Nat) : ∀ l : List UInt8, l.length = n → numT l = true → Lib.decDigits (val l) = l := by
  induction n with
  | zero =>
    intro l hl h
    rw [List.eq_nil_of_length_eq_zero hl] at h
    cases h
  | succ n ihn =>
    intro l hl h
    obtain ⟨p, c, rfl⟩ : ∃ p c, l = p ++ [c] := by
      rcases List.eq_nil_or_concat l with rfl | ⟨p, c, rfl⟩
      · cases hl
      · exact ⟨p, c, List.concat_eq_append⟩
    have ih := ihn p (by simpa using hl)
    have hall := numT_all h
    rw [List.all_append, Bool.and_eq_true] at hall
    have hc := isDig_iff.1 (by simpa using hall.2 : isDig c = true)
    have e48 : UInt8.ofNat (48 + (c.toNat - 48)) = c := by rw [show 48 + (c.toNat - 48) = c.toNat by omega]; exact UInt8.ofNat_toNat
    rw [val_snoc]
    cases p with
    | nil =>
      rw [show val [] * 10 + (c.toNat - 48) = c.toNat - 48 by simp [val, valA], Lib.decDigits, dif_pos (by omega), e48]
      rfl
    | cons a r =>
      have ha : (a != 48) = true := by
        unfold numT at h
        rw [Bool.and_eq_true] at h
        simpa [head48] using h.2
      have hp : numT (a :: r) = true := by
        unfold numT
        rw [hall.1, Bool.true_and]
        simp only [head48, ha, Bool.or_true]
      have e := ih hp
      have hpos : 1 ≤ val (a :: r) := by
        rcases Nat.eq_zero_or_pos (val (a :: r)) with h0 | h0
        · rw [h0, Lib.decDigits, dif_pos (by omega)] at e
          injection e with e _
          rw [← e] at ha
          exact absurd ha (by decide)
        · exact h0
      rw [Lib.decDigits, dif_neg (by omega), show (val (a :: r) * 10 + (c.toNat - 48)) / 10 = val (a :: r) by omega, show (val (a :: r) * 10 + (c.toNat - 48)) % 10 = c.toNat - 48 by omega, e, e48]
theorem digits_val (l : List UInt8) (h : numT l = true) : Lib.decDigits (val l) = l := digits_val' _ l rfl h
theorem numR_ok {l : List UInt8} {most : Int} (h : numT l = true) (h2 : (numR l most).2 = 0) : (numR l most).1 = (val l : Int) ∧ (val l : Int) ≤ most ∧ val l < 9223372036854775808 := by
  unfold numR at h2 ⊢
  rw [if_pos h] at h2 ⊢
  by_cases h3 : val l < 9223372036854775808
  · rw [if_pos h3] at h2 ⊢
    by_cases h4 : most < (val l : Int)
    · rw [if_pos h4] at h2; exact absurd h2 (by decide)
    · rw [if_neg h4]; exact ⟨rfl, by omega, h3⟩
  · rw [if_neg h3] at h2; exact absurd h2 (by decide)
theorem itoa_val {l : List UInt8} (h : numT l = true) : Lib.itoa (val l : Int) = l := by
  rw [itoa_pos (by omega), Int.toNat_natCast]
  exact digits_val l h
theorem span_canon {t : List UInt8} {a b : Int} (h : spanR t = (a, b, 0)) : t = toldL a b ∧ 0 ≤ a ∧ a < b ∧ b ≤ 40320 := by
  rcases cases_at t 45 with hn | ⟨p, q, rfl, hp⟩
  · rw [spanR_none hn] at h; simp at h
  · by_cases hq : 45 ∈ q
    · rw [spanR_two hp hq] at h; simp at h
    · rw [spanR_one hp hq] at h
      unfold spanP at h
      by_cases h1 : numT p = true ∧ numT q = true
      · rw [if_pos h1] at h
        by_cases h2 : (numR p 40320).2 = 0
        · rw [if_pos h2] at h
          by_cases h3 : (numR q 40320).2 = 0
          · rw [if_pos h3] at h
            obtain ⟨e1, b1, _⟩ := numR_ok h1.1 h2
            obtain ⟨e2, b2, _⟩ := numR_ok h1.2 h3
            rw [e1, e2] at h
            by_cases h4 : (val p : Int) ≥ (val q : Int)
            · rw [if_pos h4] at h; simp at h
            · rw [if_neg h4] at h
              simp only [Prod.mk.injEq] at h
              obtain ⟨rfl, rfl, _⟩ := h
              unfold toldL
              rw [itoa_val h1.1, itoa_val h1.2]
              exact ⟨rfl, by omega, by omega, by omega⟩
          · rw [if_neg h3] at h; simp at h
        · rw [if_neg h2] at h; simp at h
      · rw [if_neg h1] at h; simp at h
theorem span_ok {a b : Int} (ha : 0 ≤ a) (hab : a < b) (hb : b ≤ 40320) : spanR (toldL a b) = (a, b, 0) := by
  rw [span_told a b (by unfold i64B; omega) (by unfold i64B; omega)]
  unfold spanB
  rw [if_pos (show 0 ≤ a ∧ 0 ≤ b by omega), if_pos (show a ≤ 40320 ∧ b ≤ 40320 by omega), if_neg (show ¬ a ≥ b by omega)]
-- XPWordT
def lin : List UInt8 → List UInt8 → Option (List (List UInt8))
  | cur, [] => if cur = [] then some [] else none
  | cur, c :: r => if c = 10 then (lin [] r).map (cur :: ·) else lin (cur ++ [c]) r
theorem lin_ended : ∀ (b cur : List UInt8), 10 ∉ cur → lin cur (b ++ [10]) = some (splitL 10 (cur ++ b))
  | [], cur, h => by simp [lin, splitL_none h]
  | c :: b, cur, h => by
    by_cases hc : c = 10
    · subst hc
      rw [splitL_hit b h]
      simp [lin, lin_ended b [] (by simp)]
    · have := lin_ended b (cur ++ [c]) (by simp only [List.mem_append, List.mem_singleton]; rintro (h1 | h1); exact h h1; exact hc h1.symm)
      simp [lin, hc, this]
theorem lin_open : ∀ (b cur : List UInt8) (z : UInt8), z ≠ 10 → lin cur (b ++ [z]) = none
  | [], cur, z, h => by simp [lin, h]
  | c :: b, cur, z, h => by
    by_cases hc : c = 10
    · simp [lin, hc, lin_open b [] z h]
    · simp [lin, hc, lin_open b (cur ++ [c]) z h]
/-- Lines. -/
def unl (ls : List (List UInt8)) : List UInt8 := (ls.map (· ++ [10])).flatten
theorem unl_cons (s : List UInt8) (ls : List (List UInt8)) : unl (s :: ls) = s ++ 10 :: unl ls := by simp [unl]
theorem unl_append (a b : List (List UInt8)) : unl (a ++ b) = unl a ++ unl b := by simp [unl]
theorem lin_line (p : List UInt8) : ∀ (cur r : List UInt8), 10 ∉ p → lin cur (p ++ 10 :: r) = (lin [] r).map ((cur ++ p) :: ·) := by
  induction p with
  | nil => intro cur r _; simp [lin]
  | cons c p ih =>
    intro cur r h
    have hc : ¬ c = 10 := fun e => h (by simp [e])
    show lin cur (c :: (p ++ 10 :: r)) = _
    rw [lin, if_neg hc, ih (cur ++ [c]) r (fun e => h (by simp [e]))]
    simp
theorem lin_unl : ∀ (ls : List (List UInt8)), (∀ s ∈ ls, 10 ∉ s) → lin [] (unl ls) = some ls
  | [], _ => rfl
  | s :: ls, h => by
    rw [unl_cons, lin_line s [] (unl ls) (h s (by simp)), lin_unl ls (fun x hx => h x (by simp [hx]))]
    rfl
theorem lin_back : ∀ (l cur : List UInt8) (ls : List (List UInt8)), lin cur l = some ls → cur ++ l = unl ls
  | [], cur, ls, h => by
    unfold lin at h
    split at h
    · rename_i e; subst e; cases h; rfl
    · cases h
  | c :: r, cur, ls, h => by
    unfold lin at h
    split at h
    · rename_i e
      subst e
      cases h1 : lin [] r with
      | none => rw [h1] at h; cases h
      | some l2 =>
        rw [h1] at h
        cases h
        rw [unl_cons, ← lin_back r [] l2 h1]
        rfl
    · have := lin_back r (cur ++ [c]) ls h
      simpa using this
-- XPPaperA
abbrev jn (ls : List (List UInt8)) : List UInt8 := Lib.join ls [32]
theorem jn_one (x : List UInt8) : jn [x] = x := by simp [jn, Lib.join, List.intercalate]
theorem jn_cons (x : List UInt8) (r : List (List UInt8)) (h : r ≠ []) : jn (x :: r) = x ++ 32 :: jn r := by
  cases r with
  | nil => exact absurd rfl h
  | cons y r => simp [jn, Lib.join, List.intercalate, List.intersperse]
theorem jn_append : ∀ (p q : List (List UInt8)), p ≠ [] → q ≠ [] → jn (p ++ q) = jn p ++ 32 :: jn q
  | [], _, h, _ => absurd rfl h
  | [x], q, _, hq => by rw [List.singleton_append, jn_cons x q hq, jn_one]
  | x :: y :: r, q, _, hq => by rw [List.cons_append, jn_cons x _ (by simp), jn_append (y :: r) q (by simp) hq, jn_cons x (y :: r) (by simp)]; simp
theorem jn_flat (p q : List (List UInt8)) (h : p ≠ []) : jn (jn p :: q) = jn (p ++ q) := by
  cases q with
  | nil => rw [jn_one, List.append_nil]
  | cons y r => rw [jn_cons _ _ (by simp), jn_append p (y :: r) h (by simp)]
theorem jn_len (B : Nat) : ∀ (ls : List (List UInt8)), (∀ x ∈ ls, x.length ≤ B) → (jn ls).length ≤ ls.length * (B + 1)
  | [], _ => by simp [jn, Lib.join, List.intercalate]
  | [x], h => by rw [jn_one]; have := h x (by simp); simp; omega
  | x :: y :: r, h => by
    have h1 := jn_len B (y :: r) (fun z hz => h z (by simp [hz]))
    have h2 := h x (by simp)
    rw [jn_cons x (y :: r) (by simp), List.length_append, List.length_cons]
    simp only [List.length_cons] at h1 ⊢
    have : (r.length + 1 + 1) * (B + 1) = (r.length + 1) * (B + 1) + (B + 1) := by rw [Nat.add_mul (r.length + 1) 1]; omega
    omega
def numbersL (first : List UInt8) (l : List Int) : List UInt8 := jn (first :: l.map Lib.itoa)
def ordW : List UInt8 := [111, 114, 100, 101, 114]
def toldS (s : Spn) : List UInt8 := toldL s.f0 s.f1
def orderL (a b c d : Int) (os : List Spn) : List UInt8 := jn (ordW :: Lib.itoa a :: Lib.itoa b :: Lib.itoa c :: Lib.itoa d :: os.map toldS)
def spanB64 (s : Spn) : Prop := i64B s.f0 ∧ i64B s.f1
theorem told_len' (a b : Int) (ha : i64B a) (hb : i64B b) : (toldL a b).length ≤ 41 := by
  have h1 := itoa_len a ha.1 ha.2
  have h2 := itoa_len b hb.1 hb.2
  unfold toldL
  rw [List.length_append, List.length_cons]
  omega
theorem itoa_len' {a : Int} (h : i64B a) : (Lib.itoa a).length ≤ 100 := by have := itoa_len a h.1 h.2; omega
abbrev OrdR := Int × Int × Int × Int × List Spn × Int
def zer (e : Int) : OrdR := (0, 0, 0, 0, [], e)
def M9 : Int := 1000000000
def isMin : List UInt8 → Bool
  | 45 :: _ => true
  | _ => false
theorem isMin_not {c : UInt8} {r : List UInt8} (h : c ≠ 45) : isMin (c :: r) = false := by
  unfold isMin
  split
  · rename_i e; injection e with e _; exact absurd e h
  · rfl
def sgnR (l : List UInt8) : Int × Int :=
  if isMin l = true then (if (numR (l.drop 1) M9).2 = 0 then (if (numR (l.drop 1) M9).1 = 0 then (0, 7) else (-(numR (l.drop 1) M9).1, 0)) else (0, (numR (l.drop 1) M9).2)) else numR l M9
def spansR : List (List UInt8) → List Spn → List Spn × Int
  | [], os => (os, 0)
  | w :: r, os => if (spanR w).2.2 = 0 then spansR r (os ++ [⟨(spanR w).1, (spanR w).2.1⟩]) else ([], (spanR w).2.2)
def ord5 (w1 w2 w3 w4 : List UInt8) (r : List (List UInt8)) : OrdR :=
  if (numR w1 M9).2 = 0 then (if (numR w2 M9).2 = 0 then (if (sgnR w3).2 = 0 then (if (numR w4 M9).2 = 0 then
    (if (spansR r []).2 = 0 then ((numR w1 M9).1, (numR w2 M9).1, (sgnR w3).1, (numR w4 M9).1, (spansR r []).1, 0) else zer (spansR r []).2)
    else zer (numR w4 M9).2) else zer (sgnR w3).2) else zer (numR w2 M9).2) else zer (numR w1 M9).2
def ordR : List (List UInt8) → OrdR
  | w0 :: w1 :: w2 :: w3 :: w4 :: r => if w0 = ordW then ord5 w1 w2 w3 w4 r else zer 7
  | _ => zer 7
def readO (l : List UInt8) : OrdR := match splR l with
  | .ok ws => ordR (ws.map (·.2))
  | .error _ => zer 7
theorem numR_zero {l : List UInt8} {m : Int} (h : (numR l m).2 ≠ 0) : (numR l m).1 = 0 := by
  unfold numR at h ⊢
  split
  · split
    · split
      · rfl
      · rename_i h1 h2 h3; rw [if_pos h1, if_pos h2, if_neg h3] at h; exact absurd rfl h
    · rfl
  · rfl
theorem numR_range (l : List UInt8) (m : Int) : 0 ≤ (numR l m).1 ∧ (numR l m).1 ≤ 9223372036854775807 := by
  unfold numR
  split
  · split
    · split
      · simp
      · rename_i h _; refine ⟨?_, ?_⟩ <;> simp only [] <;> omega
    · simp
  · simp
-- XPPaperB
def finS (a b c d : Int) (t : List Spn × Int) : OrdR := if t.2 = 0 then (a, b, c, d, t.1, 0) else zer t.2
theorem spl_count : ∀ (l : List UInt8) (f : Nat) (cur : List UInt8) (ws : List Wd), spl f cur l = .ok ws → ws.length ≤ l.length + 1
  | [], f, cur, ws, h => by
    unfold spl at h
    split at h
    · cases h
    · cases h; simp
  | c :: r, f, cur, ws, h => by
    unfold spl at h
    split at h
    · split at h
      · cases h
      · cases e : spl (f + cur.length + 1) [] r with
        | error p => rw [e] at h; cases h
        | ok ws' =>
          rw [e] at h
          cases h
          have := spl_count r _ [] ws' e
          simp
          omega
    · split at h
      · have := spl_count r f (cur ++ [c]) ws h
        simp
        omega
      · cases h
theorem splR_count {l : List UInt8} {ws : List Wd} (h : splR l = .ok ws) : ws.length ≤ l.length + 1 := by
  unfold splR at h
  split at h
  · cases h; simp
  · exact spl_count l 0 [] ws h
def wordsR (l : List UInt8) : List (List UInt8) × Bool := match splR l with
  | .ok ws => if ws = [] then ([], false) else (ws.map (·.2), true)
  | .error _ => ([], false)
/-- The numbers of words, one of them signed. -/
def one9 (load : Int) (i : Nat) (w : List UInt8) : Int × Int := if (i : Int) = load then sgnR w else numR w M9
def numsR (load : Int) : Nat → List (List UInt8) → List Int → List Int × Int
  | _, [], out => (out, 0)
  | i, w :: r, out => if (one9 load i w).2 = 0 then numsR load (i + 1) r (out ++ [(one9 load i w).1]) else ([], (one9 load i w).2)
end Go.AM.Pl
namespace Go.AM
/-- Texts out of values. -/
def texts : List V → Option (List (List UInt8))
  | [] => some []
  | .s (.string b) :: r => (texts r).map (b.data.toList :: ·)
  | _ => none
theorem texts_map : ∀ l : List (List UInt8), texts (l.map V.t) = some l
  | [] => rfl
  | a :: l => by
    show (texts (l.map V.t)).map ((bs a).data.toList :: ·) = _
    rw [texts_map l]; rfl
/-- A text at its first byte of that kind. -/
def cutL (c : UInt8) : List UInt8 → List UInt8 × List UInt8 × Bool
  | [] => ([], [], false)
  | x :: r => if x = c then ([], r, true) else (x :: (cutL c r).1, (cutL c r).2.1, (cutL c r).2.2)
def pItoa : List V → Option V
  | [.s (.int .i64 n)] => if -9223372036854775808 ≤ n ∧ n ≤ 9223372036854775807 then some (.t (Lib.itoa n)) else none
  | _ => none
def pJoin : List V → Option V
  | [.vsl _ _ l, .s (.string sep)] => (texts l).bind fun ts => if ts.length ≤ 140737488355328 ∧ (Lib.join ts sep.data.toList).length ≤ 140737488355328 then some (.t (Lib.join ts sep.data.toList)) else none
  | _ => none
def pIndexByte : List V → Option V
  | [.s (.string s), .s (.int .u8 c)] => if s.size < 4294967281 then some (.i (Lib.indexByte s.data.toList (UInt8.ofNat c.toNat))) else none
  | _ => none
def pCut : List V → Option V
  | [.s (.string s), .s (.string sep)] => match sep.data.toList with
    | [c] => if s.size < 4294967281 then some (.tup [.t (cutL c s.data.toList).1, .t (cutL c s.data.toList).2.1, .b (cutL c s.data.toList).2.2]) else none
    | _ => none
  | _ => none
/-- A text's parts between bytes of one kind. -/
def pSplit : List V → Option V
  | [.s (.string s), .s (.string sep)] => match sep.data.toList with
    | [c] => if s.size < 4294967281 then some (vs .dead 1 ((Pl.splitL c s.data.toList).map V.t)) else none
    | _ => none
  | _ => none
/-- A decimal text's number (err: the type of the error). -/
def pParse (err : TypeId) : List V → Option V
  | [.s (.string s), .s (.int .i64 10), .s (.int .i64 64)] => if Pl.numT s.data.toList = true ∧ s.size ≤ 281474976710656 then (if Pl.val s.data.toList < 9223372036854775808 then some (.tup [.i (Pl.val s.data.toList), .s .nilIface]) else some (.tup [.i 9223372036854775807, .ifc err .undef])) else none
  | _ => none
/-- Rows out of values. -/
def rowsV : List V → Option (List (List V))
  | [] => some []
  | .vsl _ _ x :: r => (rowsV r).map (x :: ·)
  | _ => none
/-- Rows of one-cell elements, one behind the other. -/
def pConcat : List V → Option V
  | [.vsl _ _ l] => (rowsV l).bind fun ls => if ls.flatten.length ≤ 1000000 then some (vs .dead 1 ls.flatten) else none
  | _ => none
/-- What a primitive that turns objects hands back: the objects that are another, and new ones. -/
abbrev HP := List V → H → Option (V × List (Nat × O) × List O)
/-- A row with room (elements of w cells). -/
def pGrow (w : Nat) : HP
  | [.vsl .nil _ [], .s (.int .i64 n)], h => if n = 0 then some (vs .nil 0 [], [], []) else if 0 < n ∧ n ≤ 100000000 then some (.vsl (.tip h.length) w [], [], [.tip]) else none
  | _, _ => none
/-- strings.Builder's WriteString (t8: the type of bytes). -/
def pWrite (t8 : TypeId) : HP
  | [.ptr b 0, .s (.string s)], h => if s.size ≤ 1000000000000 then (match h[b]? with
    | some (.bld t none) => if s.size = 0 then some (.tup [.i s.size, .s .nilIface], [], []) else some (.tup [.i s.size, .s .nilIface], [(b, .bld t (some (h.length, s.size)))], [.buf t8 s.data.toList])
    | some (.bld t (some (j, n))) => (match h[j]? with
      | some (.buf t' l) => if n ≤ 1000000000000 ∧ t' = t8 ∧ n = l.length then (if s.size = 0 then some (.tup [.i s.size, .s .nilIface], [], []) else
          some (.tup [.i s.size, .s .nilIface], [(j, .dead), (b, .bld t (some (h.length, n + s.size)))], [.buf t8 (l ++ s.data.toList)])) else none
      | _ => none)
    | _ => none) else none
  | _, _ => none
/-- The same, of a builder of one type alone. -/
def pWriteT (tb t8 : TypeId) : HP
  | [.ptr b 0, x], h => (match h[b]? with
    | some (.bld t _) => if t = tb then pWrite t8 [.ptr b 0, x] h else none
    | _ => none)
  | _, _ => none
/-- strings.Builder's String. -/
def pString : HP
  | [.ptr b 0], h => (match h[b]? with
    | some (.bld _ none) => some (.t [], [], [])
    | some (.bld _ (some (j, n))) => (match h[j]? with
      | some (.buf _ l) => if n = l.length then some (.t l, [], []) else none
      | _ => none)
    | _ => none)
  | _, _ => none
/-- The same, of a builder of one type alone, and its bytes. -/
def pStringT (tb t8 : TypeId) : HP
  | [.ptr b 0], h => (match h[b]? with
    | some (.bld t none) => if t = tb then some (.t [], [], []) else none
    | some (.bld t (some (j, n))) => (match h[j]? with
      | some (.buf t' l) => if t = tb ∧ t' = t8 ∧ n = l.length ∧ n ≤ 1000000000000000 then some (.t l, [], []) else none
      | _ => none)
    | _ => none)
  | _, _ => none
end Go.AM
namespace Go.AM
/-- A primitive that turns objects is called. -/
theorem den_hprim {c : Cx} {lo f : Nat} {args : List V} {h : H} {g : HP} (hp : c.prim f = none) (hq : c.hprim f = some g) (hu : c.pur f = false) {v : V} {s : List (Nat × O)} {n : List O} (hg : g args h = some (v, s, n)) (hs : s.all (fun p => decide (lo ≤ p.1)) = true) (hz : c.frz f = false := by rfl) :
    den c lo f args h = some (v, (s.foldl (fun h p => h.set p.1 p.2) h) ++ n) := by
  refine den_body hz ?_
  unfold bodyV
  rw [hp, hq]
  unfold hpV
  simp only [hu, Bool.false_eq_true, if_false, hg, hs, if_true]
end Go.AM
namespace Go.AM
open Go.RowKit
/-- A table's block, whole. -/
theorem TabOk.block {σ : Sg} {W : World} {g : Nat} {ok : List Value → Prop} (h : TabOk σ W g ok) : ∃ vs : List Value, ok vs ∧ (vs ≠ [] → ∃ t fz, W.heap[g]? = some (.cells vs.toArray t fz)) := by
  obtain ⟨vs, n, h1, h2, h3, h5, h4⟩ := h
  refine ⟨vs, h1, fun hne => ?_⟩
  have hp : 0 < vs.length := List.length_pos_iff.2 hne
  unfold bsize at h5
  split at h5
  · rename_i arr t fz he
    refine ⟨t, fz, ?_⟩
    have : arr = vs.toArray := by
      apply Array.ext_getElem?
      intro i
      by_cases hi : i < vs.length
      · have := h4 i vs[i] (List.getElem?_eq_getElem hi)
        rw [cellAt_of he] at this
        rw [this, List.getElem?_toArray, List.getElem?_eq_getElem hi]
      · rw [Array.getElem?_eq_none (by omega), List.getElem?_toArray, List.getElem?_eq_none (by omega)]
    rw [he, this]
  · omega
theorem TabOk.cell {σ : Sg} {W : World} {g : Nat} {ok : List Value → Prop} (h : TabOk σ W g ok) : ∃ vs : List Value, ok vs ∧ ∀ i v, vs[i]? = some v → W.cell? ⟨g, i, none⟩ = some v := by
  obtain ⟨vs, n, h1, h2, h3, h5, h4⟩ := h
  exact ⟨vs, h1, h4⟩
/-- As the tables are laid when a law is called. -/
theorem tabOk_start {W : World} {g : Nat} {ok : List Value → Prop} {cs : Array Value} {t : TypeId} {fz : Nat × Nat} (h : W.heap[g]? = some (.cells cs t fz)) (hok : ok cs.toList) {σ : Sg} (hr : σ.reg g = some cs.size) : TabOk σ W g ok :=
  ⟨cs.toList, cs.size, hok, hr, by simp, by simp [bsize, h], fun i v hv => by rw [cellAt_of h]; simpa using hv⟩
theorem cut_one (c : UInt8) : ∀ s : List UInt8, Lib.cut s [c] = cutL c s
  | [] => by simp [Lib.cut, Lib.index, cutL]
  | x :: r => by
    have ih := cut_one c r
    have hg := Lib.index_ge r [c]
    unfold Lib.cut at ih ⊢
    have e : Lib.index (x :: r) [c] = if x = c then 0 else if Lib.index r [c] = -1 then -1 else Lib.index r [c] + 1 := by
      simp only [Lib.index, List.isPrefixOf, Bool.and_true, beq_iff_eq]
      by_cases hx : x = c
      · rw [if_pos hx.symm, if_pos hx]
      · rw [if_neg (fun h => hx h.symm), if_neg hx]
    rw [e]
    unfold cutL
    by_cases hx : x = c
    · rw [if_pos hx, if_pos hx, if_pos (by omega)]; rfl
    · rw [if_neg hx, if_neg hx]
      by_cases h1 : Lib.index r [c] = -1
      · rw [if_pos h1, if_neg (by omega)]
        rw [if_neg (by omega)] at ih
        rw [← ih]
      · rw [if_neg h1, if_pos (by omega)]
        rw [if_pos (by omega)] at ih
        rw [← ih]
        have e2 : (Lib.index r [c] + 1).toNat = (Lib.index r [c]).toNat + 1 := by omega
        rw [e2]
        simp [Nat.add_right_comm]
end Go.AM
namespace Go.AM.Pl
theorem parseM_eq (M : Nat) (hM : M = 18446744073709551615) : ∀ (l : List UInt8) (acc : Nat), l.all isDig = true → acc ≤ M →
    Lib.parseUintM M acc l = if valA acc l ≤ M then .ok (valA acc l) else .range
  | [], acc, _, h => by
    rw [valA_nil, if_pos h, Lib.parseUintM]
  | c :: r, acc, hd, h => by
    rw [List.all_cons, Bool.and_eq_true] at hd
    have hc := isDig_iff.1 hd.1
    have hge := valA_ge r (acc * 10 + (c.toNat - 48))
    rw [valA_cons, Lib.parseUintM, if_pos hc]
    by_cases h1 : 1844674407370955162 ≤ acc
    · rw [if_pos h1, if_neg (by omega)]
    · rw [if_neg h1]
      by_cases h2 : M < acc * 10 + (c.toNat - 48)
      · rw [if_pos h2, if_neg (by omega)]
      · rw [if_neg h2, parseM_eq M hM r _ hd.2 (by omega)]
theorem parsed_eq (l : List UInt8) (h : numT l = true) : Lib.parseIntB 64 l = if val l < 9223372036854775808 then .ok (val l : Int) else .range := by
  have ha := numT_all h
  have hn := numT_ne h
  cases hl : l with
  | nil => exact absurd hl hn
  | cons c r =>
    rw [hl] at ha
    have hc := isDig_iff.1 (by rw [List.all_cons, Bool.and_eq_true] at ha; exact ha.1)
    have hp : Lib.parseUintB 64 (c :: r) = if val (c :: r) ≤ 18446744073709551615 then .ok (val (c :: r)) else .range := by
      unfold Lib.parseUintB val
      rw [if_neg (by simp)]
      exact parseM_eq _ (by decide) (c :: r) 0 ha (by omega)
    simp only [Lib.parseIntB]
    rw [if_neg (show ¬ (c.toNat = 43 ∨ c.toNat = 45) by omega), hp]
    by_cases hv : val (c :: r) ≤ 18446744073709551615
    · rw [if_pos hv]
      simp only
      by_cases h3 : val (c :: r) < 9223372036854775808
      · rw [if_neg (by omega), if_neg (by omega), if_pos h3, if_neg (by omega)]
      · rw [if_pos (by omega), if_neg h3]
    · rw [if_neg hv, if_neg (by omega)]
theorem sat_eq (l : List UInt8) (h : numT l = true) : Lib.intSat 64 l = 9223372036854775807 := by
  have ha := numT_all h
  have hn := numT_ne h
  cases hl : l with
  | nil => exact absurd hl hn
  | cons c r =>
    rw [hl] at ha
    have hc := isDig_iff.1 (by rw [List.all_cons, Bool.and_eq_true] at ha; exact ha.1)
    unfold Lib.intSat
    simp only [List.head?_cons, Option.map_some, Option.some.injEq]
    rw [if_neg (by omega)]
    decide
end Go.AM.Pl
namespace Go.AM
/-- Rows with room that live side by side. -/
structure Tks (lo : Nat) (h : H) (ts : List Tk) : Prop where
  apd : ∀ t ∈ ts, Apd lo h t
  ne : ∀ (i j : Nat) (id : Nat), i ≠ j → ts[i]? = some (.tip id) → ts[j]? ≠ some (.tip id)
section
variable {lo : Nat} {h : H} {ts : List Tk} {t : Tk} {i p : Nat} {C : List V}
theorem Apd.lt (a : Apd lo h (.tip i)) : i < h.length := by
  rcases a with a | a | ⟨id, a, _, b⟩
  · cases a
  · cases a
  · cases a; exact (List.getElem?_eq_some_iff.1 b).1
theorem apH_get {id : Nat} {o : O} (hne : t ≠ .tip id) (ho : h[id]? = some o) : (apH h t)[id]? = some o := by
  have hl := (List.getElem?_eq_some_iff.1 ho).1
  cases t with
  | tip k =>
    have : k ≠ id := fun e => hne (by rw [e])
    simp only [apH]
    rw [List.getElem?_append_left (by simpa using hl), List.getElem?_set_ne this]; exact ho
  | _ => simp only [apH]; rw [List.getElem?_append_left hl]; exact ho
theorem ap_other {o : O} (ha : Apd lo h t) (ho : h[p]? = some o) (hn : o ≠ .tip) : (apH h t)[p]? = some o := by
  refine apH_get ?_ ho
  rintro rfl
  rcases ha with a | a | ⟨id, a, _, b⟩
  · cases a
  · cases a
  · cases a; rw [ho] at b; exact hn (Option.some.inj b)
theorem cellsAt_get (hp : cellsAt h p = some C) : h[p]? = some (.cells C) := by
  unfold cellsAt at hp
  split at hp
  · rename_i q hq; cases hp; exact hq
  · cases hp
theorem ap_cells (ha : Apd lo h t) (hp : cellsAt h p = some C) : cellsAt (apH h t) p = some C :=
  cellsAt_of (ap_other ha (cellsAt_get hp) (by simp))
theorem Apd.keep {g : H} (a : Apd lo h t) (hk : ∀ id, t = .tip id → h[id]? = some .tip → g[id]? = some .tip) : Apd lo g t := by
  rcases a with a | a | ⟨id, a, b, c⟩
  · exact .inl a
  · exact .inr (.inl a)
  · exact .inr (.inr ⟨id, a, b, hk id a c⟩)
theorem Tks.keep {g : H} (T : Tks lo h ts) (hk : ∀ id : Nat, h[id]? = some .tip → g[id]? = some .tip) : Tks lo g ts :=
  ⟨fun t ht => (T.apd t ht).keep fun id _ hi => hk id hi, T.ne⟩
theorem Tks.upd (T : Tks lo h ts) {o o' : O} (hp : h[p]? = some o) (ho : o ≠ .tip) : Tks lo (h.set p o') ts :=
  T.keep fun id hi => by
    rw [List.getElem?_set_ne]
    · exact hi
    · rintro rfl; rw [hp] at hi; exact ho (Option.some.inj hi)
theorem Tks.updc (T : Tks lo h ts) {o' : O} (hp : cellsAt h p = some C) : Tks lo (h.set p o') ts := T.upd (cellsAt_get hp) (by simp)
theorem Tks.push (T : Tks lo h ts) {l : List O} : Tks lo (h ++ l) ts :=
  T.keep fun id hi => by rw [List.getElem?_append_left (List.getElem?_eq_some_iff.1 hi).1]; exact hi
theorem Tks.get (T : Tks lo h ts) (ht : ts[i]? = some t) : Apd lo h t := T.apd t (List.mem_of_getElem? ht)
/-- One of them is appended to. -/
theorem Tks.ap (T : Tks lo h ts) (ht : ts[i]? = some t) (hl : lo ≤ h.length) : Tks lo (apH h t) (ts.set i (.tip h.length)) := by
  have hi := (List.getElem?_eq_some_iff.1 ht).1
  have old : ∀ (j : Nat) (id : Nat), j ≠ i → ts[j]? = some (.tip id) → t ≠ .tip id := by
    intro j id hj hg he
    exact T.ne j i id hj hg (by rw [ht, he])
  refine ⟨fun u hu => ?_, fun a b id hab ha hb => ?_⟩
  · obtain ⟨j, hj, rfl⟩ := List.mem_iff_getElem.1 hu
    rw [List.length_set] at hj
    by_cases q : j = i
    · subst q; rw [List.getElem_set_self]; exact Apd_ap hl
    · rw [List.getElem_set_ne (fun e => q e.symm)]
      have hg : ts[j]? = some ts[j] := List.getElem?_eq_getElem hj
      exact (T.get hg).keep fun id hid hi2 => apH_get (old j id q (by rw [hg, hid])) hi2
  · rw [List.getElem?_set] at ha hb
    have lth : ∀ (j : Nat) (id : Nat), ts[j]? = some (.tip id) → id < h.length := fun j id hg => (T.get hg).lt
    by_cases qa : i = a
    · rw [if_pos qa] at ha
      have qb : ¬ i = b := by omega
      rw [if_neg qb] at hb
      rw [if_pos (by omega)] at ha
      cases ha; have := lth b _ hb; omega
    · rw [if_neg qa] at ha
      by_cases qb : i = b
      · rw [if_pos qb] at hb
        rw [if_pos (by omega)] at hb
        cases hb; have := lth a _ ha; omega
      · rw [if_neg qb] at hb
        exact T.ne a b id hab ha hb
theorem Tks.nil : Tks lo h [] := ⟨fun _ h => (by cases h), fun i j id _ h => (by simp at h)⟩
theorem Tks.cons_nil (T : Tks lo h ts) : Tks lo h (.nil :: ts) := ⟨fun t ht => by
  rcases List.mem_cons.1 ht with rfl | ht
  · exact Apd_nil
  · exact T.apd t ht, fun i j id hij hi hj => by
    cases i with
    | zero => simp at hi
    | succ i => cases j with
      | zero => simp at hj
      | succ j => exact T.ne i j id (by omega) (by simpa using hi) (by simpa using hj)⟩
theorem Tks.tail (T : Tks lo h (t :: ts)) : Tks lo h ts := ⟨fun u hu => T.apd u (List.mem_cons_of_mem _ hu), fun i j id hij hi hj => T.ne (i + 1) (j + 1) id (by omega) (by simpa using hi) (by simpa using hj)⟩
end
end Go.AM
open Go Go.AM
set_option linter.unusedVariables false
set_option maxHeartbeats 1000000
namespace Go.AM
/-- What a builder's writing makes of the objects: the old bytes go, new ones come. -/
def wroteH (h : H) (jo : Option Nat) (b T n' : Nat) (t8 : TypeId) (l' : List UInt8) : H :=
  ((match jo with | some j => h.set j .dead | none => h).set b (.bld T (some (h.length, n')))) ++ [.buf t8 l']
theorem bld_wrote {σ : Sg} {h : H} {W W' : World} (I : Inv σ h W) {b B T n' cap' g' : Nat} {r : Option (Nat × Nat)} {jo : Option Nat} {t8 : TypeId} {l' : List UInt8} {arr' : Array Value} {fz' : Nat × Nat} {p : Value}
    (hb : h[b]? = some (.bld T r)) (hl : σ.loc b = some (B, 0)) (hj : ∀ j, jo = some j → j ≠ b ∧ ∃ t l, h[j]? = some (.buf t l))
    (hos : W'.os = W.os) (htp : W'.tape = W.tape) (hou : W'.output = W.output) (hsz : W.heap.size ≤ W'.heap.size)
    (hB' : W'.heap[B]? = some (.cells #[p, .slice (some ⟨g', 0, none⟩) n' cap'] T (0, 0))) (hB0 : ∃ a, W.heap[B]? = some (.cells a T (0, 0)) ∧ a.size = 2) (hp : p = .pointer none ∨ p = .pointer (some ⟨B, 0, none⟩))
    (hg' : W'.heap[g']? = some (.cells arr' t8 fz')) (hn : l'.length = n') (hn0 : 0 < n') (hnc : n' ≤ cap') (hcm : cap' ≤ maxLen) (hca : cap' ≤ arr'.size) (hfz : fz'.2 ≤ n')
    (hcell : ∀ (i : Nat) c, l'[i]? = some c → arr'[i]? = some (.int .u8 (c.toNat : Int)))
    (hgg : g' < W.heap.size → ∃ j, jo = some j ∧ σ.loc j = some (g', 0)) (hgB : g' ≠ B)
    (hfr : ∀ c, c < W.heap.size → c ≠ B → c ≠ g' → W'.heap[c]? = W.heap[c]?) (hbs : bsize W g' ≤ bsize W' g') :
    let σ' : Sg := ⟨fun i => if i = h.length then some (g', 0) else σ.loc i, σ.reg⟩
    Inv σ' (wroteH h jo b T n' t8 l') W' ∧ Step σ h W σ' (wroteH h jo b T n' t8 l') W' := by
  intro σ'
  have hblt : b < h.length := (List.getElem?_eq_some_iff.1 hb).1
  have hrB : σ.reg B = none := (I.map b _ B 0 hb rfl hl).1
  have hrg : σ.reg g' = none := by
    by_cases hlt : g' < W.heap.size
    · obtain ⟨j, hj1, hj2⟩ := hgg hlt
      obtain ⟨_, t, l, hj3⟩ := hj j hj1
      exact (I.map j _ g' 0 hj3 rfl hj2).1
    · cases hr : σ.reg g' with
      | none => rfl
      | some n => obtain ⟨a, e, fz, h1, _⟩ := I.rsz g' n hr; exact absurd (lt_of_heap h1) hlt
  have hreg : ∀ c n, σ.reg c = some n → W'.heap[c]? = W.heap[c]? := by
    intro c n hc
    obtain ⟨a, e, fz, h1, _⟩ := I.rsz c n hc
    refine hfr c (lt_of_heap h1) ?_ ?_
    · rintro rfl; rw [hrB] at hc; cases hc
    · rintro rfl; rw [hrg] at hc; cases hc
  obtain ⟨a0, hB0, ha0⟩ := hB0
  have M : Mo σ W σ' W' := {
    loc := fun i q hq => by
      have := (I.lsz i q.1 q.2 hq).2
      simp only [σ']; rw [if_neg (by omega)]; exact hq
    reg := fun c n hc => ⟨n, hc, Nat.le_refl _⟩
    cel := fun c n o hc ho => cellAt_congr (hreg c n hc)
    bsz := fun c => by
      by_cases h1 : c = B
      · subst h1; rw [bsize_of hB0, bsize_of hB']; simp [ha0]
      by_cases h2 : c = g'
      · subst h2; exact hbs
      by_cases h3 : c < W.heap.size
      · rw [bsize_congr (hfr c h3 h1 h2)]; exact Nat.le_refl _
      · have : W.heap[c]? = none := Array.getElem?_eq_none (by omega)
        unfold bsize; rw [this]; simp
    bse := fun c n hc => bsize_congr (hreg c n hc) }
  -- the live objects behind it
  have key : ∀ (i : Nat) (o : O) cc dd, (wroteH h jo b T n' t8 l')[i]? = some o → o.live = true → σ'.loc i = some (cc, dd) →
      (h[i]? = some o ∧ σ.loc i = some (cc, dd) ∧ cc ≠ B ∧ cc ≠ g' ∧ i ≠ b ∧ i < h.length) ∨ (i = b ∧ o = .bld T (some (h.length, n')) ∧ cc = B ∧ dd = 0) ∨ (i = h.length ∧ o = .buf t8 l' ∧ cc = g' ∧ dd = 0) := by
    intro i o cc dd ho hlv hl'
    have hlen : ∀ x, (match jo with | some j => h.set j .dead | none => h) = x → x.length = h.length := by rintro x rfl; split <;> simp
    unfold wroteH at ho
    by_cases hi : i = h.length
    · subst hi
      rw [List.getElem?_append_right (by rw [List.length_set, hlen _ rfl]; exact Nat.le_refl _), List.length_set, hlen _ rfl] at ho
      simp at ho
      simp [σ'] at hl'
      exact .inr (.inr ⟨rfl, ho.symm, hl'.1.symm, hl'.2.symm⟩)
    · have hl2 : σ.loc i = some (cc, dd) := by simpa [σ', hi] using hl'
      have hi2 := (I.lsz i cc dd hl2).2
      rw [List.getElem?_append_left (by rw [List.length_set, hlen _ rfl]; exact hi2)] at ho
      by_cases hib : b = i
      · subst hib
        rw [List.getElem?_set_self (by rw [hlen _ rfl]; exact hi2)] at ho
        cases ho
        rw [hl] at hl2; cases hl2
        exact .inr (.inl ⟨rfl, rfl, rfl, rfl⟩)
      · rw [List.getElem?_set_ne hib] at ho
        have hoi : h[i]? = some o ∧ ∀ j, jo = some j → i ≠ j := by
          cases jo with
          | none => exact ⟨ho, fun j hj => by cases hj⟩
          | some j =>
            simp only at ho
            by_cases hij : j = i
            · subst hij; rw [List.getElem?_set_self hi2] at ho; cases ho; cases hlv
            · rw [List.getElem?_set_ne hij] at ho; exact ⟨ho, fun j' hj' => by cases hj'; exact Ne.symm hij⟩
        refine .inl ⟨hoi.1, hl2, ?_, ?_, Ne.symm hib, hi2⟩
        · rintro rfl; exact hib (I.inj b i _ o cc 0 dd hb rfl hoi.1 hlv hl hl2)
        · rintro rfl
          obtain ⟨j, hj1, hj2⟩ := hgg (I.lsz i cc dd hl2).1
          obtain ⟨_, t, l, hj3⟩ := hj j hj1
          exact hoi.2 j hj1 (I.inj i j o _ cc dd 0 hoi.1 hlv hj3 rfl hl2 hj2)
  have hBsz : B < W.heap.size := lt_of_heap hB0
  have frA : ∀ {i o cc dd}, h[i]? = some o → σ.loc i = some (cc, dd) → cc ≠ B → cc ≠ g' → W'.heap[cc]? = W.heap[cc]? := fun _ h2 h3 h4 => hfr _ (I.lsz _ _ _ h2).1 h3 h4
  refine ⟨?_, ⟨M, hos, htp, hou, hsz, by unfold wroteH; simp; split <;> simp, fun c hc hn => ?_, fun c hc hh => ?_, fun i q hq hi => ?_⟩⟩
  · constructor
    · intro i cs cc dd ho hl'
      rcases key i _ cc dd ho rfl hl' with ⟨h1, h2, h3, h4, _⟩ | ⟨_, h2, _⟩ | ⟨_, h2, _⟩
      · obtain ⟨arr, e, a1, a2, a3, a4⟩ := I.box i cs cc dd h1 h2
        exact ⟨arr, e, by rw [frA h1 h2 h3 h4]; exact a1, a2, fun j v hv => let ⟨y, hy, r⟩ := a3 j v hv; ⟨y, hy, r.mono M⟩, a4⟩
      · cases h2
      · cases h2
    · intro i cc dd ho hl'
      rcases key i _ cc dd ho rfl hl' with ⟨h1, h2, h3, h4, _⟩ | ⟨_, h2, _⟩ | ⟨_, h2, _⟩
      · obtain ⟨a1, arr, e, fz, a2, a3⟩ := I.tip i cc dd h1 h2
        exact ⟨a1, arr, e, fz, by rw [frA h1 h2 h3 h4]; exact a2, a3⟩
      · cases h2
      · cases h2
    · intro i o cc dd ho hq hl'
      rcases key i _ cc dd ho (O.opq_live hq) hl' with ⟨h1, h2, h3, h4, _⟩ | ⟨_, h2, h3, h4⟩ | ⟨_, h2, h3, h4⟩
      · obtain ⟨a1, ob, a2, a3⟩ := I.map i o cc dd h1 hq h2
        exact ⟨a1, ob, by rw [frA h1 h2 h3 h4]; exact a2, a3.mono M⟩
      · subst h2; subst h3; subst h4
        exact ⟨hrB, _, hB', rfl, rfl, rfl, p, _, rfl, hp, g', cap', by simp [σ'], rfl, hn0, hnc, hcm, by rw [bsize_of hg']; exact hca⟩
      · subst h2; subst h3; subst h4
        exact ⟨hrg, _, hg', rfl, rfl, by omega, by omega, hcell⟩
    · intro i i' o o' cc d1 d2 g1 g2 g3 g4 g5 g6
      rcases key i o cc d1 g1 g2 g5 with ⟨h1, h2, h3, h4, _⟩ | ⟨h1, _, h3, _⟩ | ⟨h1, _, h3, _⟩ <;> rcases key i' o' cc d2 g3 g4 g6 with ⟨k1, k2, k3, k4, _⟩ | ⟨k1, _, k3, _⟩ | ⟨k1, _, k3, _⟩
      · exact I.inj i i' o o' cc d1 d2 h1 g2 k1 g4 h2 k2
      · exact absurd k3 h3
      · exact absurd k3 h4
      · exact absurd h3 k3
      · rw [h1, k1]
      · exact absurd (k3.symm.trans h3) hgB
      · exact absurd h3 k4
      · exact absurd (h3.symm.trans k3) hgB
      · rw [h1, k1]
    · intro c n hc
      obtain ⟨arr, e, fz, a1, a2⟩ := I.rsz c n hc
      exact ⟨arr, e, fz, by rw [hreg c n hc]; exact a1, a2⟩
    · intro i cc dd hl'
      have hlen : (wroteH h jo b T n' t8 l').length = h.length + 1 := by unfold wroteH; simp; split <;> simp
      by_cases hi : i = h.length
      · subst hi
        simp [σ'] at hl'
        exact ⟨by rw [← hl'.1]; exact lt_of_heap hg', by rw [hlen]; omega⟩
      · have hl2 : σ.loc i = some (cc, dd) := by simpa [σ', hi] using hl'
        obtain ⟨a1, a2⟩ := I.lsz i cc dd hl2
        exact ⟨by omega, by rw [hlen]; omega⟩
  · refine ⟨hfr c hc ?_ ?_, rfl⟩
    · rintro rfl; exact hn ⟨b, _, 0, hb, rfl, hl⟩
    · rintro rfl
      obtain ⟨j, hj1, hj2⟩ := hgg hc
      obtain ⟨_, t, l, hj3⟩ := hj j hj1
      exact hn ⟨j, _, 0, hj3, rfl, hj2⟩
  · obtain ⟨i, o, dd, h1, h2, h3⟩ := hh
    rcases key i o c dd h1 h2 h3 with ⟨k1, k2, _⟩ | ⟨_, _, k3, _⟩ | ⟨_, _, k3, _⟩
    · exact ⟨i, o, dd, k1, h2, k2⟩
    · subst k3; exact ⟨b, _, 0, hb, rfl, hl⟩
    · subst k3
      obtain ⟨j, hj1, hj2⟩ := hgg hc
      obtain ⟨_, t, l, hj3⟩ := hj j hj1
      exact ⟨j, _, 0, hj3, rfl, hj2⟩
  · simp only [σ'] at hq
    rw [if_neg (by omega)] at hq; exact hq
/-- A builder that bears its own address now. -/
theorem bld_touch {σ : Sg} {h : H} {W W' : World} (I : Inv σ h W) {b B T : Nat} {r : Option (Nat × Nat)} {p v : Value}
    (hb : h[b]? = some (.bld T r)) (hl : σ.loc b = some (B, 0)) (hB : W.heap[B]? = some (.cells #[p, v] T (0, 0)))
    (hos : W'.os = W.os) (htp : W'.tape = W.tape) (hou : W'.output = W.output) (hsz : W'.heap.size = W.heap.size)
    (hB' : W'.heap[B]? = some (.cells #[.pointer (some ⟨B, 0, none⟩), v] T (0, 0)))
    (hfr : ∀ c, c ≠ B → W'.heap[c]? = W.heap[c]?) : Inv σ h W' ∧ Step σ h W σ h W' := by
  obtain ⟨hrB, ob, hob, hop⟩ := I.map b _ B 0 hb rfl hl
  rw [hB] at hob; cases hob
  have hreg : ∀ c n, σ.reg c = some n → W'.heap[c]? = W.heap[c]? := by
    intro c n hc
    refine hfr c ?_
    rintro rfl; rw [hrB] at hc; cases hc
  have M : Mo σ W σ W' := {
    loc := fun i q hq => hq
    reg := fun c n hc => ⟨n, hc, Nat.le_refl _⟩
    cel := fun c n o hc ho => cellAt_congr (hreg c n hc)
    bsz := fun c => by
      by_cases h1 : c = B
      · subst h1; rw [bsize_of hB, bsize_of hB']; simp
      · rw [bsize_congr (hfr c h1)]; exact Nat.le_refl _
    bse := fun c n hc => bsize_congr (hreg c n hc) }
  have other : ∀ {i o cc dd}, h[i]? = some o → o.live = true → σ.loc i = some (cc, dd) → i ≠ b → cc ≠ B := by
    rintro i o cc dd h1 h2 h3 h4 rfl
    exact h4 (I.inj i b o _ cc dd 0 h1 h2 hb rfl h3 hl)
  refine ⟨?_, ⟨M, hos, htp, hou, by omega, Nat.le_refl _, fun c hc hn => ⟨hfr c ?_, rfl⟩, fun c hc hh => hh, fun i q hq hi => hq⟩⟩
  · constructor
    · intro i cs cc dd ho hl'
      have hi : i ≠ b := by rintro rfl; rw [hb] at ho; cases ho
      obtain ⟨arr, e, a1, a2, a3, a4⟩ := I.box i cs cc dd ho hl'
      exact ⟨arr, e, by rw [hfr cc (other ho rfl hl' hi)]; exact a1, a2, fun j v hv => let ⟨y, hy, r⟩ := a3 j v hv; ⟨y, hy, r.mono M⟩, a4⟩
    · intro i cc dd ho hl'
      have hi : i ≠ b := by rintro rfl; rw [hb] at ho; cases ho
      obtain ⟨a1, arr, e, fz, a2, a3⟩ := I.tip i cc dd ho hl'
      exact ⟨a1, arr, e, fz, by rw [hfr cc (other ho rfl hl' hi)]; exact a2, a3⟩
    · intro i o cc dd ho hq hl'
      by_cases hi : i = b
      · subst hi
        rw [hb] at ho; cases ho
        rw [hl] at hl'; cases hl'
        obtain ⟨h1, h2, h3, p', v', h4, h5, h6⟩ := hop
        simp only [Array.mk.injEq, List.cons.injEq, and_true] at h4
        obtain ⟨rfl, rfl⟩ := h4
        refine ⟨hrB, _, hB', rfl, rfl, rfl, _, v, rfl, .inr rfl, ?_⟩
        cases r with
        | none => exact h6
        | some q =>
          obtain ⟨j, n⟩ := q
          obtain ⟨g, cap, b1, b2, b3, b4, b5, b6⟩ := h6
          exact ⟨g, cap, b1, b2, b3, b4, b5, Nat.le_trans b6 (M.bsz g)⟩
      · obtain ⟨a1, ob, a2, a3⟩ := I.map i o cc dd ho hq hl'
        exact ⟨a1, ob, by rw [hfr cc (other ho (O.opq_live hq) hl' hi)]; exact a2, a3.mono M⟩
    · exact I.inj
    · intro c n hc
      obtain ⟨arr, e, fz, a1, a2⟩ := I.rsz c n hc
      exact ⟨arr, e, fz, by rw [hreg c n hc]; exact a1, a2⟩
    · intro i cc dd hl'
      obtain ⟨a1, a2⟩ := I.lsz i cc dd hl'
      exact ⟨by omega, a2⟩
  · rintro rfl; exact hn ⟨b, _, 0, hb, rfl, hl⟩
end Go.AM

/- The abstract machine: values as trees, objects, what stands for what in memory. No condition. -/
import Derived.Calls
import Derived.Orders
import Derived.Below
import Derived.Laws.Cells
import Derived.Laws.CopyRow
import Derived.Laws.StructEq
set_option linter.all false
namespace Go.AM

/-- What a slice may be appended to in place by: nobody (dead), it is full (its capacity is its length), it is nil, or the ticket of that number. -/
inductive Tk where
  | dead | full | nil | tip (id : Nat)
  deriving DecidableEq, Inhabited

/-- Abstract values: trees. -/
inductive V where
  | s (v : Value)
  | undef
  | agg (cs : List V)
  | tup (vs : List V)
  | ptr (b off : Nat)
  | vptr (cs : List V)
  | vsl (t : Tk) (w : Nat) (l : List V)
  | msl (b off len w : Nat)
  | map (r : Nat)
  | fn (f : Fn) (first cap : List V)
  | ifc (t : TypeId) (v : V)
  deriving Inhabited

/-- A row of elements of so many cells; an empty one fits any width. -/
def vs (t : Tk) (w : Nat) (l : List V) : V := .vsl t (if l = [] then 0 else w) l

inductive O where
  | cells (cs : List V)
  | map (es : List (V × V))
  | bld (t : TypeId) (r : Option (Nat × Nat))   -- a strings.Builder; its bytes' object, and how many
  | buf (t : TypeId) (l : List UInt8)
  | tip
  | dead
  deriving Inhabited

abbrev H := List O

inductive Ent where
  | v (x : V)
  | lp (t off : Nat)
  deriving Inhabited

structure St where
  env : List (Nat × Ent)
  lb : List (Nat × List V)
  h : H
  deriving Inhabited

def getE : List (Nat × Ent) → Nat → Ent
  | [], _ => .v .undef
  | (k, x) :: e, t => if k = t then x else getE e t
def getB : List (Nat × List V) → Nat → Option (List V)
  | [], _ => none
  | (k, x) :: e, t => if k = t then some x else getB e t
def Ent.isLp (t : Nat) : Ent → Bool
  | .lp u _ => u == t
  | .v _ => false

/-- No slot but t itself holds an address of t's box. -/
def fresh (t : Nat) (env : List (Nat × Ent)) : Bool := env.all fun p => !p.2.isLp t || p.1 == t || !(getE env p.1).isLp t

def cellsOf : V → List V
  | .agg cs => cs
  | v => [v]

/-- A model value without addresses, as an abstract one. -/
def one : Value → Bool
  | .agg _ | .tuple _ => false
  | _ => true
/-- A cell's value: nil slices stand as empty rows. -/
def oneV : Value → V
  | .slice none 0 0 => .vsl .nil 0 []
  | v => .s v
def ofValue (v : Value) : V :=
  match v with
  | .agg cs => if cs.toList.all one then .agg (cs.toList.map oneV) else .undef
  | v => if one v then oneV v else .undef
/-- What may lie in a cell and be stored. -/
def okc : V → Bool
  | .undef | .agg _ | .tup _ => false
  | _ => true
def V.isU : V → Bool
  | .undef => true
  | _ => false
/-- A value that may lie in memory. -/
def okv : V → Bool
  | .undef | .tup _ => false
  | _ => true

abbrev V.i (n : Int) : V := .s (.int .i64 n)
abbrev V.b (x : Bool) : V := .s (.bool x)
abbrev V.str (x : ByteArray) : V := .s (.string x)
abbrev V.nilp : V := .s (.pointer none)
abbrev V.nils : V := .vsl .nil 0 []

/-- What stands beside the program: primitives, immutable variables, which functions are pure, the carried slots of loops, escaping boxes, rows that are written to. -/
structure Cx where
  P : Program
  prim : FuncId → Option (List V → Option V)
  hprim : FuncId → Option (List V → H → Option (V × List (Nat × O) × List O)) := fun _ => none   -- library functions that turn objects: which, and new ones
  glob : Nat → Option (List V)
  pur : FuncId → Bool
  carry : FuncId → Nat → List Nat × List Nat × List Nat   -- of a block's loop: slots that are carried, slots and boxes that die
  esc : FuncId → List Nat    -- boxes that escape
  rows : FuncId → List Nat    -- rows (by the slot that gets them) that are written to
  frz : FuncId → Bool := fun _ => false   -- pure functions whose arguments are closed as they stand: what they read in memory is a row
  bldT : Option TypeId := none   -- the type strings.Builder
  tabs : List (Nat × (List Value → Prop)) := []   -- tables that primitives read: their first cells, and what is known of these

def szOf (P : Program) (t : TypeId) : Option Nat := (P.info? t).map (·.size)
def isAg (P : Program) (t : TypeId) : Option Bool := (P.underlying t).map fun | .struct _ => true | .array _ _ => true | _ => false
def zeroOf (P : Program) (t : TypeId) : Option V := do
  let z ← (P.info? t).bind (·.zero)
  if (ofValue z).isU then none else some (ofValue z)

def rd (ag : Bool) (n : Nat) (cs : List V) : Option V :=
  if ag then (if n ≤ cs.length then some (.agg (cs.take n)) else none) else cs[0]?
def wr (cs : List V) (off : Nat) (xs : List V) : Option (List V) :=
  if off + xs.length ≤ cs.length then some (match xs with | [x] => cs.set off x | _ => cs.take off ++ xs ++ cs.drop (off + xs.length)) else none

def cellsAt (h : H) (b : Nat) : Option (List V) :=
  match h[b]? with
  | some (.cells cs) => some cs
  | _ => none

def loadAt (c : Cx) (st : St) (t : TypeId) : Ent → Option V
  | .lp b off => do rd (← isAg c.P t) (← szOf c.P t) ((← getB st.lb b).drop off)
  | .v (.ptr b off) => do rd (← isAg c.P t) (← szOf c.P t) ((← cellsAt st.h b).drop off)
  | .v (.vptr cs) => do rd (← isAg c.P t) (← szOf c.P t) cs
  | _ => none

def setB (lb : List (Nat × List V)) (t : Nat) (cs : List V) : List (Nat × List V) :=
  match lb with
  | [] => []
  | (k, x) :: r => if k = t then (k, cs) :: r else (k, x) :: setB r t cs

def storeAt (c : Cx) (lo : Nat) (st : St) (t : TypeId) (a : Ent) (x : V) : Option St := do
  let n ← szOf c.P t
  let xs := cellsOf x
  if xs.length ≠ n ∨ !okv x then none else
  match a with
  | .lp b off => do
    let cs ← wr (← getB st.lb b) off xs
    pure { st with lb := setB st.lb b cs }
  | .v (.ptr b off) =>
    if b < lo then none else do
    let cs ← wr (← cellsAt st.h b) off xs
    pure { st with h := st.h.set b (.cells cs) }
  | _ => none

/-- Integers, strings, bools. -/
def bin (op : BinOp) : Value → Value → Option Value
  | .int k a, .int k' b =>
    match op with
    | .shl => if b < 0 then none else some (.int k (k.wrap (a * 2 ^ (min b.toNat k.bits))))
    | .shr => if b < 0 then none else some (.int k (a.fdiv (2 ^ (min b.toNat k.bits))))
    | op => if k ≠ k' then none else
      match op with
      | .add => some (.int k (k.wrap (a + b)))
      | .sub => some (.int k (k.wrap (a - b)))
      | .mul => some (.int k (k.wrap (a * b)))
      | .quo => if b = 0 then none else some (.int k (k.wrap (a.tdiv b)))
      | .rem => if b = 0 then none else some (.int k (a.tmod b))
      | .and => some (.int k (k.wrap (BitVec.ofInt k.bits a &&& BitVec.ofInt k.bits b).toNat))
      | .or => some (.int k (k.wrap (BitVec.ofInt k.bits a ||| BitVec.ofInt k.bits b).toNat))
      | .xor => some (.int k (k.wrap (BitVec.ofInt k.bits a ^^^ BitVec.ofInt k.bits b).toNat))
      | .andNot => some (.int k (k.wrap (BitVec.ofInt k.bits a &&& ~~~(BitVec.ofInt k.bits b)).toNat))
      | .eql => some (.bool (a == b))
      | .neq => some (.bool (a != b))
      | .lss => some (.bool (a < b))
      | .leq => some (.bool (a ≤ b))
      | .gtr => some (.bool (a > b))
      | .geq => some (.bool (a ≥ b))
      | _ => none
  | .string x, .string y =>
    match op with
    | .add => if ((x.size + y.size : Nat) : Int) > IntKind.i64.max then none else some (.string (x ++ y))
    | .eql => some (.bool (x.toList == y.toList))
    | .neq => some (.bool !(x.toList == y.toList))
    | .lss => some (.bool (Op.bytesLess x.toList y.toList))
    | .leq => some (.bool (Op.bytesLess x.toList y.toList || x.toList == y.toList))
    | .gtr => some (.bool !(Op.bytesLess x.toList y.toList || x.toList == y.toList))
    | .geq => some (.bool !(Op.bytesLess x.toList y.toList))
    | _ => none
  | _, _ => none

def fieldW (P : Program) (f : Field) (xs : List V) : Option V := do rd (← isAg P f.type) (← szOf P f.type) (xs.drop f.offset)
def eqfs (P : Program) (eq : TypeId → V → V → Option Bool) (xs ys : List V) : List Field → Option Bool
  | [] => some true
  | f :: fs =>
    if f.name ≠ "_" then do
      let a ← fieldW P f xs
      let b ← fieldW P f ys
      let r ← eq f.type a b
      if r then eqfs P eq xs ys fs else some false
    else eqfs P eq xs ys fs

/-- Equality of values of a type. -/
def eqv (P : Program) : Nat → TypeId → V → V → Option Bool
  | 0, _, _, _ => none
  | d + 1, t, x, y =>
    match P.underlying t, x, y with
    | some .bool, .s (.bool a), .s (.bool b) => some (a == b)
    | some (.int _), .s (.int k a), .s (.int k' b) => if k = k' then some (a == b) else none
    | some .string, .s (.string a), .s (.string b) => some (a.toList == b.toList)
    | some (.pointer _), .s (.pointer none), .s (.pointer none) => some true
    | some (.pointer _), .s (.pointer none), .ptr .. | some (.pointer _), .s (.pointer none), .vptr _
    | some (.pointer _), .ptr .., .s (.pointer none) | some (.pointer _), .vptr _, .s (.pointer none) => some false
    | some (.slice _), .vsl .nil _ _, .vsl .nil _ _ => some true
    | some (.slice _), .vsl _ _ (_ :: _), .vsl .nil _ _ | some (.slice _), .msl .., .vsl .nil _ _
    | some (.slice _), .vsl .nil _ _, .vsl _ _ (_ :: _) | some (.slice _), .vsl .nil _ _, .msl .. => some false
    | some (.func _ _ _), .s .nilFunc, .s .nilFunc => some true
    | some (.func _ _ _), .fn .., .s .nilFunc | some (.func _ _ _), .s .nilFunc, .fn .. => some false
    | some (.interface _), .s .nilIface, .s .nilIface => some true
    | some (.interface _), .ifc .., .s .nilIface | some (.interface _), .s .nilIface, .ifc .. => some false
    | some (.struct fs), .agg xs, .agg ys => if P.stoodInHeld t then none else eqfs P (eqv P d) xs ys fs.toList
    | _, _, _ => none

def isAggV : V → Bool
  | .agg _ => true
  | _ => false
def isNilI : V → Bool
  | .s .nilIface => true
  | _ => false

/-- Neither a number nor a text. -/
def plainE : V → Bool
  | .s (.int ..) | .s (.float ..) | .s (.complex ..) | .s (.string _) | .undef => false
  | _ => true
def eqV (c : Cx) (neg : Bool) (t : TypeId) (x y : V) : Option V :=
  if !plainE x || (isAggV x && isAggV y && c.P.eqGuardType c.P.depth t) then none else (eqv c.P 100 t x y).map fun r => .b (r != neg)
def binS : V → V → BinOp → Option V
  | .s a, .s b, op => (bin op a b).map .s
  | _, _, _ => none
def binOpV (c : Cx) (op : BinOp) (t : TypeId) (x y : V) : Option V :=
  match binS x y op with
  | some r => some r
  | none =>
    match op with
    | .eql => eqV c false t x y
    | .neq => eqV c true t x y
    | _ => none

def unV (op : UnOp) : V → Option V
  | .s (.bool b) => match op with | .not => some (.b !b) | _ => none
  | .s (.int k n) =>
    match op with
    | .neg => some (.s (.int k (k.wrap (0 - n))))
    | .xor => some (.s (.int k (k.wrap (BitVec.ofInt k.bits n ^^^ BitVec.ofInt k.bits (if k.signed then -1 else k.max)).toNat)))
    | _ => none
  | _ => none

def bytesOf : List V → Option (List UInt8)
  | [] => some []
  | .s (.int .u8 n) :: r => (bytesOf r).map (UInt8.ofNat n.toNat :: ·)
  | _ => none

def convV (c : Cx) (src dst : TypeId) (x : V) : Option V :=
  match c.P.underlying src, c.P.underlying dst, x with
  | some _, some (.int k), .s (.int _ n) => some (.s (.int k (k.wrap n)))
  | some _, some .string, .s (.string s) => some (.s (.string s))
  | some (.slice e), some .string, .vsl _ _ l =>
    match c.P.underlying e with
    | some (.int .u8) => (bytesOf l).map fun bs => .str ⟨bs.toArray⟩
    | _ => none
  | _, _, _ => none

/-- A slice's ticket and elements; an empty one fits any width. -/
def Tk.isTip : Tk → Bool
  | .tip _ => true
  | _ => false
def asl (w : Nat) : V → Option (Tk × List V)
  | .vsl t w' l => if w' = w ∨ (l = [] ∧ (w' = 0 ∨ t.isTip = false)) then some (if t = .nil then .full else t, l) else none
  | _ => none

def lenV (c : Cx) (t : TypeId) (h : H) (x : V) : Option V :=
  match c.P.underlying t, x with
  | some .string, .s (.string s) => some (.i s.size)
  | some (.array n _), _ => some (.i n)
  | some (.slice _), .vsl _ _ l => some (.i l.length)
  | some (.slice _), .msl _ _ n _ => some (.i n)
  | some (.map _ _), .s (.map none) => some (.i 0)
  | some (.map _ _), .map r => match h[r]? with | some (.map es) => some (.i es.length) | _ => none
  | _, _ => none

def idx (x : V) (n : Nat) : Option Nat :=
  match x with
  | .s (.int _ i) => if 0 ≤ i then (if i < n then some i.toNat else none) else none
  | _ => none
def bound (x : Option V) (d y : Nat) : Option Nat :=
  match x with
  | none => some d
  | some (.s (.int _ i)) => if 0 ≤ i then (if i ≤ y then some i.toNat else none) else none
  | _ => none

def cutTk (mx : Bool) (m h n k : Nat) (tk : Tk) : Tk :=
  if mx then (if m = h then .full else .dead) else
  if h = n then (if k = 0 then (if n = 0 ∧ tk.isTip = true then .dead else tk) else if tk = .full then .full else .dead) else .dead

def sliceV (c : Cx) (t : TypeId) (x : V) (lo hi mx : Option V) : Option V :=
  match c.P.underlying t, x with
  | some .string, .s (.string s) =>
    if mx.isSome then none else do
    let h ← bound hi s.size s.size
    let l ← bound lo 0 h
    pure (.str (s.extract l h))
  | some (.slice e), .vsl tk w l => do
    if mx.isSome && hi.isNone then none else
    if w ≠ (← szOf c.P e) ∧ l ≠ [] then none else
    let m ← bound mx l.length l.length
    let h ← bound hi l.length m
    let k ← bound lo 0 h
    pure (vs (cutTk mx.isSome m h l.length k tk) w ((l.take h).drop k))
  | some (.slice e), .msl b off n w => do
    if mx.isSome then none else
    if w ≠ (← szOf c.P e) then none else
    let h ← bound hi n n
    let k ← bound lo 0 h
    if h = k then pure (vs .dead w []) else pure (.msl b (off + k * w) (h - k) w)
  | _, _ => none

/-- All of an array in memory, as a slice that is written to. -/
def slicePV (c : Cx) (h : H) (t : TypeId) (b off : Nat) : Option V :=
  match c.P.underlying t with
  | some (.array n e) => do
    let w ← szOf c.P e
    let cs ← cellsAt h b
    if 0 < n ∧ 0 < w ∧ off + n * w ≤ cs.length then some (.msl b off n w) else none
  | _ => none
def sliceW (c : Cx) (h : H) (t : TypeId) (x : V) (lo hi mx : Option V) : Option V :=
  match x with
  | .ptr b off => if lo.isNone && hi.isNone && mx.isNone then slicePV c h t b off else none
  | x => sliceV c t x lo hi mx

def fieldOff (P : Program) (t : TypeId) (f : Nat) : Option (Nat × TypeId) :=
  match P.underlying t with
  | some (.struct fs) => (fs[f]?).map fun x => (x.offset, x.type)
  | _ => none

def fieldAddrV (c : Cx) (t : TypeId) (f : Nat) (x : Ent) : Option Ent := do
  let (o, ft) ← fieldOff c.P t f
  let n ← szOf c.P ft
  if n = 0 then none else
  match x with
  | .lp b off => some (.lp b (off + o))
  | .v (.ptr b off) => some (.v (.ptr b (off + o)))
  | .v (.vptr cs) => if o ≤ cs.length then some (.v (.vptr (cs.drop o))) else none
  | _ => none

def indexAddrV (c : Cx) (t : TypeId) (x : Ent) (i : V) : Option Ent :=
  match c.P.underlying t, x with
  | some (.slice e), .v (.vsl _ w l) => do
    let k ← idx i l.length
    if w ≠ (← szOf c.P e) then none else
    let v ← l[k]?
    pure (.v (.vptr (cellsOf v)))
  | some (.slice e), .v (.msl b off n w) => do
    let k ← idx i n
    if w ≠ (← szOf c.P e) then none else pure (.v (.ptr b (off + k * w)))
  | some (.array n e), .lp b off => do
    let k ← idx i n
    pure (.lp b (off + k * (← szOf c.P e)))
  | some (.array n e), .v (.ptr b off) => do
    let k ← idx i n
    pure (.v (.ptr b (off + k * (← szOf c.P e))))
  | some (.array n e), .v (.vptr cs) => do
    let k ← idx i n
    let w ← szOf c.P e
    if k * w ≤ cs.length then pure (.v (.vptr (cs.drop (k * w)))) else none
  | _, _ => none

def indexV (c : Cx) (t : TypeId) (x i : V) : Option V :=
  match c.P.underlying t, x with
  | some .string, .s (.string s) => do
    let k ← idx i s.size
    (s[k]?).map fun b => .s (.int .u8 b.toNat)
  | some (.array n e), .agg cs => do
    let k ← idx i n
    let w ← szOf c.P e
    rd (← isAg c.P e) w (cs.drop (k * w))
  | _, _ => none

def fieldV (c : Cx) (t : TypeId) (f : Nat) : V → Option V
  | .agg cs => do
    let (o, ft) ← fieldOff c.P t f
    rd (← isAg c.P ft) (← szOf c.P ft) (cs.drop o)
  | _ => none

def fillV (place : Nat → Option (Nat × Nat)) (cells : List V) : List (Nat × V) → Option (List V)
  | [] => some cells
  | (i, v) :: rest => do
    let (off, size) ← place i
    if (cellsOf v).length ≠ size ∨ !okv v then none else do
    let cs ← wr cells off (cellsOf v)
    fillV place cs rest

/-- Where the fields lie. -/
def placesV (P : Program) : List Field → Option (List (Nat × Nat))
  | [] => some []
  | f :: fs => do let n ← szOf P f.type; let r ← placesV P fs; pure ((f.offset, n) :: r)

def buildV (c : Cx) (t : TypeId) (parts : List (Nat × V)) : Option V := do
  let z ← zeroOf c.P t
  match c.P.underlying t with
  | some (.struct fs) => do
    let ps ← placesV c.P fs.toList
    (fillV (fun i => ps[i]?) (cellsOf z) parts).map .agg
  | some (.array _ e) => do let w ← szOf c.P e; (fillV (fun i => some (i * w, w)) (cellsOf z) parts).map .agg
  | _ => none

/-- The elements of a literal: each part in its place, zeros else. -/
def elemsV : List V → List (Nat × V) → List V
  | l, [] => l
  | l, (i, v) :: r => elemsV (l.set i v) r

def elemOf? (P : Program) (t : TypeId) : Option TypeId :=
  match P.underlying t with
  | some (.slice e) => some e
  | _ => none

/-- A new object behind all. -/
def push (st : St) (o : O) : St := { st with h := st.h ++ [o] }

def mostLen : Nat := 70368744177664   -- 2^46 bytes at most, reckoned in elements times bytes

/-- Cells as elements of so many cells. -/
def chunks (w : Nat) : Nat → List V → List V
  | 0, _ => []
  | n + 1, cs => (if w = 1 then cs.getD 0 .undef else .agg (cs.take w)) :: chunks w n (cs.drop w)

/-- What is appended. -/
def newV (w : Nat) : V → Option (List V)
  | .s (.string s) => if w = 1 then some (s.data.toList.map fun b => V.s (.int .u8 b.toNat)) else none
  | y => (asl w y).map (·.2)

def appendV (c : Cx) (lo : Nat) (st : St) (m : Bool) (t : TypeId) (x y : V) : Option (V × St) := do
  let e ← elemOf? c.P t
  let w ← szOf c.P e
  let by_ := ((c.P.info? e).map (·.bytes)).getD 0
  let z ← zeroOf c.P e
  if w = 0 ∨ by_ = 0 ∨ (cellsOf z).length ≠ w then none else
  let new ← newV w y
  match x with
  | .msl b off n w' =>
    if new.isEmpty then some (x, st) else
    if b < lo ∨ w' ≠ w ∨ off ≠ 0 then none else do
    let cs ← cellsAt st.h b
    if cs.length ≠ n * w ∨ (n + new.length) * by_ > mostLen then none else
    let st := { st with h := st.h.set b .dead }
    pure (.msl st.h.length 0 (n + new.length) w, push st (.cells (cs ++ new.flatMap cellsOf)))
  | x => do
    let (tk, l) ← asl w x
    if new.isEmpty then some (x, st) else
    if (l.length + new.length) * by_ > mostLen then none else
    match tk with
    | .dead => none
    | .nil => none
    | .full => if m then pure (.msl st.h.length 0 (l.length + new.length) w, push st (.cells ((l ++ new).flatMap cellsOf)))
               else pure (.vsl (.tip st.h.length) w (l ++ new), push st .tip)
    | .tip id =>
      if id < lo ∨ m then none else
      match st.h[id]? with
      | some .tip =>
        let st := { st with h := st.h.set id .dead }
        pure (.vsl (.tip st.h.length) w (l ++ new), push st .tip)
      | _ => none

/-- Not append(x, make([]T, n)...). -/
def plainArg (c : Cx) (t : Option TypeId) : Bool :=
  match t.bind c.P.underlying with
  | some (.slice _) | some .string => true
  | _ => false

def mm2 (mx : Bool) : V → V → Option V
  | .s (.int k x), .s (.int k' y) => if k ≠ k' then none else some (.s (.int k (if mx then (if y > x then y else x) else (if y < x then y else x))))
  | _, _ => none
def minmax (mx : Bool) : List V → Option V
  | x :: y :: r => r.foldl (fun acc z => acc.bind fun a => mm2 mx a z) (mm2 mx x y)
  | _ => none

def Ent.val : Ent → Option V
  | .v .undef => none
  | .v x => some x
  | .lp .. => none

/-- Where a called function value leads. -/
def target (f : V) (args : List V) : Option (FuncId × List V) :=
  match f with
  | .fn (.func f) first cap => some (f, first ++ args ++ cap)
  | _ => none

def methodOf (P : Program) (t : TypeId) (name : String) : Option FuncId := do
  let i ← P.info? t
  let m ← i.methods.find? (·.name == name)
  let (f, p) ← m.func
  if !m.path.isEmpty then none else
  match P.underlying t with
  | some (.pointer _) => if p then some f else none
  | some _ => if p then none else some f
  | none => none

/-- A new variable's object: strings.Builder's is one of its own kind. -/
def newO (c : Cx) (t : TypeId) (cs : List V) : O := if c.bldT = some t then (match cs with
  | [.s (.pointer none), .vsl .nil _ []] => .bld t none
  | _ => .dead) else .cells cs

section
variable (c : Cx) (call : Nat → FuncId → List V → H → Option (V × H)) (f : FuncId) (lo : Nat)

def evalE (st : St) : Operand → Ent
  | .tmp t => getE st.env t
  | .const v => .v (ofValue v)
  | .global g => .v (match c.glob g with | some cs => .vptr cs | none => .undef)
  | .func f => .v (.fn (.func f) [] [])
def evalV (st : St) (o : Operand) : Option V := (evalE c st o).val
def evalO (st : St) : Option Operand → Option (Option V)
  | none => some none
  | some o => (evalV c st o).map some
def evalL (st : St) : List Operand → Option (List V)
  | [] => some []
  | o :: r => do let v ← evalV c st o; let l ← evalL st r; pure (v :: l)
def evalP (st : St) : List (Nat × Operand) → Option (List (Nat × V))
  | [] => some []
  | (i, o) :: r => do let v ← evalV c st o; let l ← evalP st r; pure ((i, v) :: l)

def isC : Operand → Bool
  | .const _ => true
  | _ => false

def isRow : Option Nat → Bool
  | some d => (c.rows f).contains d
  | none => false

/-- One operation: its value, and the state behind it (the slot not yet laid). -/
def opV (dst : Option Nat) (st : St) (o : Op) : Option (Ent × St) :=
  let val (x : Option V) : Option (Ent × St) := x.map fun v => (.v v, st)
  let newBox (ob : O) (cs : List V) : Option (Ent × St) :=
    match dst with
    | none => none
    | some t =>
      if (c.esc f).contains t then some (.v (.ptr st.h.length 0), push st ob)
      else if fresh t st.env then some (.lp t 0, { st with lb := (t, cs) :: st.lb.filter (fun p => p.1 != t) }) else none
  match o with
  | .move x | .assign x => some (evalE c st x, st)
  | .pick k a b => match evalE c st k with
    | .v (.s (.bool x)) => some (if x then evalE c st a else evalE c st b, st)
    | _ => none
  | .alloc t => do let z ← zeroOf c.P t; newBox (newO c t (cellsOf z)) (cellsOf z)
  | .box _ x => do
    let v ← evalV c st x
    if !okv v then none else newBox (.cells (cellsOf v)) (cellsOf v)
  | .build t ps => do val (buildV c t (← evalP c st ps.toList))
  | .buildSlice t n ps => do
    let e ← elemOf? c.P t
    let w ← szOf c.P e
    let z ← zeroOf c.P e
    let ps ← evalP c st ps.toList
    if w = 0 ∨ n * w > 2 ^ 24 ∨ (cellsOf z).length ≠ w ∨ !(ps.all fun p => p.1 < n && (cellsOf p.2).length == w && okv p.2) then none else
    let l := elemsV (List.replicate n z) ps
    if isRow c f dst then
      (if n = 0 then val (some (vs .full w [])) else some (.v (.msl st.h.length 0 n w), push st (.cells (l.flatMap cellsOf))))
    else val (some (vs .full w l))
  | .load t a => do val (loadAt c st t (evalE c st a))
  | .store t a x => do let st' ← storeAt c lo st t (evalE c st a) (← evalV c st x); pure (.v .undef, st')
  | .nilCheck x => match evalE c st x with
    | .lp t o => some (.lp t o, st)
    | .v (.ptr b o) => some (.v (.ptr b o), st)
    | .v (.vptr cs) => some (.v (.vptr cs), st)
    | .v (.fn (.func g) a b) => some (.v (.fn (.func g) a b), st)
    | _ => none
  | .binOp op t x y _ => do
    let a ← evalV c st x
    let b ← evalV c st y
    if isNilI a && isNilI b && !(isC x || isC y) then none else val (binOpV c op t a b)
  | .unOp op _ x => do val (unV op (← evalV c st x))
  | .convert s d x => do val (convV c s d (← evalV c st x))
  | .makeInterface t x => do
    let v ← evalV c st x
    match c.P.underlying t with
    | some (.interface _) => none
    | some _ => val (some (.ifc t v))
    | none => none
  | .makeFunc g a b => do val (some (.fn g (← evalL c st a.toList) (← evalL c st b.toList)))
  | .makeMap _ none => some (.v (.map st.h.length), push st (.map []))
  | .makeSlice t l k => do
    let e ← elemOf? c.P t
    let w ← szOf c.P e
    let by_ := ((c.P.info? e).map (·.bytes)).getD 0
    let z ← zeroOf c.P e
    match ← evalV c st l, ← evalV c st k with
    | .s (.int .i64 n), .s (.int .i64 m) =>
      if n < 0 ∨ m ≠ n ∨ w = 0 ∨ by_ = 0 ∨ n.toNat * by_ > mostLen ∨ (cellsOf z).length ≠ w then none else
      if n = 0 then val (some (vs .full w [])) else
      if isRow c f dst then
        some (.v (.msl st.h.length 0 n.toNat w), push st (.cells ((List.replicate n.toNat z).flatMap cellsOf)))
      else val (some (vs .full w (List.replicate n.toNat z)))
    | _, _ => none
  | .slice t x l h m => do val (sliceW c st.h t (← evalV c st x) (← evalO c st l) (← evalO c st h) (← evalO c st m))
  | .fieldAddr t x i => (fieldAddrV c t i (evalE c st x)).map (·, st)
  | .field t x i => do val (fieldV c t i (← evalV c st x))
  | .indexAddr t x i => do (indexAddrV c t (evalE c st x) (← evalV c st i)).map (·, st)
  | .index t x i => do val (indexV c t (← evalV c st x) (← evalV c st i))
  | .extract t i => match evalE c st t with
    | .v (.tup vs) => val vs[i]?
    | _ => none
  | .call k =>
    match k.callee with
    | .builtin .len => match k.args.toList, k.argTypes[0]? with
      | [x], some t => do val (lenV c t st.h (← evalV c st x))
      | _, _ => none
    | .builtin .append => match k.args.toList, k.argTypes[0]? with
      | [x, y], some t => do
        if !plainArg c (k.argTypes[1]?) then none else
        let (v, st') ← appendV c lo st (isRow c f dst) t (← evalV c st x) (← evalV c st y)
        pure (.v v, st')
      | _, _ => none
    | .builtin .min => do val (minmax false (← evalL c st k.args.toList))
    | .builtin .max => do val (minmax true (← evalL c st k.args.toList))
    | .builtin _ => none
    | .value g => do
      let (g, args) ← target (← evalV c st g) (← evalL c st k.args.toList)
      let (v, h) ← call lo g args st.h
      pure (.v v, { st with h })
    | .invoke r m => do
      match ← evalV c st r with
      | .ifc t v => do
        let g ← methodOf c.P t m
        let (v, h) ← call lo g (v :: (← evalL c st k.args.toList)) st.h
        pure (.v v, { st with h })
      | _ => none
  | _ => none

def put (st : St) (dst : Option Nat) (x : Ent) : St :=
  match dst with
  | some t => { st with env := (t, x) :: st.env }
  | none => st

/-- Whether a guarded operation is wanted. -/
def guardV (ops : Array Oper) (st : St) : Option (Nat × Bool) → Option Bool
  | none => some true
  | some (j, w) => match (ops[j]?).bind (·.dst) with
    | some t => match getE st.env t with
      | .v (.s (.bool b)) => some (b == w)
      | .v (.tup _) => some false
      | _ => none
    | none => none

inductive Loc where
  | tmp (t : Nat) | lb (t : Nat) | heap
  deriving DecidableEq

def opTmps (xs : List Operand) : List Loc := xs.filterMap fun | .tmp t => some (.tmp t) | _ => none

/-- What an operation reads and writes; whose box it makes; whose box's address it yields. -/
structure Ft where
  r : List Loc
  w : List Loc
  al : Option Nat := none
  lp : Option Nat := none

def foot (ops : Array Oper) (o : Oper) (st : St) : Ft :=
  let r := opTmps o.op.operands.toList ++ (match o.guard with | some (j, _) => ((ops[j]?).bind (·.dst)).toList.map Loc.tmp | none => [])
  let w := o.dst.toList.map Loc.tmp
  match o.op with
  | .load _ a => match evalE c st a with
    | .lp t _ => ⟨.lb t :: r, w, none, none⟩
    | .v (.ptr ..) => ⟨.heap :: r, w, none, none⟩
    | _ => ⟨r, w, none, none⟩
  | .store _ a _ => match evalE c st a with
    | .lp t _ => ⟨.lb t :: r, .lb t :: w, none, none⟩
    | _ => ⟨.heap :: r, .heap :: w, none, none⟩
  | .alloc _ | .box _ _ => match o.dst with
    | some t => if (c.esc f).contains t then ⟨.heap :: r, .heap :: w, none, none⟩ else ⟨r, .lb t :: w, some t, none⟩
    | none => ⟨r, w, none, none⟩
  | .call { callee := .builtin .min, .. } | .call { callee := .builtin .max, .. } => ⟨r, w, none, none⟩
  | .call { callee := .builtin .len, .. } => ⟨.heap :: r, w, none, none⟩
  | .call { callee := .value (.func g), .. } => if c.pur g then ⟨.heap :: r, w, none, none⟩ else ⟨.heap :: r, .heap :: w, none, none⟩
  | .call _ | .makeMap .. => ⟨.heap :: r, .heap :: w, none, none⟩
  | .buildSlice .. | .makeSlice .. => if isRow c f o.dst then ⟨.heap :: r, .heap :: w, none, none⟩ else ⟨r, w, none, none⟩
  | .fieldAddr _ a _ | .nilCheck a | .move a | .assign a | .indexAddr _ a _ => match evalE c st a with
    | .lp t _ => ⟨r, w, none, some t⟩
    | _ => ⟨r, w, none, none⟩
  | .slice _ a _ _ _ => match evalE c st a with
    | .v (.ptr ..) => ⟨.heap :: r, w, none, none⟩
    | _ => ⟨r, w, none, none⟩
  | .pick k a b => match evalE c st k with
    | .v (.s (.bool x)) => match (if x then evalE c st a else evalE c st b) with
      | .lp t _ => ⟨r, w, none, some t⟩
      | _ => ⟨r, w, none, none⟩
    | _ => ⟨r, w, none, none⟩
  | _ => ⟨r, w, none, none⟩

def meets (a b : List Loc) : Bool := a.any (b.contains ·)
/-- Whether two operations may change places. -/
def free (a b : Ft) : Bool := !meets a.w b.r && !meets a.w b.w && !meets b.w a.r

/-- The operations of a region, one behind the other. -/
def opsV (ops : Array Oper) : List Oper → St → Option St
  | [], st => some st
  | o :: rest, st =>
    match guardV ops st o.guard with
    | some true => match opV c call f lo o.dst st o.op with
      | some (x, st') => opsV ops rest (put st' o.dst x)
      | none => none
    | some false => opsV ops rest (put st o.dst (.v (.tup [])))
    | none => none

/-- What they read and write. -/
def footV (ops : Array Oper) : List Oper → St → List Ft
  | [], _ => []
  | o :: rest, st =>
    match guardV ops st o.guard with
    | some true => match opV c call f lo o.dst st o.op with
      | some (x, st') => foot c f ops o st :: footV ops rest (put st' o.dst x)
      | none => []
    | some false => ⟨(match o.guard with | some (j, _) => ((ops[j]?).bind (·.dst)).toList.map Loc.tmp | none => []), o.dst.toList.map Loc.tmp, none, none⟩ :: footV ops rest (put st o.dst (.v (.tup [])))
    | none => []

def indep (bf : Array Nat) (env : List (Nat × Ent)) (fs : List Ft) : Bool :=
  fs.zipIdx.all fun (b, j) =>
    (fs.zipIdx.all fun (a, i) =>
      (!(i < j) || (bf.getD j 0).testBit i || free a b) &&
      (match a.al, b.lp with | some t, some u => t != u || (bf.getD j 0).testBit i | _, _ => true)) &&
    (match b.al with | some t => fresh t env | none => true)

inductive X where
  | normal | exit (id : Nat) | ret
  deriving DecidableEq

/-- A state at the head of a loop: what is carried stands first; what dies is gone. -/
def headSt (cr : List Nat × List Nat × List Nat) (st : St) : St :=
  { env := cr.1.map (fun t => (t, getE st.env t)) ++ st.env.filter (fun p => !(cr.1 ++ cr.2.1).contains p.1), lb := st.lb.filter (fun p => !cr.2.2.contains p.1), h := st.h }

def loopV (body : St → Option (X × St)) (cr : List Nat × List Nat × List Nat) : Nat → St → Option (X × St)
  | 0, _ => none
  | k + 1, st =>
    match body st with
    | some (.normal, st) => loopV body cr k (headSt cr st)
    | r => r

def exec (k : Nat) : Nat → Code → St → Option (X × St)
  | _, .skip, st => some (.normal, st)
  | _, .region _ ops false, st => (opsV c call f lo ops ops.toList st).map (X.normal, ·)
  | _, .region _ ops true, st =>
    if indep (Region.before ops) st.env (footV c call f lo ops ops.toList st) then (opsV c call f lo ops ops.toList st).map (X.normal, ·) else none
  | blk, .seq a b, st => match exec k blk a st with
    | some (.normal, st) => exec k blk b st
    | r => r
  | blk, .cond x a b, st => match evalE c st x with
    | .v (.s (.bool p)) => if p then exec k blk a st else exec k blk b st
    | _ => none
  | _, .block id a, st => match exec k id a st with
    | some (.exit j, st) => if j = id then some (.normal, st) else some (.exit j, st)
    | r => r
  | blk, .loop a, st => loopV (exec k blk a) (c.carry f blk) k (headSt (c.carry f blk) st)
  | _, .exit id, st => some (.exit id, st)
  | _, .ret, st => some (.ret, st)
  | _, .label _, st => some (.normal, st)
  | blk, .scope a, st => exec k blk a st
  | _, _, _ => none
end

def sealL (s : V → Option V) : List V → Option (List V)
  | [] => some []
  | v :: r => do let v' ← s v; let r' ← sealL s r; pure (v' :: r')

/-- A result that leaves its function: nothing of it refers to objects from n on. -/
def sealV (h : H) (n : Nat) : Nat → V → Option V
  | 0, _ => none
  | k + 1, v =>
    match v with
    | .s v => some (.s v)
    | .undef => some .undef
    | .agg cs => (sealL (sealV h n k) cs).map .agg
    | .tup cs => (sealL (sealV h n k) cs).map .tup
    | .ptr b off => if b < n then some (.ptr b off) else do
      let cs0 ← cellsAt h b
      if cs0.length < off then none else
      let cs ← sealL (sealV h n k) cs0
      pure (.vptr (cs.drop off))
    | .vptr cs => (sealL (sealV h n k) cs).map .vptr
    | .vsl t w l => do
      let l ← sealL (sealV h n k) l
      pure (.vsl (match t with | .tip id => if id < n then t else .dead | t => t) w l)
    | .msl b off len w => if b < n then some (.msl b off len w) else do
      let cs0 ← cellsAt h b
      if cs0.length < off + len * w then none else
      let cs ← sealL (sealV h n k) ((cs0.drop off).take (len * w))
      pure (.vsl .dead w (chunks w len cs))
    | .map r => if r < n then some (.map r) else none
    | .fn g a b => do pure (.fn g (← sealL (sealV h n k) a) (← sealL (sealV h n k) b))
    | .ifc t v => (sealV h n k v).map (.ifc t)

mutual
/-- A value as a pure function gets it and hands it back: what room its rows have is forgotten, and empty rows are all alike. -/
def fg : V → V
  | .s v => .s v
  | .undef => .undef
  | .agg cs => .agg (fgL cs)
  | .tup cs => .tup (fgL cs)
  | .ptr b o => .ptr b o
  | .vptr cs => .vptr (fgL cs)
  | .vsl _ w l => vs .dead w (fgL l)
  | .msl b o n w => .msl b o n w
  | .map r => .map r
  | .fn f a b => .fn f (fgL a) (fgL b)
  | .ifc t v => .ifc t (fg v)
def fgL : List V → List V
  | [] => []
  | v :: l => fg v :: fgL l
end

def resV (c : Cx) (st : St) : ResultVar → Option V
  | .tmp t => evalV c st (.tmp t)
  | .cell a t => loadAt c st t (getE st.env a)

def resL (c : Cx) (st : St) : List ResultVar → Option (List V)
  | [] => some []
  | r :: rs => do let v ← resV c st r; let l ← resL c st rs; pure (v :: l)

def resultsV (c : Cx) (st : St) : List ResultVar → Option V
  | [r] => resV c st r
  | rs => (resL c st rs).map .tup

def sealDepth : Nat := 12

def argsE (args : List V) : List (Nat × Ent) := args.mapIdx fun i v => (i, .v v)

/-- A primitive that turns objects. -/
def hpV (c : Cx) (lo : Nat) (f : FuncId) (g : List V → H → Option (V × List (Nat × O) × List O)) (args : List V) (h : H) : Option (V × H) :=
  if c.pur f then none else
  match g args h with
  | some (v, s, n) => if s.all (fun p => decide (lo ≤ p.1)) then some (v, (s.foldl (fun h p => h.set p.1 p.2) h) ++ n) else none
  | none => none

/-- A function's body, with what calls tell, and how code runs. -/
def bodyV (c : Cx) (ex : Nat → FuncId → Code → St → Option (X × St)) (lo : Nat) (f : FuncId) (args : List V) (h : H) : Option (V × H) :=
  match c.prim f with
  | some g => (g (fgL args)).map (·, h)
  | none => match c.hprim f with
  | some g => hpV c lo f g args h
  | none =>
    match c.P.funcs[f]? with
    | some fn => match fn.body with
      | some code =>
        if args.length > fn.ntmps then none else
        match ex (if c.pur f then h.length else lo) f code { env := argsE (if c.pur f then fgL args else args), lb := [], h := h } with
        | some (.exit _, _) | none => none
        | some (_, st) =>
          if c.pur f then do
            let v ← resultsV c st fn.results.toList
            pure (fg (← sealV st.h h.length sealDepth v), h)
          else do
            let v ← resultsV c st fn.results.toList
            pure (v, st.h)
      | none => none
    | none => none

/-- Scalars alone. -/
def flat : Nat → V → Bool
  | 0, _ => false
  | k + 1, v => match v with
    | .s _ => true
    | .agg cs => cs.all (flat k)
    | .tup cs => cs.all (flat k)
    | _ => false
/-- A call of a function whose arguments are closed: it sees no objects, and hands back scalars. -/
def frzV (c : Cx) (f : FuncId) (B : Nat → List V → H → Option (V × H)) (lo : Nat) (args : List V) (h : H) : Option (V × H) :=
  if c.frz f = true ∧ c.pur f = true then
    (match sealL (sealV h 0 sealDepth) (fgL args) with
    | some as => match B 0 as (List.replicate h.length .dead) with
      | some (v, _) => if flat sealDepth v then some (v, h) else none
      | none => none
    | none => none)
  else B lo args h

/-- A call, with so many rounds. -/
def denK (c : Cx) : Nat → Nat → FuncId → List V → H → Option (V × H)
  | 0, _, _, _, _ => none
  | k + 1, lo, f, args, h => frzV c f (fun lo args h => bodyV c (fun lo f code st => exec c (denK c k) f lo k 0 code st) lo f args h) lo args h
end Go.AM
namespace Go.AM
open Go.RowKit

structure Sg where
  loc : Nat → Option (Nat × Nat)
  reg : Nat → Option Nat

def bsize (W : World) (c : Nat) : Nat :=
  match W.heap[c]? with
  | some (.cells a _ _) => a.size
  | _ => 0

def L2 {α β : Type} (R : α → β → Prop) (l : List α) (m : List β) : Prop :=
  l.length = m.length ∧ ∀ (i : Nat) (a : α) (b : β), l[i]? = some a → m[i]? = some b → R a b

def cellAt (W : World) (c o : Nat) : Option Value := W.cell? ⟨c, o, none⟩

/-- Cells in memory that read as abstract ones. -/
def Cl (R : V → Value → Prop) (W : World) (c o : Nat) (cs : List V) : Prop :=
  ∀ i v, cs[i]? = some v → ∃ y, cellAt W c (o + i) = some y ∧ R v y

/-- A relation of values, of those that may be cells. -/
def Ck (R : V → Value → Prop) (v : V) (y : Value) : Prop := okc v = true ∧ R v y

def VR (σ : Sg) (W : World) : Nat → V → Value → Prop
  | 0, _, _ => False
  | n + 1, v, x =>
    match v with
    | .undef => True
    | .s a => x = a ∧ a.oneCell' = true
    | .agg cs => ∃ xs : Array Value, x = .agg xs ∧ L2 (Ck (VR σ W n)) cs xs.toList
    | .tup cs => ∃ xs : Array Value, x = .tuple xs ∧ L2 (VR σ W n) cs xs.toList
    | .ptr b off => ∃ c d, σ.loc b = some (c, d) ∧ x = .pointer (some ⟨c, d + off, none⟩)
    | .vptr cs => ∃ c o h, x = .pointer (some ⟨c, o, none⟩) ∧ σ.reg c = some h ∧ o + cs.length ≤ h ∧ Cl (Ck (VR σ W n)) W c o cs
    | .vsl t w l => ∃ base cap, x = .slice base l.length cap ∧ (base = none → cap = 0) ∧ (t = .nil → base = none) ∧ l.length ≤ cap ∧ (t = .full → cap = l.length) ∧
        (l = [] → ∀ id, t = .tip id → ∃ c o, base = some ⟨c, o, none⟩ ∧ 0 < w ∧ σ.loc id = some (c, o) ∧ o + cap * w ≤ bsize W c) ∧
        (l ≠ [] → ∃ c o h, base = some ⟨c, o, none⟩ ∧ 0 < w ∧ (∀ e ∈ l, (cellsOf e).length = w) ∧ σ.reg c = some h ∧ o + l.length * w ≤ h ∧
          Cl (Ck (VR σ W n)) W c o (l.flatMap cellsOf) ∧ (∀ id, t = .tip id → σ.loc id = some (c, o + l.length * w) ∧ o + cap * w ≤ bsize W c))
    | .msl b off len w => ∃ c d cap, σ.loc b = some (c, d) ∧ x = .slice (some ⟨c, d + off, none⟩) len cap ∧ len ≤ cap ∧ 0 < w ∧ 0 < len ∧ d + off + cap * w ≤ bsize W c
    | .map r => ∃ c, σ.loc r = some (c, 0) ∧ x = .map (some c)
    | .fn f a b => ∃ xs ys : Array Value, x = .func f xs ys ∧ L2 (VR σ W n) a xs.toList ∧ L2 (VR σ W n) b ys.toList
    | .ifc t v => ∃ y, x = .iface t y ∧ VR σ W n v y

def VRel (σ : Sg) (W : World) (v : V) (x : Value) : Prop := ∃ n, VR σ W n v x

theorem L2.imp {α β : Type} {R S : α → β → Prop} {l : List α} {m : List β} (h : L2 R l m) (k : ∀ a b, R a b → S a b) : L2 S l m :=
  ⟨h.1, fun i a b ha hb => k _ _ (h.2 i a b ha hb)⟩
theorem Cl.imp {R S : V → Value → Prop} {W : World} {c o : Nat} {cs : List V} (h : Cl R W c o cs) (k : ∀ a b, R a b → S a b) : Cl S W c o cs :=
  fun i v hv => let ⟨y, hy, r⟩ := h i v hv; ⟨y, hy, k _ _ r⟩

theorem Ck.imp {R S : V → Value → Prop} (k : ∀ a b, R a b → S a b) : ∀ a b, Ck R a b → Ck S a b := fun _ _ h => ⟨h.1, k _ _ h.2⟩

theorem VR.up {σ : Sg} {W : World} : ∀ (n : Nat) {v : V} {x : Value}, VR σ W n v x → VR σ W (n + 1) v x
  | 0, _, _, h => h.elim
  | n + 1, v, x, h => by
    have ih : ∀ a b, VR σ W n a b → VR σ W (n + 1) a b := fun a b => VR.up n
    cases v with
    | undef => trivial
    | s a => exact h
    | agg cs => obtain ⟨xs, hx, hl⟩ := h; exact ⟨xs, hx, hl.imp (Ck.imp ih)⟩
    | tup cs => obtain ⟨xs, hx, hl⟩ := h; exact ⟨xs, hx, hl.imp ih⟩
    | ptr b off => exact h
    | vptr cs => obtain ⟨c, o, k, hx, hr, hk, hl⟩ := h; exact ⟨c, o, k, hx, hr, hk, hl.imp (Ck.imp ih)⟩
    | vsl t w l =>
      obtain ⟨base, cap, hx, n0, n1, h1, h2, h3, h4⟩ := h
      refine ⟨base, cap, hx, n0, n1, h1, h2, h3, fun hl => ?_⟩
      obtain ⟨c, o, k, hs, a1, a2, a3, a4, a5, a6⟩ := h4 hl
      exact ⟨c, o, k, hs, a1, a2, a3, a4, a5.imp (Ck.imp ih), a6⟩
    | msl b off len w => exact h
    | map r => exact h
    | fn f a b => obtain ⟨xs, ys, hx, h1, h2⟩ := h; exact ⟨xs, ys, hx, h1.imp ih, h2.imp ih⟩
    | ifc t v => obtain ⟨y, hx, h1⟩ := h; exact ⟨y, hx, ih _ _ h1⟩

theorem VR.le {σ : Sg} {W : World} {n m : Nat} (hnm : n ≤ m) {v : V} {x : Value} (h : VR σ W n v x) : VR σ W m v x := by
  induction hnm with
  | refl => exact h
  | step _ ih => exact ih.up

theorem bound_list {α : Type} (p : α → Nat → Prop) (up : ∀ a n m, n ≤ m → p a n → p a m) : ∀ (l : List α), (∀ a ∈ l, ∃ n, p a n) → ∃ n, ∀ a ∈ l, p a n
  | [], _ => ⟨0, fun a h => by cases h⟩
  | a :: l, h => by
    obtain ⟨n, hn⟩ := h a (by simp)
    obtain ⟨m, hm⟩ := bound_list p up l (fun b hb => h b (by simp [hb]))
    refine ⟨max n m, fun b hb => ?_⟩
    rcases List.mem_cons.1 hb with rfl | hb
    · exact up _ _ _ (Nat.le_max_left _ _) hn
    · exact up _ _ _ (Nat.le_max_right _ _) (hm b hb)

theorem L2.bound {σ : Sg} {W : World} {l : List V} {m : List Value} (h : L2 (VRel σ W) l m) : ∃ n, L2 (VR σ W n) l m := by
  obtain ⟨n, hn⟩ := bound_list (fun (p : Nat) n => ∀ a b, l[p]? = some a → m[p]? = some b → VR σ W n a b)
    (fun p n k hk hp a b ha hb => (hp a b ha hb).le hk) (List.range l.length) (fun p hp => by
      have hlt : p < l.length := List.mem_range.1 hp
      have hlm : p < m.length := h.1 ▸ hlt
      obtain ⟨n, hn⟩ := h.2 p _ _ (List.getElem?_eq_getElem hlt) (List.getElem?_eq_getElem hlm)
      refine ⟨n, fun a b ha hb => ?_⟩
      rw [List.getElem?_eq_getElem hlt] at ha; rw [List.getElem?_eq_getElem hlm] at hb
      cases ha; cases hb; exact hn)
  refine ⟨n, h.1, fun i a b ha hb => hn i ?_ a b ha hb⟩
  exact List.mem_range.2 (List.getElem?_eq_some_iff.1 ha).1

theorem Cl.bound {σ : Sg} {W W' : World} {c o : Nat} {cs : List V} (h : Cl (VRel σ W) W' c o cs) : ∃ n, Cl (VR σ W n) W' c o cs := by
  obtain ⟨n, hn⟩ := bound_list (fun (p : Nat) n => ∀ a, cs[p]? = some a → ∃ y, cellAt W' c (o + p) = some y ∧ VR σ W n a y)
    (fun p n k hk hp a ha => let ⟨y, hy, r⟩ := hp a ha; ⟨y, hy, r.le hk⟩) (List.range cs.length) (fun p hp => by
      have hlt : p < cs.length := List.mem_range.1 hp
      obtain ⟨y, hy, n, hn⟩ := h p _ (List.getElem?_eq_getElem hlt)
      refine ⟨n, fun a ha => ?_⟩
      rw [List.getElem?_eq_getElem hlt] at ha
      cases ha; exact ⟨y, hy, hn⟩)
  exact ⟨n, fun i v hv => hn i (List.mem_range.2 (List.getElem?_eq_some_iff.1 hv).1) v hv⟩

theorem L2.boundK {σ : Sg} {W : World} {l : List V} {m : List Value} (h : L2 (Ck (VRel σ W)) l m) : ∃ n, L2 (Ck (VR σ W n)) l m :=
  let ⟨n, hn⟩ := L2.bound (h.imp fun _ _ h => h.2)
  ⟨n, hn.1, fun i a b ha hb => ⟨(h.2 i a b ha hb).1, hn.2 i a b ha hb⟩⟩
theorem Cl.boundK {σ : Sg} {W W' : World} {c o : Nat} {cs : List V} (h : Cl (Ck (VRel σ W)) W' c o cs) : ∃ n, Cl (Ck (VR σ W n)) W' c o cs :=
  let ⟨n, hn⟩ := Cl.bound (h.imp fun _ _ h => h.2)
  ⟨n, fun i v hv => let ⟨y, hy, r⟩ := hn i v hv; let ⟨_, _, k⟩ := h i v hv; ⟨y, hy, k.1, r⟩⟩

section
variable {σ : Sg} {W : World}
theorem VRel.s_iff {a x : Value} : VRel σ W (.s a) x ↔ x = a ∧ a.oneCell' = true := ⟨fun ⟨n, h⟩ => by cases n with | zero => exact h.elim | succ n => exact h, fun h => ⟨1, h⟩⟩
theorem VRel.undef {x : Value} : VRel σ W .undef x := ⟨1, trivial⟩
theorem VRel.agg_iff {cs : List V} {x : Value} : VRel σ W (.agg cs) x ↔ ∃ xs : Array Value, x = .agg xs ∧ L2 (Ck (VRel σ W)) cs xs.toList :=
  ⟨fun ⟨n, h⟩ => by cases n with | zero => exact h.elim | succ n => exact let ⟨xs, hx, hl⟩ := h; ⟨xs, hx, hl.imp (Ck.imp fun _ _ h => ⟨_, h⟩)⟩,
   fun ⟨xs, hx, hl⟩ => let ⟨n, hn⟩ := hl.boundK; ⟨n + 1, xs, hx, hn⟩⟩
theorem VRel.tup_iff {cs : List V} {x : Value} : VRel σ W (.tup cs) x ↔ ∃ xs : Array Value, x = .tuple xs ∧ L2 (VRel σ W) cs xs.toList :=
  ⟨fun ⟨n, h⟩ => by cases n with | zero => exact h.elim | succ n => exact let ⟨xs, hx, hl⟩ := h; ⟨xs, hx, hl.imp fun _ _ h => ⟨_, h⟩⟩,
   fun ⟨xs, hx, hl⟩ => let ⟨n, hn⟩ := hl.bound; ⟨n + 1, xs, hx, hn⟩⟩
theorem VRel.ptr_iff {b off : Nat} {x : Value} : VRel σ W (.ptr b off) x ↔ ∃ c d, σ.loc b = some (c, d) ∧ x = .pointer (some ⟨c, d + off, none⟩) :=
  ⟨fun ⟨n, h⟩ => by cases n with | zero => exact h.elim | succ n => exact h, fun h => ⟨1, h⟩⟩
theorem VRel.vptr_iff {cs : List V} {x : Value} : VRel σ W (.vptr cs) x ↔ ∃ c o h, x = .pointer (some ⟨c, o, none⟩) ∧ σ.reg c = some h ∧ o + cs.length ≤ h ∧ Cl (Ck (VRel σ W)) W c o cs :=
  ⟨fun ⟨n, h⟩ => by cases n with | zero => exact h.elim | succ n => exact let ⟨c, o, k, hx, hr, hk, hl⟩ := h; ⟨c, o, k, hx, hr, hk, hl.imp (Ck.imp fun _ _ h => ⟨_, h⟩)⟩,
   fun ⟨c, o, k, hx, hr, hk, hl⟩ => let ⟨n, hn⟩ := hl.boundK; ⟨n + 1, c, o, k, hx, hr, hk, hn⟩⟩
theorem VRel.vsl_iff {t : Tk} {w : Nat} {l : List V} {x : Value} : VRel σ W (.vsl t w l) x ↔ ∃ base cap, x = .slice base l.length cap ∧ (base = none → cap = 0) ∧ (t = .nil → base = none) ∧ l.length ≤ cap ∧ (t = .full → cap = l.length) ∧
        (l = [] → ∀ id, t = .tip id → ∃ c o, base = some ⟨c, o, none⟩ ∧ 0 < w ∧ σ.loc id = some (c, o) ∧ o + cap * w ≤ bsize W c) ∧
        (l ≠ [] → ∃ c o h, base = some ⟨c, o, none⟩ ∧ 0 < w ∧ (∀ e ∈ l, (cellsOf e).length = w) ∧ σ.reg c = some h ∧ o + l.length * w ≤ h ∧
          Cl (Ck (VRel σ W)) W c o (l.flatMap cellsOf) ∧ (∀ id, t = .tip id → σ.loc id = some (c, o + l.length * w) ∧ o + cap * w ≤ bsize W c)) := by
  constructor
  · rintro ⟨n, h⟩
    cases n with
    | zero => exact h.elim
    | succ n =>
      obtain ⟨base, cap, hx, n0, n1, h1, h2, h3, h4⟩ := h
      refine ⟨base, cap, hx, n0, n1, h1, h2, h3, fun hl => ?_⟩
      obtain ⟨c, o, k, hs, a1, a2, a3, a4, a5, a6⟩ := h4 hl
      exact ⟨c, o, k, hs, a1, a2, a3, a4, a5.imp (Ck.imp fun _ _ h => ⟨_, h⟩), a6⟩
  · rintro ⟨base, cap, hx, n0, n1, h1, h2, h3, h4⟩
    by_cases hl : l = []
    · exact ⟨1, base, cap, hx, n0, n1, h1, h2, h3, fun h => (h hl).elim⟩
    · obtain ⟨c, o, k, hs, a1, a2, a3, a4, a5, a6⟩ := h4 hl
      obtain ⟨n, hn⟩ := a5.boundK
      exact ⟨n + 1, base, cap, hx, n0, n1, h1, h2, h3, fun _ => ⟨c, o, k, hs, a1, a2, a3, a4, hn, a6⟩⟩
theorem VRel.vs_iff {t : Tk} {w : Nat} {l : List V} {x : Value} (ht : l = [] → t.isTip = false) : VRel σ W (vs t w l) x ↔ VRel σ W (.vsl t w l) x := by
  unfold vs
  rw [VRel.vsl_iff, VRel.vsl_iff]
  by_cases hl : l = []
  · have := ht hl
    cases t <;> simp_all [Tk.isTip]
  · rw [if_neg hl]
theorem VRel.msl_iff {b off len w : Nat} {x : Value} : VRel σ W (.msl b off len w) x ↔ ∃ c d cap, σ.loc b = some (c, d) ∧ x = .slice (some ⟨c, d + off, none⟩) len cap ∧ len ≤ cap ∧ 0 < w ∧ 0 < len ∧ d + off + cap * w ≤ bsize W c :=
  ⟨fun ⟨n, h⟩ => by cases n with | zero => exact h.elim | succ n => exact h, fun h => ⟨1, h⟩⟩
theorem VRel.map_iff {r : Nat} {x : Value} : VRel σ W (.map r) x ↔ ∃ c, σ.loc r = some (c, 0) ∧ x = .map (some c) :=
  ⟨fun ⟨n, h⟩ => by cases n with | zero => exact h.elim | succ n => exact h, fun h => ⟨1, h⟩⟩
theorem VRel.fn_iff {f : Fn} {a b : List V} {x : Value} : VRel σ W (.fn f a b) x ↔ ∃ xs ys : Array Value, x = .func f xs ys ∧ L2 (VRel σ W) a xs.toList ∧ L2 (VRel σ W) b ys.toList :=
  ⟨fun ⟨n, h⟩ => by cases n with | zero => exact h.elim | succ n => exact let ⟨xs, ys, hx, h1, h2⟩ := h; ⟨xs, ys, hx, h1.imp (fun _ _ h => ⟨_, h⟩), h2.imp (fun _ _ h => ⟨_, h⟩)⟩,
   fun ⟨xs, ys, hx, h1, h2⟩ => let ⟨n, hn⟩ := h1.bound; let ⟨m, hm⟩ := h2.bound
    ⟨max n m + 1, xs, ys, hx, hn.imp (fun _ _ h => h.le (Nat.le_max_left _ _)), hm.imp (fun _ _ h => h.le (Nat.le_max_right _ _))⟩⟩
theorem VRel.ifc_iff {t : TypeId} {v : V} {x : Value} : VRel σ W (.ifc t v) x ↔ ∃ y, x = .iface t y ∧ VRel σ W v y :=
  ⟨fun ⟨n, h⟩ => by cases n with | zero => exact h.elim | succ n => exact let ⟨y, hx, h1⟩ := h; ⟨y, hx, n, h1⟩, fun ⟨y, hx, n, h1⟩ => ⟨n + 1, y, hx, h1⟩⟩
end

/-- What a value rests on goes on to hold. -/
structure Mo (σ : Sg) (W : World) (σ' : Sg) (W' : World) : Prop where
  loc : ∀ id p, σ.loc id = some p → σ'.loc id = some p
  reg : ∀ c n, σ.reg c = some n → ∃ n', σ'.reg c = some n' ∧ n ≤ n'
  cel : ∀ c n o, σ.reg c = some n → o < n → cellAt W' c o = cellAt W c o
  bsz : ∀ c, bsize W c ≤ bsize W' c
  bse : ∀ c n, σ.reg c = some n → bsize W' c = bsize W c

theorem Mo.refl (σ : Sg) (W : World) : Mo σ W σ W := ⟨fun _ _ h => h, fun _ n h => ⟨n, h, Nat.le_refl _⟩, fun _ _ _ _ _ => rfl, fun _ => Nat.le_refl _, fun _ _ _ => rfl⟩
theorem Mo.trans {σ σ' σ'' : Sg} {W W' W'' : World} (h : Mo σ W σ' W') (k : Mo σ' W' σ'' W'') : Mo σ W σ'' W'' where
  loc id p e := k.loc _ _ (h.loc _ _ e)
  reg c n e := let ⟨n', e', hn⟩ := h.reg c n e; let ⟨n'', e'', hn'⟩ := k.reg c n' e'; ⟨n'', e'', Nat.le_trans hn hn'⟩
  cel c n o e ho := by
    obtain ⟨n', e', hn⟩ := h.reg c n e
    rw [k.cel c n' o e' (Nat.lt_of_lt_of_le ho hn), h.cel c n o e ho]
  bsz c := Nat.le_trans (h.bsz c) (k.bsz c)
  bse c n e := by
    obtain ⟨n', e', _⟩ := h.reg c n e
    rw [k.bse c n' e', h.bse c n e]

theorem VR.mono {σ σ' : Sg} {W W' : World} (M : Mo σ W σ' W') : ∀ (n : Nat) {v : V} {x : Value}, VR σ W n v x → VR σ' W' n v x
  | 0, _, _, h => h.elim
  | n + 1, v, x, h => by
    have ih : ∀ a b, VR σ W n a b → VR σ' W' n a b := fun a b => VR.mono M n
    have cl : ∀ c o k (cs : List V), σ.reg c = some k → o + cs.length ≤ k → Cl (Ck (VR σ W n)) W c o cs → Cl (Ck (VR σ' W' n)) W' c o cs := by
      intro c o k cs hr hk hl i v hv
      obtain ⟨y, hy, r⟩ := hl i v hv
      have := (List.getElem?_eq_some_iff.1 hv).1
      exact ⟨y, by rw [M.cel c k (o + i) hr (by omega)]; exact hy, r.1, ih _ _ r.2⟩
    cases v with
    | undef => trivial
    | s a => exact h
    | agg cs => obtain ⟨xs, hx, hl⟩ := h; exact ⟨xs, hx, hl.imp (Ck.imp ih)⟩
    | tup cs => obtain ⟨xs, hx, hl⟩ := h; exact ⟨xs, hx, hl.imp ih⟩
    | ptr b off => obtain ⟨c, d, h1, h2⟩ := h; exact ⟨c, d, M.loc _ _ h1, h2⟩
    | vptr cs =>
      obtain ⟨c, o, k, hx, hr, hk, hl⟩ := h
      obtain ⟨k', hr', hk'⟩ := M.reg c k hr
      exact ⟨c, o, k', hx, hr', Nat.le_trans hk hk', cl c o k cs hr hk hl⟩
    | vsl t w l =>
      obtain ⟨base, cap, hx, n0, n1, h1, h2, h3, h4⟩ := h
      refine ⟨base, cap, hx, n0, n1, h1, h2, fun hl id hid => let ⟨c, o, b1, b2, b3, b4⟩ := h3 hl id hid; ⟨c, o, b1, b2, M.loc _ _ b3, Nat.le_trans b4 (M.bsz c)⟩, fun hl => ?_⟩
      obtain ⟨c, o, k, hs, a1, a2, a3, a4, a5, a6⟩ := h4 hl
      obtain ⟨k', hr', hk'⟩ := M.reg c k a3
      have hlen : (l.flatMap cellsOf).length = l.length * w := by
        clear a4 a5 a6 h1 h2 h3 h4 hx hl
        induction l with
        | nil => simp
        | cons e l ih2 =>
          simp only [List.flatMap_cons, List.length_append, List.length_cons]
          rw [ih2 (fun e he => a2 e (by simp [he])), a2 e (by simp), Nat.succ_mul]; omega
      exact ⟨c, o, k', hs, a1, a2, hr', Nat.le_trans a4 hk', cl c o k _ a3 (by rw [hlen]; exact a4) a5,
        fun id hid => let ⟨p, q⟩ := a6 id hid; ⟨M.loc _ _ p, Nat.le_trans q (M.bsz c)⟩⟩
    | msl b off len w => obtain ⟨c, d, cap, h1, h2, h3, h4, h4', h5⟩ := h; exact ⟨c, d, cap, M.loc _ _ h1, h2, h3, h4, h4', Nat.le_trans h5 (M.bsz c)⟩
    | map r => obtain ⟨c, h1, h2⟩ := h; exact ⟨c, M.loc _ _ h1, h2⟩
    | fn f a b => obtain ⟨xs, ys, hx, h1, h2⟩ := h; exact ⟨xs, ys, hx, h1.imp ih, h2.imp ih⟩
    | ifc t v => obtain ⟨y, hx, h1⟩ := h; exact ⟨y, hx, ih _ _ h1⟩

theorem VRel.mono {σ σ' : Sg} {W W' : World} (M : Mo σ W σ' W') {v : V} {x : Value} (h : VRel σ W v x) : VRel σ' W' v x :=
  let ⟨n, hn⟩ := h; ⟨n, hn.mono M⟩

theorem Ck.mono {σ σ' : Sg} {W W' : World} (M : Mo σ W σ' W') {v : V} {x : Value} (h : Ck (VRel σ W) v x) : Ck (VRel σ' W') v x := ⟨h.1, h.2.mono M⟩

def O.live : O → Bool
  | .dead => false
  | _ => true
/-- An object that lives lies in that block. -/
def hosted (σ : Sg) (h : H) (c : Nat) : Prop := ∃ id o d, h[id]? = some o ∧ o.live = true ∧ σ.loc id = some (c, d)

/-- An object that is read through its own functions alone. -/
def O.opq : O → Bool
  | .map _ | .bld .. | .buf .. => true
  | _ => false
theorem O.opq_live {o : O} (h : o.opq = true) : o.live = true := by cases o <;> first | rfl | cases h
/-- Where such an object lies. -/
def OpR (σ : Sg) (W : World) (c d : Nat) : O → Obj → Prop
  | .map es, .map ents _ => L2 (fun (p : V × V) (e : MapEntry) => VRel σ W p.1 e.key ∧ VRel σ W p.2 e.val) es ents.toList
  | .bld t r, .cells arr t' fz => t' = t ∧ fz = (0, 0) ∧ d = 0 ∧ ∃ p v, arr = #[p, v] ∧ (p = .pointer none ∨ p = .pointer (some ⟨c, 0, none⟩)) ∧
      match r with
      | none => v = .slice none 0 0
      | some (j, n) => ∃ g cap, σ.loc j = some (g, 0) ∧ v = .slice (some ⟨g, 0, none⟩) n cap ∧ 0 < n ∧ n ≤ cap ∧ cap ≤ maxLen ∧ cap ≤ bsize W g
  | .buf t l, .cells arr t' fz => t' = t ∧ d = 0 ∧ l.length ≤ arr.size ∧ fz.2 ≤ l.length ∧ ∀ (i : Nat) b, l[i]? = some b → arr[i]? = some (.int .u8 (b.toNat : Int))
  | _, _ => False
theorem OpR.mono {σ σ' : Sg} {W W' : World} (M : Mo σ W σ' W') {c d : Nat} {o : O} {ob : Obj} (h : OpR σ W c d o ob) : OpR σ' W' c d o ob := by
  cases o with
  | map es =>
    cases ob with
    | map ents k => exact L2.imp h fun _ _ q => ⟨q.1.mono M, q.2.mono M⟩
    | _ => exact h.elim
  | bld t r =>
    cases ob with
    | cells arr t' fz =>
      obtain ⟨h1, h2, h3, p, v, h4, h5, h6⟩ := h
      refine ⟨h1, h2, h3, p, v, h4, h5, ?_⟩
      cases r with
      | none => exact h6
      | some q =>
        obtain ⟨j, n⟩ := q
        obtain ⟨g, cap, a1, a2, a3, a4, a5, a6⟩ := h6
        exact ⟨g, cap, M.loc _ _ a1, a2, a3, a4, a5, Nat.le_trans a6 (M.bsz g)⟩
    | _ => exact h.elim
  | buf t l =>
    cases ob with
    | cells arr t' fz => exact h
    | _ => exact h.elim
  | _ => cases ob <;> exact h.elim
/-- Objects, and where they lie. -/
structure Inv (σ : Sg) (h : H) (W : World) : Prop where
  box : ∀ id cs c d, h[id]? = some (.cells cs) → σ.loc id = some (c, d) → ∃ arr e, W.heap[c]? = some (.cells arr e (0, 0)) ∧ d + cs.length ≤ arr.size ∧
    (∀ i v, cs[i]? = some v → ∃ y, arr[d + i]? = some y ∧ Ck (VRel σ W) v y) ∧ σ.reg c = none
  tip : ∀ id c d, h[id]? = some .tip → σ.loc id = some (c, d) → σ.reg c = some d ∧ ∃ arr e fz, W.heap[c]? = some (.cells arr e fz) ∧ (∀ o, d ≤ o → (fz.1 ≤ o && o < fz.2) = false)
  map : ∀ id o c d, h[id]? = some o → o.opq = true → σ.loc id = some (c, d) → σ.reg c = none ∧ ∃ ob, W.heap[c]? = some ob ∧ OpR σ W c d o ob
  inj : ∀ id id' o o' c d d', h[id]? = some o → o.live = true → h[id']? = some o' → o'.live = true → σ.loc id = some (c, d) → σ.loc id' = some (c, d') → id = id'
  rsz : ∀ c n, σ.reg c = some n → ∃ arr e fz, W.heap[c]? = some (.cells arr e fz) ∧ n ≤ arr.size
  lsz : ∀ id c d, σ.loc id = some (c, d) → c < W.heap.size ∧ id < h.length

/-- From one state to a later one. -/
structure Step (σ : Sg) (h : H) (W : World) (σ' : Sg) (h' : H) (W' : World) : Prop where
  mo : Mo σ W σ' W'
  os : W'.os = W.os
  tape : W'.tape = W.tape
  output : W'.output = W.output
  wsz : W.heap.size ≤ W'.heap.size
  hsz : h.length ≤ h'.length
  frm : ∀ c, c < W.heap.size → ¬ hosted σ h c → W'.heap[c]? = W.heap[c]? ∧ σ'.reg c = σ.reg c
  hos : ∀ c, c < W.heap.size → hosted σ' h' c → hosted σ h c
  old : ∀ id p, σ'.loc id = some p → id < h.length → σ.loc id = some p

theorem Step.refl (σ : Sg) (h : H) (W : World) : Step σ h W σ h W :=
  ⟨.refl _ _, rfl, rfl, rfl, Nat.le_refl _, Nat.le_refl _, fun _ _ _ => ⟨rfl, rfl⟩, fun _ _ h => h, fun _ _ h _ => h⟩
theorem Step.trans {σ σ' σ'' : Sg} {h h' h'' : H} {W W' W'' : World} (a : Step σ h W σ' h' W') (b : Step σ' h' W' σ'' h'' W'') : Step σ h W σ'' h'' W'' where
  mo := a.mo.trans b.mo
  os := b.os.trans a.os
  tape := b.tape.trans a.tape
  output := b.output.trans a.output
  wsz := Nat.le_trans a.wsz b.wsz
  hsz := Nat.le_trans a.hsz b.hsz
  frm c hc hu := by
    obtain ⟨e1, e2⟩ := a.frm c hc hu
    obtain ⟨f1, f2⟩ := b.frm c (Nat.lt_of_lt_of_le hc a.wsz) (fun hh => hu (a.hos c hc hh))
    exact ⟨f1.trans e1, f2.trans e2⟩
  hos c hc hh := a.hos c hc (b.hos c (Nat.lt_of_lt_of_le hc a.wsz) hh)
  old id p hp hid := a.old id p (b.old id p hp (Nat.lt_of_lt_of_le hid a.hsz)) hid
end Go.AM
namespace Go.AM
theorem fgL_map : ∀ l : List V, fgL l = l.map fg
  | [] => rfl
  | v :: l => by rw [fgL, fgL_map l]; rfl
theorem fgL_app (l m : List V) : fgL (l ++ m) = fgL l ++ fgL m := by simp [fgL_map]
@[simp] theorem fgL_len (l : List V) : (fgL l).length = l.length := by simp [fgL_map]
theorem fgL_get {l : List V} {i : Nat} {a : V} (h : (fgL l)[i]? = some a) : ∃ b, l[i]? = some b ∧ a = fg b := by
  rw [fgL_map, List.getElem?_map] at h
  obtain ⟨b, hb, rfl⟩ := Option.map_eq_some_iff.1 h
  exact ⟨b, hb, rfl⟩
theorem fg_okc (v : V) : okc (fg v) = okc v := by cases v <;> simp [fg, vs, okc]
theorem cells_fg (v : V) : cellsOf (fg v) = fgL (cellsOf v) := by cases v <;> simp [fg, vs, cellsOf, fgL]
theorem flat_fg : ∀ l : List V, (fgL l).flatMap cellsOf = fgL (l.flatMap cellsOf)
  | [] => rfl
  | v :: l => by simp only [fgL, List.flatMap_cons, cells_fg, flat_fg l, fgL_app]
@[simp] theorem fg_s {v : Value} : fg (.s v) = .s v := rfl
@[simp] theorem fg_agg {l : List V} : fg (.agg l) = .agg (fgL l) := rfl
@[simp] theorem fg_tup {l : List V} : fg (.tup l) = .tup (fgL l) := rfl
@[simp] theorem fg_ptr {b o : Nat} : fg (.ptr b o) = .ptr b o := rfl
@[simp] theorem fg_vptr {l : List V} : fg (.vptr l) = .vptr (fgL l) := rfl
@[simp] theorem fg_msl {b o n w : Nat} : fg (.msl b o n w) = .msl b o n w := rfl
@[simp] theorem fg_fn {f : Fn} {a b : List V} : fg (.fn f a b) = .fn f (fgL a) (fgL b) := rfl
@[simp] theorem fg_ifc {t : Nat} {v : V} : fg (.ifc t v) = .ifc t (fg v) := rfl
@[simp] theorem fg_vs {t : Tk} {w : Nat} {l : List V} : fg (vs t w l) = vs .dead w (fgL l) := by
  cases l with
  | nil => rfl
  | cons v l => simp [vs, fg, fgL]
@[simp] theorem fgL_nil : fgL [] = [] := rfl
@[simp] theorem fgL_cons {v : V} {l : List V} : fgL (v :: l) = fg v :: fgL l := rfl
mutual
theorem fg_fg : ∀ v : V, fg (fg v) = fg v
  | .s _ => rfl
  | .undef => rfl
  | .agg l => by simp only [fg_agg, fgL_fgL l]
  | .tup l => by simp only [fg_tup, fgL_fgL l]
  | .ptr _ _ => rfl
  | .vptr l => by simp only [fg_vptr, fgL_fgL l]
  | .vsl t w l => by simp only [fg, fg_vs, fgL_fgL l]
  | .msl _ _ _ _ => rfl
  | .map _ => rfl
  | .fn f a b => by simp only [fg_fn, fgL_fgL a, fgL_fgL b]
  | .ifc t v => by simp only [fg_ifc, fg_fg v]
theorem fgL_fgL : ∀ l : List V, fgL (fgL l) = fgL l
  | [] => rfl
  | v :: l => by simp only [fgL_cons, fg_fg v, fgL_fgL l]
end
theorem fgL_mapE {α : Type} (f : α → V) (hf : ∀ x, fg (f x) = f x) (l : List α) : fgL (l.map f) = l.map f := by
  rw [fgL_map, List.map_map]; exact List.map_congr_left fun x _ => hf x
section
variable {σ : Sg} {W : World}
theorem fg_lists {R S : V → Value → Prop} {l : List V} {xs : List Value} (k : ∀ a b, R a b → S (fg a) b) (h : L2 R l xs) : L2 S (fgL l) xs :=
  ⟨by rw [fgL_len]; exact h.1, fun i a b ha hb => by obtain ⟨u, hu, rfl⟩ := fgL_get ha; exact k _ _ (h.2 i u b hu hb)⟩
theorem fg_cl {R S : V → Value → Prop} {l : List V} {c o : Nat} (k : ∀ a b, R a b → S (fg a) b) (h : Cl R W c o l) : Cl S W c o (fgL l) :=
  fun i a ha => by obtain ⟨u, hu, rfl⟩ := fgL_get ha; obtain ⟨y, hy, r⟩ := h i u hu; exact ⟨y, hy, k _ _ r⟩
theorem VR.fg : ∀ (n : Nat) {v : V} {x : Value}, VR σ W n v x → VR σ W n (fg v) x
  | 0, _, _, h => h.elim
  | n + 1, v, x, h => by
    have ih : ∀ a b, VR σ W n a b → VR σ W n (AM.fg a) b := fun a b => VR.fg n
    have ihk : ∀ a b, Ck (VR σ W n) a b → Ck (VR σ W n) (AM.fg a) b := fun a b h => ⟨by rw [fg_okc]; exact h.1, ih _ _ h.2⟩
    cases v with
    | undef => trivial
    | s a => exact h
    | agg cs => obtain ⟨xs, hx, hl⟩ := h; exact ⟨xs, hx, fg_lists ihk hl⟩
    | tup cs => obtain ⟨xs, hx, hl⟩ := h; exact ⟨xs, hx, fg_lists ih hl⟩
    | ptr b off => exact h
    | vptr cs => obtain ⟨c, o, k, hx, hr, hk, hl⟩ := h; exact ⟨c, o, k, hx, hr, by rw [fgL_len]; exact hk, fg_cl ihk hl⟩
    | vsl t w l =>
      obtain ⟨base, cap, hx, n0, n1, h1, h2, h3, h4⟩ := h
      refine ⟨base, cap, by rw [fgL_len]; exact hx, n0, fun h => (by cases h), by rw [fgL_len]; exact h1, fun h => (by cases h), fun _ id h => (by cases h), fun hl => ?_⟩
      have hl0 : l ≠ [] := by rintro rfl; exact hl rfl
      obtain ⟨c, o, k, hs, a1, a2, a3, a4, a5, a6⟩ := h4 hl0
      rw [if_neg hl]
      refine ⟨c, o, k, hs, a1, fun e he => ?_, a3, by rw [fgL_len]; exact a4, by rw [flat_fg]; exact fg_cl ihk a5, fun id h => (by cases h)⟩
      rw [fgL_map] at he
      obtain ⟨u, hu, rfl⟩ := List.mem_map.1 he
      rw [cells_fg, fgL_len]; exact a2 u hu
    | msl b off len w => exact h
    | map r => exact h
    | fn f a b => obtain ⟨xs, ys, hx, h1, h2⟩ := h; exact ⟨xs, ys, hx, fg_lists ih h1, fg_lists ih h2⟩
    | ifc t v => obtain ⟨y, hx, h1⟩ := h; exact ⟨y, hx, ih _ _ h1⟩
theorem VRel.fg {v : V} {x : Value} (h : VRel σ W v x) : VRel σ W (fg v) x := let ⟨n, h⟩ := h; ⟨n, VR.fg n h⟩
end
end Go.AM
namespace Go.AM

def upd (w : World) (g : Nat) (o : Obj) : World := { w with heap := w.heap.setIfInBounds g o }
def psh (w : World) (o : Obj) : World := { w with heap := w.heap.push o }
def drw (w : World) : World := { w with drawn := w.drawn + 1 }

theorem upd_at {w : World} {g : Nat} {o : Obj} (hg : g < w.heap.size) : (upd w g o).heap[g]? = some o := by simp [upd, hg]
theorem upd_ne {w : World} {g c : Nat} {o : Obj} (h : c ≠ g) : (upd w g o).heap[c]? = w.heap[c]? := by
  simp only [upd]; rw [Array.getElem?_setIfInBounds_ne (Ne.symm h)]
theorem psh_new {w : World} {o : Obj} : (psh w o).heap[w.heap.size]? = some o := by simp only [psh]; rw [Array.getElem?_push, if_pos rfl]
theorem psh_old {w : World} {o : Obj} {c : Nat} (h : c < w.heap.size) : (psh w o).heap[c]? = w.heap[c]? := by
  simp only [psh]; rw [Array.getElem?_push, if_neg (by omega)]
theorem psh_ne {w : World} {o : Obj} {c : Nat} (h : c ≠ w.heap.size) : (psh w o).heap[c]? = w.heap[c]? := by
  simp only [psh]; rw [Array.getElem?_push, if_neg h]

theorem cellAt_of {w : World} {c o : Nat} {arr : Array Value} {e : TypeId} {fz : Nat × Nat} (h : w.heap[c]? = some (.cells arr e fz)) : cellAt w c o = arr[o]? := by
  simp [cellAt, World.cell?, h]
theorem cellAt_congr {w w' : World} {c o : Nat} (h : w'.heap[c]? = w.heap[c]?) : cellAt w' c o = cellAt w c o := by
  simp [cellAt, World.cell?, h]
theorem bsize_congr {w w' : World} {c : Nat} (h : w'.heap[c]? = w.heap[c]?) : bsize w' c = bsize w c := by simp [bsize, h]
theorem bsize_of {w : World} {c : Nat} {arr : Array Value} {e : TypeId} {fz : Nat × Nat} (h : w.heap[c]? = some (.cells arr e fz)) : bsize w c = arr.size := by simp [bsize, h]
theorem lt_of_heap {w : World} {c : Nat} {o : Obj} (h : w.heap[c]? = some o) : c < w.heap.size := (Array.getElem?_eq_some_iff.1 h).1

def putA (arr : Array Value) (p : Nat) (vs : List Value) : Array Value := (arr.toList.take p ++ vs ++ arr.toList.drop (p + vs.length)).toArray

theorem putA_size {arr : Array Value} {p : Nat} {vs : List Value} (h : p + vs.length ≤ arr.size) : (putA arr p vs).size = arr.size := by
  simp [putA]; omega
theorem putA_in {arr : Array Value} {p : Nat} {vs : List Value} (h : p + vs.length ≤ arr.size) {i : Nat} (hi : i < vs.length) : (putA arr p vs)[p + i]? = vs[i]? := by
  simp only [putA, List.getElem?_toArray]
  rw [List.append_assoc, List.getElem?_append_right (by simp; omega)]
  simp only [List.length_take, Array.length_toList]
  rw [show p + i - min p arr.size = i by omega, List.getElem?_append_left hi]
theorem putA_lo {arr : Array Value} {p : Nat} {vs : List Value} (h : p + vs.length ≤ arr.size) {i : Nat} (hi : i < p) : (putA arr p vs)[i]? = arr[i]? := by
  simp only [putA, List.getElem?_toArray]
  rw [List.append_assoc, List.getElem?_append_left (by simp; omega), List.getElem?_take_of_lt hi]
  simp
theorem putA_hi {arr : Array Value} {p : Nat} {vs : List Value} (h : p + vs.length ≤ arr.size) {i : Nat} (hi : p + vs.length ≤ i) : (putA arr p vs)[i]? = arr[i]? := by
  simp only [putA, List.getElem?_toArray]
  rw [List.append_assoc, List.getElem?_append_right (by simp; omega)]
  simp only [List.length_take, Array.length_toList]
  rw [List.getElem?_append_right (by omega), List.getElem?_drop]
  rw [show p + vs.length + (i - min p arr.size - vs.length) = i by omega]
  simp

theorem setCell_upd {w : World} {g o : Nat} {cur : Array Value} {t : TypeId} {fz : Nat × Nat} (h : w.heap[g]? = some (.cells cur t fz)) (v : Value) :
    w.setCell ⟨g, o, none⟩ v = upd w g (.cells (cur.setIfInBounds o v) t fz) := by
  have hg := lt_of_heap h
  simp only [World.setCell, upd]
  congr 1
  apply Array.ext_getElem?
  intro i
  rw [Array.getElem?_modify]
  by_cases e : g = i
  · subst e; rw [if_pos rfl, h, Array.getElem?_setIfInBounds_self_of_lt hg]; rfl
  · rw [if_neg e, Array.getElem?_setIfInBounds_ne e]

theorem putA_cons {arr : Array Value} {p : Nat} {v : Value} {vs : List Value} (h : p + vs.length + 1 ≤ arr.size) : putA (arr.setIfInBounds p v) (p + 1) vs = putA arr p (v :: vs) := by
  have e := list_seg_step arr.toList p v vs (by simp; omega)
  simp only [putA]
  congr 1
  simpa [Array.toList_setIfInBounds, Nat.add_assoc] using e

theorem upd_upd {w : World} {g : Nat} {o o' : Obj} : upd (upd w g o) g o' = upd w g o' := by simp [upd]
theorem upd_self {w : World} {g : Nat} {o : Obj} (h : w.heap[g]? = some o) : upd w g o = w := by
  have hg := lt_of_heap h
  have : w.heap.setIfInBounds g o = w.heap := by
    apply Array.ext_getElem?
    intro i
    by_cases e : g = i
    · subst e; rw [Array.getElem?_setIfInBounds_self_of_lt hg, h]
    · rw [Array.getElem?_setIfInBounds_ne e]
  simp [upd, this]

theorem run_storeCells {P : Program} (g : Nat) (t : TypeId) (fz : Nat × Nat) : ∀ (vs : List Value) (p : Nat) (cur : Array Value) (w : World), w.heap[g]? = some (.cells cur t fz) → p + vs.length ≤ cur.size →
    (∀ o, p ≤ o → (fz.1 ≤ o && o < fz.2) = false) → (∀ v ∈ vs, v.oneCell' = true) → ∀ o i, o + i = p →
    (storeCells ⟨g, o, none⟩ vs i).run P w = .ok () (upd w g (.cells (putA cur p vs) t fz))
  | [], p, cur, w, hg, _, _, _, o, i, _ => by
    have : putA cur p [] = cur := by simp [putA]
    rw [this, upd_self hg]; rfl
  | v :: vs, p, cur, w, hg, hl, hf, h1, o, i, hp => by
    have hadd : (⟨g, o, none⟩ : Addr).add i = ⟨g, p, none⟩ := by unfold Addr.add; split <;> simp_all
    have hlt : p < cur.size := by simp at hl; omega
    have hcell : w.cell? ⟨g, p, none⟩ = some cur[p] := by simp [World.cell?, hg, hlt]
    have hfro : w.frozen? ⟨g, p, none⟩ = false := by simp only [World.frozen?, hg]; exact hf p (Nat.le_refl _)
    have hst : (store ((⟨g, o, none⟩ : Addr).add i) v).run P w = .ok () (upd w g (.cells (cur.setIfInBounds p v) t fz)) := by
      rw [hadd, run_store P w _ v _ (h1 v (by simp)), hcell]
      simp only [hfro]
      rw [setCell_upd hg]
      simp
    have ih := run_storeCells (P := P) g t fz vs (p + 1) (cur.setIfInBounds p v) (upd w g (.cells (cur.setIfInBounds p v) t fz)) (upd_at (lt_of_heap hg)) (by simp at hl ⊢; omega)
      (fun o ho => hf o (by omega)) (fun x hx => h1 x (by simp [hx])) o (i + 1) (by omega)
    simp only [storeCells, Sem.run_bind, hst, Result.andThen_ok, ih, upd_upd]
    rw [putA_cons (by simp at hl; omega)]

theorem run_loadCells' {P : Program} {w : World} {c o : Nat} {ys : List Value} (h : ∀ i y, ys[i]? = some y → cellAt w c (o + i) = some y) : (loadCells ⟨c, o, none⟩ ys.length).run P w = .ok ys.toArray w := by
  refine run_loadCells_list w _ ys (fun j v hj => ?_)
  have : (⟨c, o, none⟩ : Addr).add j = ⟨c, o + j, none⟩ := by unfold Addr.add; split <;> simp_all
  rw [this]; exact h j v hj

section types
variable {P : Program} {t : TypeId}
theorem run_info {i : TypeInfo} (h : P.info? t = some i) (w : World) : (typeInfo t).run P w = .ok i w := by simp [typeInfo, h]
theorem run_und {d : TypeDesc} (h : P.underlying t = some d) (w : World) : (underlying t).run P w = .ok d w := by simp [underlying, h]
theorem run_size {n : Nat} (h : szOf P t = some n) (w : World) : (sizeOf t).run P w = .ok n w := by
  unfold szOf at h
  cases hi : P.info? t with
  | none => simp [hi] at h
  | some i => simp [hi] at h; simp [sizeOf, run_info hi, h]
theorem run_agg {g : Bool} (h : isAg P t = some g) (w : World) : (isAgg t).run P w = .ok g w := by
  unfold isAg at h
  cases hd : P.underlying t with
  | none => simp [hd] at h
  | some d => simp [hd] at h; subst h; cases d <;> simp [isAgg, run_und hd]
end types

section
variable {σ : Sg} {h : H} {W : World}
theorem reg_lt (I : Inv σ h W) {c n : Nat} (hr : σ.reg c = some n) : c < W.heap.size := let ⟨_, _, _, hh, _⟩ := I.rsz c n hr; lt_of_heap hh

/-- A new block, and perhaps a new object in it. -/
def Sg.add (σ : Sg) (c : Nat) (r : Option Nat) (l : Option (Nat × Nat)) : Sg :=
  { loc := fun id => match l with | some (i, d) => if id = i then some (c, d) else σ.loc id | none => σ.loc id, reg := fun k => if k = c then r else σ.reg k }

theorem Mo.push (I : Inv σ h W) (o : Obj) (r : Option Nat) (d : Option (Nat × Nat)) (hd : ∀ i e, d = some (i, e) → i = h.length) : Mo σ W (σ.add W.heap.size r d) (psh W o) where
  loc id p hp := by
    cases d with
    | none => exact hp
    | some q =>
      obtain ⟨i, e⟩ := q
      have := (I.lsz _ p.1 p.2 hp).2
      have := hd i e rfl
      simp only [Sg.add]
      rw [if_neg (by omega)]
      exact hp
  reg c n hn := ⟨n, by have := reg_lt I hn; simp [Sg.add, show c ≠ W.heap.size by omega, hn], Nat.le_refl _⟩
  cel c n o' hn _ := cellAt_congr (psh_old (reg_lt I hn))
  bsz c := by
    by_cases hc : c < W.heap.size
    · rw [bsize_congr (psh_old hc)]; exact Nat.le_refl _
    · have : bsize W c = 0 := by simp [bsize, Array.getElem?_eq_none (Nat.le_of_not_lt hc)]
      omega
  bse c n hn := bsize_congr (psh_old (reg_lt I hn))

theorem Inv.psh (I : Inv σ h W) (o : Obj) (r : Option Nat) (d : Option (Nat × Nat)) (hd : ∀ i e, d = some (i, e) → i = h.length) (h' : H) (hh : h' = h ∨ ∃ o', h' = h ++ [o'] ∧ o'.live = true)
    (hdl : d.isSome = true → h' ≠ h)
    (hr : ∀ n, r = some n → ∃ arr e fz, o = .cells arr e fz ∧ n ≤ arr.size)
    (hb : ∀ cs i e, h' = h ++ [.cells cs] → d = some (i, e) → r = none ∧ ∃ arr t, o = .cells arr t (0, 0) ∧ e + cs.length ≤ arr.size ∧ ∀ i v, cs[i]? = some v → ∃ y, arr[e + i]? = some y ∧ Ck (VRel σ W) v y)
    (ht : ∀ i e, h' = h ++ [.tip] → d = some (i, e) → r = some e ∧ ∃ arr t, o = .cells arr t (0, 0))
    (hm : ∀ x i e, x.opq = true → h' = h ++ [x] → d = some (i, e) → r = none ∧ OpR (σ.add W.heap.size r d) (psh W o) W.heap.size e x o) :
    Inv (σ.add W.heap.size r d) h' (psh W o) := by
  have M := Mo.push I o r d hd
  have hlen : h.length ≤ h'.length := by rcases hh with rfl | ⟨o', rfl, _⟩ <;> simp
  -- an object of h' with a place: an old one, or the new one
  have key : ∀ id x c e, h'[id]? = some x → (σ.add W.heap.size r d).loc id = some (c, e) → (h[id]? = some x ∧ σ.loc id = some (c, e) ∧ c < W.heap.size) ∨ (id = h.length ∧ c = W.heap.size ∧ d = some (id, e) ∧ h' = h ++ [x]) := by
    intro id x c e hx hl
    by_cases hnew : ∃ e', d = some (id, e')
    · obtain ⟨e', rfl⟩ := hnew
      have hid := hd id e' rfl
      simp only [Sg.add, if_true] at hl
      rcases hh with rfl | ⟨o', rfl, _⟩
      · exact absurd rfl (hdl rfl)
      · subst hid
        simp at hx
        simp at hl
        subst hx
        exact .inr ⟨rfl, hl.1.symm, by rw [hl.2], rfl⟩
    · have hl' : σ.loc id = some (c, e) := by
        cases d with
        | none => exact hl
        | some q =>
          obtain ⟨i, e'⟩ := q
          simp only [Sg.add] at hl
          by_cases hi : id = i
          · subst hi; exact absurd ⟨e', rfl⟩ hnew
          · rw [if_neg hi] at hl; exact hl
      have h3 := I.lsz id c e hl'
      refine .inl ⟨?_, hl', h3.1⟩
      rcases hh with rfl | ⟨o', rfl, _⟩
      · exact hx
      · rwa [List.getElem?_append_left h3.2] at hx
  have reg_old : ∀ c, c < W.heap.size → (σ.add W.heap.size r d).reg c = σ.reg c := fun c hc => by simp [Sg.add, show c ≠ W.heap.size by omega]
  have reg_new : (σ.add W.heap.size r d).reg W.heap.size = r := by simp [Sg.add]
  constructor
  · intro id cs c e hx hl
    rcases key id _ c e hx hl with ⟨h1, h2, h3⟩ | ⟨h1, h2, h3, h4⟩
    · obtain ⟨arr, t, a1, a2, a3, a4⟩ := I.box id cs c e h1 h2
      exact ⟨arr, t, by rw [psh_old h3]; exact a1, a2, fun i v hv => let ⟨y, hy, hr⟩ := a3 i v hv; ⟨y, hy, hr.mono M⟩, by rw [reg_old c h3]; exact a4⟩
    · obtain ⟨b1, arr, t, b2, b3, b4⟩ := hb cs id e h4 h3
      subst h2
      exact ⟨arr, t, by rw [psh_new, b2], b3, fun i v hv => let ⟨y, hy, hr⟩ := b4 i v hv; ⟨y, hy, hr.mono M⟩, by rw [reg_new, b1]⟩
  · intro id c e hx hl
    rcases key id _ c e hx hl with ⟨h1, h2, h3⟩ | ⟨h1, h2, h3, h4⟩
    · obtain ⟨a1, arr, t, fz, a2, a3⟩ := I.tip id c e h1 h2
      exact ⟨by rw [reg_old c h3]; exact a1, arr, t, fz, by rw [psh_old h3]; exact a2, a3⟩
    · obtain ⟨b1, arr, t, b2⟩ := ht id e h4 h3
      subst h2
      exact ⟨by rw [reg_new, b1], arr, t, (0, 0), by rw [psh_new, b2], fun o _ => by simp⟩
  · intro id x c e hx hq hl
    rcases key id _ c e hx hl with ⟨h1, h2, h3⟩ | ⟨h1, h2, h3, h4⟩
    · obtain ⟨a1, ob, a2, a3⟩ := I.map id x c e h1 hq h2
      exact ⟨by rw [reg_old c h3]; exact a1, ob, by rw [psh_old h3]; exact a2, a3.mono M⟩
    · obtain ⟨b1, b2⟩ := hm x id e hq h4 h3
      subst h2
      exact ⟨by rw [reg_new, b1], o, psh_new, b2⟩
  · intro id id' o1 o2 c e e' hx hlv hx' hlv' hl hl'
    rcases key id _ c e hx hl with ⟨h1, h2, h3⟩ | ⟨h1, h2, h3, h4⟩ <;> rcases key id' _ c e' hx' hl' with ⟨k1, k2, k3⟩ | ⟨k1, k2, k3, k4⟩
    · exact I.inj id id' o1 o2 c e e' h1 hlv k1 hlv' h2 k2
    · omega
    · omega
    · omega
  · intro c n hn
    by_cases hc : c = W.heap.size
    · subst hc
      rw [reg_new] at hn
      obtain ⟨arr, t, fz, b1, b2⟩ := hr n hn
      exact ⟨arr, t, fz, by rw [psh_new, b1], b2⟩
    · have hn' : σ.reg c = some n := by simpa [Sg.add, hc] using hn
      obtain ⟨arr, t, fz, b1, b2⟩ := I.rsz c n hn'
      exact ⟨arr, t, fz, by rw [psh_ne hc]; exact b1, b2⟩
  · intro id c e hl
    by_cases hnew : ∃ e', d = some (id, e')
    · obtain ⟨e', rfl⟩ := hnew
      have hid := hd id e' rfl
      simp [Sg.add] at hl
      refine ⟨by rw [← hl.1]; simp [AM.psh], ?_⟩
      rcases hh with rfl | ⟨o', rfl, _⟩
      · exact absurd rfl (hdl rfl)
      · simp; omega
    · have hl' : σ.loc id = some (c, e) := by
        cases d with
        | none => exact hl
        | some q =>
          obtain ⟨i, e'⟩ := q
          simp only [Sg.add] at hl
          by_cases hi : id = i
          · subst hi; exact absurd ⟨e', rfl⟩ hnew
          · rw [if_neg hi] at hl; exact hl
      have := I.lsz id c e hl'
      exact ⟨by simp [AM.psh]; omega, by omega⟩

theorem Step.psh (I : Inv σ h W) (o : Obj) (r : Option Nat) (d : Option (Nat × Nat)) (hd : ∀ i e, d = some (i, e) → i = h.length) (h' : H) (hh : h' = h ∨ ∃ o', h' = h ++ [o'] ∧ o'.live = true) :
    Step σ h W (σ.add W.heap.size r d) h' (psh W o) where
  mo := Mo.push I o r d hd
  os := rfl
  tape := rfl
  output := rfl
  wsz := by simp [AM.psh]
  hsz := by rcases hh with rfl | ⟨o', rfl, _⟩ <;> simp
  frm c hc _ := ⟨psh_old hc, by simp [Sg.add, show c ≠ W.heap.size by omega]⟩
  hos c hc hx := by
    obtain ⟨id, x, e, h1, h2, h3⟩ := hx
    have hl' : σ.loc id = some (c, e) := by
      cases d with
      | none => exact h3
      | some q =>
        obtain ⟨i, e'⟩ := q
        simp only [Sg.add] at h3
        by_cases hi : id = i
        · rw [if_pos hi] at h3; simp at h3; omega
        · rw [if_neg hi] at h3; exact h3
    have h4 := I.lsz id c e hl'
    refine ⟨id, x, e, ?_, h2, hl'⟩
    rcases hh with rfl | ⟨o', rfl, _⟩
    · exact h1
    · rwa [List.getElem?_append_left h4.2] at h1
  old id p hp hid := by
    cases d with
    | none => exact hp
    | some q =>
      obtain ⟨i, e'⟩ := q
      have := hd i e' rfl
      simp only [Sg.add] at hp
      rw [if_neg (by omega)] at hp
      exact hp
end
end Go.AM
namespace Go.AM

/-- What a slot holds, and what it stands for. -/
def ER (β : Nat → Option Nat) (σ : Sg) (W : World) : Ent → Value → Prop
  | .v v, y => VRel σ W v y
  | .lp t off, y => ∃ c, β t = some c ∧ y = .pointer (some ⟨c, off, none⟩)

structure FR (N B0 : Nat) (β : Nat → Option Nat) (σ : Sg) (W : World) (st : St) (tmps : Array Value) : Prop where
  size : tmps.size = N
  env : ∀ t, ER β σ W (getE st.env t) (tmps.getD t undef)
  lb : ∀ t cs, getB st.lb t = some cs → ∃ c arr e, β t = some c ∧ W.heap[c]? = some (.cells arr e (0, 0)) ∧ cs.length ≤ arr.size ∧ (∀ (i : Nat) v, cs[i]? = some v → ∃ y, arr[i]? = some y ∧ Ck (VRel σ W) v y)
  own : ∀ t c, β t = some c → B0 ≤ c ∧ c < W.heap.size ∧ σ.reg c = none ∧ ¬ hosted σ st.h c
  inj : ∀ t t' c, β t = some c → β t' = some c → t = t'

/-- Where a function began. -/
structure Snap where
  σ : Sg
  h : H
  W : World

/-- A table's first cells lie where nobody writes. -/
def TabOk (σ : Sg) (W : World) (g : Nat) (ok : List Value → Prop) : Prop := ∃ vs n, ok vs ∧ σ.reg g = some n ∧ vs.length ≤ n ∧ bsize W g = vs.length ∧ ∀ i v, vs[i]? = some v → cellAt W g i = some v
def GlobOk (c : Cx) (σ : Sg) (W : World) : Prop := (∀ g cs, c.glob g = some cs → VRel σ W (.vptr cs) (.pointer (some ⟨g, 0, none⟩))) ∧ ∀ p ∈ c.tabs, TabOk σ W p.1 p.2

structure Rl (c : Cx) (N : Nat) (S : Snap) (β : Nat → Option Nat) (σ : Sg) (W : World) (st : St) (tmps : Array Value) : Prop where
  fr : FR N S.W.heap.size β σ W st tmps
  inv : Inv σ st.h W
  stp : Step S.σ S.h S.W σ st.h W
  glo : GlobOk c σ W

theorem ER.mono {β : Nat → Option Nat} {σ σ' : Sg} {W W' : World} (M : Mo σ W σ' W') : ∀ {e : Ent} {y : Value}, ER β σ W e y → ER β σ' W' e y
  | .v _, _, h => VRel.mono M h
  | .lp _ _, _, h => h
theorem TabOk.mono {σ σ' : Sg} {W W' : World} {g : Nat} {ok : List Value → Prop} (M : Mo σ W σ' W') (h : TabOk σ W g ok) : TabOk σ' W' g ok := by
  obtain ⟨vs, n, h1, h2, h3, h5, h4⟩ := h
  obtain ⟨n', e1, e2⟩ := M.reg g n h2
  refine ⟨vs, n', h1, e1, Nat.le_trans h3 e2, by rw [M.bse g n h2, h5], fun i v hv => ?_⟩
  have hi := (List.getElem?_eq_some_iff.1 hv).1
  rw [M.cel g n i h2 (by omega)]; exact h4 i v hv
theorem GlobOk.mono {c : Cx} {σ σ' : Sg} {W W' : World} (M : Mo σ W σ' W') (h : GlobOk c σ W) : GlobOk c σ' W' := ⟨fun g cs hg => (h.1 g cs hg).mono M, fun p hp => (h.2 p hp).mono M⟩

/-- A step that leaves the frame's own boxes alone. -/
theorem Rl.step {c : Cx} {N : Nat} {S : Snap} {β : Nat → Option Nat} {σ σ' : Sg} {W W' : World} {st : St} {h' : H} {tmps : Array Value} (R : Rl c N S β σ W st tmps)
    (s : Step σ st.h W σ' h' W') (I : Inv σ' h' W') : Rl c N S β σ' W' { st with h := h' } tmps where
  fr := {
    size := R.fr.size
    env := fun t => (R.fr.env t).mono s.mo
    lb := fun t cs hcs => by
      obtain ⟨k, arr, e, h1, h2, h3, h4⟩ := R.fr.lb t cs hcs
      obtain ⟨_, o2, o3, o4⟩ := R.fr.own t k h1
      exact ⟨k, arr, e, h1, (s.frm k o2 o4).1.trans h2, h3, fun i v hv => let ⟨y, hy, r⟩ := h4 i v hv; ⟨y, hy, r.mono s.mo⟩⟩
    own := fun t k hk => by
      obtain ⟨o1, o2, o3, o4⟩ := R.fr.own t k hk
      exact ⟨o1, Nat.lt_of_lt_of_le o2 s.wsz, (s.frm k o2 o4).2.trans o3, fun hh => o4 (s.hos k o2 hh)⟩
    inj := R.fr.inj }
  inv := I
  stp := R.stp.trans s
  glo := R.glo.mono s.mo

theorem getE_put {st : St} {dst : Option Nat} {x : Ent} {t : Nat} : getE (put st dst x).env t = if dst = some t then x else getE st.env t := by
  cases dst with
  | none => simp [put]
  | some d => simp only [put, getE]; by_cases h : d = t <;> simp [h]

theorem Rl.put {c : Cx} {N : Nat} {S : Snap} {β : Nat → Option Nat} {σ : Sg} {W : World} {st : St} {a : Act} {dst : Option Nat} {x : Ent} {y : Value}
    (R : Rl c N S β σ W st a.tmps) (hx : ER β σ W x y) (hd : ∀ t, dst = some t → t < N) : Rl c N S β σ W (AM.put st dst x) (a.put dst y).tmps := by
  have hh : (AM.put st dst x).h = st.h := by cases dst <;> rfl
  have hl : (AM.put st dst x).lb = st.lb := by cases dst <;> rfl
  refine ⟨⟨?_, ?_, ?_, ?_, R.fr.inj⟩, hh ▸ R.inv, hh ▸ R.stp, R.glo⟩
  · cases dst with
    | none => exact R.fr.size
    | some d => simpa [Act.put] using R.fr.size
  · intro t
    rw [getE_put]
    cases dst with
    | none => simpa [Act.put] using R.fr.env t
    | some d =>
      have hdn := hd d rfl
      by_cases h : d = t
      · subst h
        have : (a.put (some d) y).tmps.getD d Go.undef = y := by
          simp only [Act.put, Array.getD_eq_getD_getElem?]
          rw [Array.getElem?_setIfInBounds_self_of_lt (by rw [R.fr.size]; exact hdn)]
          rfl
        rw [this]; simpa using hx
      · have : (a.put (some d) y).tmps.getD t Go.undef = a.tmps.getD t Go.undef := by
          simp only [Act.put, Array.getD_eq_getD_getElem?]
          rw [Array.getElem?_setIfInBounds_ne h]
        rw [this]; simpa [h] using R.fr.env t
  · rw [hl]; exact R.fr.lb
  · rw [hh]; exact R.fr.own

theorem VRel.oneV {σ : Sg} {W : World} {v : Value} (h : one v = true) : okc (oneV v) = true ∧ VRel σ W (oneV v) v := by
  have hone : ∀ v : Value, one v = v.oneCell' := fun v => by cases v <;> rfl
  unfold AM.oneV
  split
  · exact ⟨rfl, VRel.vsl_iff.2 ⟨none, 0, rfl, fun _ => rfl, fun _ => rfl, Nat.le_refl _, fun _ => rfl, fun _ id h => (by cases h), fun h => (h rfl).elim⟩⟩
  · exact ⟨rfl, VRel.s_iff.2 ⟨rfl, by rw [← hone]; exact h⟩⟩
theorem VRel.ofValue {σ : Sg} {W : World} (v : Value) : VRel σ W (ofValue v) v := by
  unfold AM.ofValue
  split
  · rename_i cs
    split
    · rename_i h
      rw [VRel.agg_iff]
      refine ⟨cs, rfl, by simp, fun i a b ha hb => ?_⟩
      simp only [List.getElem?_map, hb, Option.map_some, Option.some.injEq] at ha
      subst ha
      exact VRel.oneV ((List.all_eq_true.1 h) b (List.mem_of_getElem? hb))
    · exact .undef
  · split
    · rename_i h; exact (VRel.oneV h).2
    · exact .undef

section
variable {c : Cx} {N : Nat} {S : Snap} {β : Nat → Option Nat} {σ : Sg} {W : World} {st : St} {a : Act}
theorem evalE_rel (R : Rl c N S β σ W st a.tmps) (o : Operand) : ER β σ W (evalE c st o) (a.eval o) := by
  cases o with
  | tmp t => exact R.fr.env t
  | const v => exact VRel.ofValue v
  | global g =>
    simp only [evalE]
    cases h : c.glob g with
    | none => exact VRel.undef
    | some cs => exact R.glo.1 g cs h
  | func f => exact VRel.fn_iff.2 ⟨#[], #[], rfl, by simp [L2], by simp [L2]⟩
theorem val_some {e : Ent} {v : V} (h : e.val = some v) : e = .v v ∧ v ≠ .undef := by
  unfold Ent.val at h
  split at h
  · cases h
  · rename_i x hx; cases h; exact ⟨rfl, fun e => hx (by rw [e])⟩
  · cases h
theorem evalV_rel (R : Rl c N S β σ W st a.tmps) {o : Operand} {v : V} (h : evalV c st o = some v) : VRel σ W v (a.eval o) ∧ v ≠ .undef := by
  obtain ⟨h1, h2⟩ := val_some h
  have := evalE_rel R o
  rw [h1] at this
  exact ⟨this, h2⟩
theorem evalL_rel (R : Rl c N S β σ W st a.tmps) : ∀ {os : List Operand} {vs : List V}, evalL c st os = some vs → L2 (VRel σ W) vs (os.map a.eval)
  | [], vs, h => by simp [evalL] at h; subst h; simp [L2]
  | o :: os, vs, h => by
    simp only [evalL, Option.bind_eq_bind] at h
    obtain ⟨v, hv, h⟩ := Option.bind_eq_some_iff.1 h
    obtain ⟨l, hl, h⟩ := Option.bind_eq_some_iff.1 h
    cases h
    have ih := evalL_rel R hl
    refine ⟨by simp [ih.1], fun i x y hx hy => ?_⟩
    cases i with
    | zero => simp at hx hy; subst hx; subst hy; exact (evalV_rel R hv).1
    | succ i => exact ih.2 i x y (by simpa using hx) (by simpa using hy)

/-- The cells of a value. -/
theorem cells_rel {v : V} {x : Value} (h : VRel σ W v x) (hu : okv v = true) : L2 (Ck (VRel σ W)) (cellsOf v) x.cells.toList := by
  have single : ∀ {v : V} {x : Value}, VRel σ W v x → x.cells = #[x] → cellsOf v = [v] → okc v = true → L2 (Ck (VRel σ W)) (cellsOf v) x.cells.toList := by
    intro v x h h1 h2 h3
    rw [h1, h2]
    refine ⟨rfl, fun i a b ha hb => ?_⟩
    cases i with
    | zero => simp at ha hb; subst ha; subst hb; exact ⟨h3, h⟩
    | succ i => simp at ha
  cases v with
  | undef => cases hu
  | s a => obtain ⟨rfl, h2⟩ := VRel.s_iff.1 h; exact single h (by cases x <;> first | rfl | simp [Value.oneCell'] at h2) rfl rfl
  | agg cs => obtain ⟨xs, rfl, hl⟩ := VRel.agg_iff.1 h; exact hl
  | tup cs => cases hu
  | ptr b off => obtain ⟨_, _, _, rfl⟩ := VRel.ptr_iff.1 h; exact single h rfl rfl rfl
  | vptr cs => obtain ⟨_, _, _, rfl, _⟩ := VRel.vptr_iff.1 h; exact single h rfl rfl rfl
  | vsl t w l => obtain ⟨_, _, rfl, _⟩ := VRel.vsl_iff.1 h; exact single h rfl rfl rfl
  | msl b off len w => obtain ⟨_, _, _, _, rfl, _⟩ := VRel.msl_iff.1 h; exact single h rfl rfl rfl
  | map r => obtain ⟨_, _, rfl⟩ := VRel.map_iff.1 h; exact single h rfl rfl rfl
  | fn f p q => obtain ⟨_, _, rfl, _⟩ := VRel.fn_iff.1 h; exact single h rfl rfl rfl
  | ifc t v => obtain ⟨_, rfl, _⟩ := VRel.ifc_iff.1 h; exact single h rfl rfl rfl

theorem okc_one {v : V} {x : Value} (h : VRel σ W v x) (hk : okc v = true) : x.oneCell' = true := by
  cases v with
  | undef => cases hk
  | s a => obtain ⟨rfl, h2⟩ := VRel.s_iff.1 h; exact h2
  | agg cs => cases hk
  | tup cs => cases hk
  | ptr b off => obtain ⟨_, _, _, rfl⟩ := VRel.ptr_iff.1 h; rfl
  | vptr cs => obtain ⟨_, _, _, rfl, _⟩ := VRel.vptr_iff.1 h; rfl
  | vsl t w l => obtain ⟨_, _, rfl, _⟩ := VRel.vsl_iff.1 h; rfl
  | msl b off len w => obtain ⟨_, _, _, _, rfl, _⟩ := VRel.msl_iff.1 h; rfl
  | map r => obtain ⟨_, _, rfl⟩ := VRel.map_iff.1 h; rfl
  | fn f p q => obtain ⟨_, _, rfl, _⟩ := VRel.fn_iff.1 h; rfl
  | ifc t v => obtain ⟨_, rfl, _⟩ := VRel.ifc_iff.1 h; rfl

theorem Cl.take_list {cc o : Nat} {cs : List V} (h : Cl (Ck (VRel σ W)) W cc o cs) : ∀ n, n ≤ cs.length → ∃ ys : List Value, ys.length = n ∧ L2 (Ck (VRel σ W)) (cs.take n) ys ∧ ∀ i y, ys[i]? = some y → cellAt W cc (o + i) = some y
  | 0, _ => ⟨[], rfl, by simp [L2], fun i y hy => by simp at hy⟩
  | n + 1, hn => by
    obtain ⟨ys, h1, h2, h3⟩ := h.take_list n (by omega)
    obtain ⟨y, hy, r⟩ := h n cs[n] (List.getElem?_eq_getElem (by omega))
    refine ⟨ys ++ [y], by simp [h1], ⟨by simp [h1]; omega, fun i a b ha hb => ?_⟩, fun i z hz => ?_⟩
    · by_cases hi : i < n
      · rw [List.getElem?_append_left (by omega)] at hb
        exact h2.2 i a b (by rw [List.getElem?_take_of_lt hi]; rwa [List.getElem?_take_of_lt (by omega)] at ha) hb
      · by_cases hi2 : i = n
        · subst hi2
          rw [List.getElem?_take_of_lt (by omega)] at ha
          rw [List.getElem?_append_right (by omega), h1] at hb
          simp at hb
          rw [List.getElem?_eq_getElem (by omega)] at ha
          cases ha; subst hb; exact r
        · have := (List.getElem?_eq_some_iff.1 hb).1
          simp [h1] at this; omega
    · by_cases hi : i < n
      · rw [List.getElem?_append_left (by omega)] at hz; exact h3 i z hz
      · rw [List.getElem?_append_right (by omega), h1] at hz
        have : i - n = 0 := by
          have := (List.getElem?_eq_some_iff.1 hz).1; simpa using this
        have hi2 : i = n := by omega
        subst hi2
        simp at hz; subst hz; exact hy

/-- A variable that is read. -/
theorem rd_run {cc o : Nat} {cs : List V} {g : Bool} {n : Nat} {t : TypeId} {v : V} (h : Cl (Ck (VRel σ W)) W cc o cs) (hg : isAg c.P t = some g) (hn : szOf c.P t = some n) (hv : rd g n cs = some v) :
    ∃ z, (loadVar t ⟨cc, o, none⟩).run c.P W = .ok z W ∧ VRel σ W v z := by
  unfold rd at hv
  cases g with
  | true =>
    simp only [if_true] at hv
    split at hv
    · rename_i hle
      cases hv
      obtain ⟨ys, h1, h2, h3⟩ := h.take_list n hle
      refine ⟨.agg ys.toArray, ?_, VRel.agg_iff.2 ⟨ys.toArray, rfl, h2⟩⟩
      simp only [loadVar, Sem.run_bind, run_agg hg, Result.andThen_ok, if_true, run_size hn]
      rw [← h1, run_loadCells' h3]; rfl
    · cases hv
  | false =>
    simp only [Bool.false_eq_true, if_false] at hv
    obtain ⟨y, hy, r⟩ := h 0 v hv
    refine ⟨y, ?_, r.2⟩
    have hy' : W.cell? ⟨cc, o, none⟩ = some y := hy
    simp [loadVar, run_agg hg, hy']

theorem Cl.drop {cc o : Nat} {cs : List V} (h : Cl (Ck (VRel σ W)) W cc o cs) (k : Nat) : Cl (Ck (VRel σ W)) W cc (o + k) (cs.drop k) := by
  intro i v hv
  rw [List.getElem?_drop] at hv
  obtain ⟨y, hy, r⟩ := h (k + i) v hv
  exact ⟨y, by rw [Nat.add_assoc]; exact hy, r⟩

theorem lb_Cl (R : Rl c N S β σ W st a.tmps) {t : Nat} {cs : List V} (h : getB st.lb t = some cs) : ∃ k, β t = some k ∧ Cl (Ck (VRel σ W)) W k 0 cs := by
  obtain ⟨k, arr, e, h1, h2, h3, h4⟩ := R.fr.lb t cs h
  refine ⟨k, h1, fun i v hv => ?_⟩
  obtain ⟨y, hy, r⟩ := h4 i v hv
  exact ⟨y, by rw [cellAt_of h2, Nat.zero_add]; exact hy, r⟩
theorem box_Cl (I : Inv σ st.h W) {b : Nat} {cs : List V} (h : cellsAt st.h b = some cs) {k d : Nat} (hl : σ.loc b = some (k, d)) : Cl (Ck (VRel σ W)) W k d cs := by
  unfold cellsAt at h
  split at h
  · rename_i cs' hcs
    cases h
    obtain ⟨arr, e, h1, h2, h3, h4⟩ := I.box b cs k d hcs hl
    intro i v hv
    obtain ⟨y, hy, r⟩ := h3 i v hv
    exact ⟨y, by rw [cellAt_of h1]; exact hy, r⟩
  · cases h

theorem loadAt_run (R : Rl c N S β σ W st a.tmps) {t : TypeId} {e : Ent} {y : Value} {v : V} (he : ER β σ W e y) (h : loadAt c st t e = some v) :
    ∃ z, (Instr.loadAt t y).run c.P W = .ok z W ∧ VRel σ W v z := by
  have fin : ∀ {cc o : Nat} {cs : List V}, y = .pointer (some ⟨cc, o, none⟩) → Cl (Ck (VRel σ W)) W cc o cs → (do rd (← isAg c.P t) (← szOf c.P t) cs) = some v →
      ∃ z, (Instr.loadAt t y).run c.P W = .ok z W ∧ VRel σ W v z := by
    intro cc o cs hy hc hr
    simp only [Option.bind_eq_bind] at hr
    obtain ⟨g, hg, hr⟩ := Option.bind_eq_some_iff.1 hr
    obtain ⟨n, hn, hr⟩ := Option.bind_eq_some_iff.1 hr
    obtain ⟨z, h1, h2⟩ := rd_run hc hg hn hr
    exact ⟨z, by subst hy; simpa [Instr.loadAt, Instr.sureAddr] using h1, h2⟩
  unfold loadAt at h
  split at h
  · rename_i b off
    obtain ⟨k, hk, rfl⟩ := he
    simp only [Option.bind_eq_bind] at h
    obtain ⟨g, hg, h⟩ := Option.bind_eq_some_iff.1 h
    obtain ⟨n, hn, h⟩ := Option.bind_eq_some_iff.1 h
    obtain ⟨cs, hcs, h⟩ := Option.bind_eq_some_iff.1 h
    obtain ⟨k', hk', hc⟩ := lb_Cl R hcs
    rw [hk] at hk'; cases hk'
    have := hc.drop off
    rw [Nat.zero_add] at this
    exact fin rfl this (by simp [hg, hn, h])
  · rename_i b off
    obtain ⟨k, d, hk, rfl⟩ := VRel.ptr_iff.1 he
    simp only [Option.bind_eq_bind] at h
    obtain ⟨g, hg, h⟩ := Option.bind_eq_some_iff.1 h
    obtain ⟨n, hn, h⟩ := Option.bind_eq_some_iff.1 h
    obtain ⟨cs, hcs, h⟩ := Option.bind_eq_some_iff.1 h
    exact fin rfl ((box_Cl R.inv hcs hk).drop off) (by simp [hg, hn, h])
  · rename_i cs
    obtain ⟨k, o, n, rfl, h1, h2, h3⟩ := VRel.vptr_iff.1 he
    exact fin rfl h3 h
  · cases h
end
end Go.AM
namespace Go.AM

theorem bin_run {P : Program} {op : BinOp} {t : TypeId} {a b r : Value} (h : bin op a b = some r) (w : World) : (binOp op t a b).run P w = .ok r w := by
  cases a <;> cases b <;> try (simp [bin] at h; done)
  · rename_i k x k' y
    by_cases hk : k = k'
    · subst hk
      cases op <;> simp only [bin, ne_eq, not_true_eq_false, if_false] at h
      case quo => by_cases hz : y = 0 <;> simp [hz] at h; subst h; simp [binOp, Op.intDiv, hz]
      case rem => by_cases hz : y = 0 <;> simp [hz] at h; subst h; simp [binOp, Op.intDiv, hz]
      case shl => by_cases hz : y < 0 <;> simp [hz] at h; subst h; simp [binOp, Op.shift, hz]
      case shr => by_cases hz : y < 0 <;> simp [hz] at h; subst h; simp [binOp, Op.shift, hz]
      all_goals (cases h; simp [binOp, Op.intArith, Op.intBits, Op.intCmp])
    · cases op <;> simp only [bin, ne_eq, hk, not_false_eq_true, if_true] at h
      case shl => by_cases hz : y < 0 <;> simp [hz] at h; subst h; simp [binOp, Op.shift, hz]
      case shr => by_cases hz : y < 0 <;> simp [hz] at h; subst h; simp [binOp, Op.shift, hz]
      all_goals cases h
  · rename_i x y
    cases op <;> simp only [bin] at h
    case add =>
      split at h
      · cases h
      · rename_i hz; cases h; simp only [binOp, Op.stringOp, if_neg hz]; rfl
    case eql => cases h; rfl
    case neq => cases h; rfl
    case lss => cases h; rfl
    case leq => cases h; rfl
    case gtr => cases h; rfl
    case geq => cases h; rfl
    all_goals cases h

section
variable {P : Program} {σ : Sg} {W : World}
theorem part_run {f : Field} {xs : Array Value} {cs : List V} {v : V} (h : L2 (Ck (VRel σ W)) cs xs.toList) (hv : fieldW P f cs = some v) (w : World) :
    ∃ z, (part f.type xs f.offset).run P w = .ok z w ∧ VRel σ W v z := by
  unfold fieldW at hv
  simp only [Option.bind_eq_bind] at hv
  obtain ⟨g, hg, hv⟩ := Option.bind_eq_some_iff.1 hv
  obtain ⟨n, hn, hv⟩ := Option.bind_eq_some_iff.1 hv
  unfold rd at hv
  cases g with
  | true =>
    simp only [if_true] at hv
    split at hv
    · rename_i hle
      cases hv
      refine ⟨.agg (xs.extract f.offset (f.offset + n)), by simp [part, run_agg hg, run_size hn], VRel.agg_iff.2 ⟨_, rfl, ?_, fun i a b ha hb => ?_⟩⟩
      · have := h.1
        simp at hle ⊢
        simp at this
        omega
      · by_cases hi : i < n
        · rw [List.getElem?_take_of_lt hi, List.getElem?_drop] at ha
          refine h.2 (f.offset + i) a b ha ?_
          have hb' : (List.take n (List.drop f.offset xs.toList))[i]? = some b := by simpa using hb
          rwa [List.getElem?_take_of_lt hi, List.getElem?_drop] at hb'
        · rw [List.getElem?_eq_none (by simp; omega)] at ha; cases ha
    · cases hv
  | false =>
    simp only [Bool.false_eq_true, if_false] at hv
    rw [List.getElem?_drop, Nat.add_zero] at hv
    have hlt : f.offset < xs.toList.length := h.1 ▸ (List.getElem?_eq_some_iff.1 hv).1
    have hx : xs[f.offset]? = some xs.toList[f.offset] := by simp at hlt; simp [hlt]
    exact ⟨xs.toList[f.offset], by simp only [part, Sem.run_bind, run_agg hg, Result.andThen_ok, Bool.false_eq_true, if_false, hx]; rfl, (h.2 f.offset v _ hv (List.getElem?_eq_getElem hlt)).2⟩

theorem eqfs_run {eq : TypeId → V → V → Option Bool} {d : Nat} (ih : ∀ t x y x' y' r, eq t x y = some r → VRel σ W x x' → VRel σ W y y' → ∀ w, (Op.equalIn d t x' y').run P w = .ok r w)
    {xs ys : List V} {xs' ys' : Array Value} (hx : L2 (Ck (VRel σ W)) xs xs'.toList) (hy : L2 (Ck (VRel σ W)) ys ys'.toList) : ∀ (fs : List Field) (r : Bool), eqfs P eq xs ys fs = some r → ∀ w, (Op.eqFields d xs' ys' fs).run P w = .ok r w
  | [], r, h, w => by simp [eqfs] at h; subst h; rfl
  | f :: fs, r, h, w => by
    simp only [eqfs] at h
    simp only [Op.eqFields]
    split at h
    · rename_i hn
      rw [if_pos hn]
      simp only [Option.bind_eq_bind] at h
      obtain ⟨a, ha, h⟩ := Option.bind_eq_some_iff.1 h
      obtain ⟨b, hb, h⟩ := Option.bind_eq_some_iff.1 h
      obtain ⟨q, hq, h⟩ := Option.bind_eq_some_iff.1 h
      obtain ⟨a', ra, va⟩ := part_run hx ha w
      obtain ⟨b', rb, vb⟩ := part_run hy hb w
      have e := ih _ _ _ _ _ _ hq va vb w
      simp only [Sem.run_bind, ra, rb, e, Result.andThen_ok]
      cases q with
      | true => simp only [if_true] at h; simpa using eqfs_run ih hx hy fs r h w
      | false => simp only [Bool.false_eq_true, if_false] at h; cases h; rfl
    · rename_i hn
      rw [if_neg hn]
      exact eqfs_run ih hx hy fs r h w

theorem eqv_run : ∀ (d D : Nat), d ≤ D → ∀ t x y x' y' r, eqv P d t x y = some r → VRel σ W x x' → VRel σ W y y' → ∀ w, (Op.equalIn D t x' y').run P w = .ok r w
  | 0, _, _, _, _, _, _, _, _, h, _, _, _ => by simp [eqv] at h
  | d + 1, 0, hD, _, _, _, _, _, _, _, _, _, _ => by omega
  | d + 1, D + 1, hD, t, x, y, x', y', r, h, hx, hy, w => by
    unfold eqv at h
    cases hu : P.underlying t with
    | none => simp [hu] at h
    | some u =>
    simp only [hu] at h
    split at h
    case h_1 he => cases he; obtain ⟨rfl, _⟩ := VRel.s_iff.1 hx; obtain ⟨rfl, _⟩ := VRel.s_iff.1 hy; cases h; simp [Op.equalIn, run_und hu]
    case h_2 he =>
      cases he; obtain ⟨rfl, _⟩ := VRel.s_iff.1 hx; obtain ⟨rfl, _⟩ := VRel.s_iff.1 hy
      split at h
      · rename_i hk; cases h; subst hk; simp [Op.equalIn, run_und hu]
      · cases h
    case h_3 he => cases he; obtain ⟨rfl, _⟩ := VRel.s_iff.1 hx; obtain ⟨rfl, _⟩ := VRel.s_iff.1 hy; cases h; rw [← beq_toListBytes]; simp [Op.equalIn, run_und hu]
    case h_4 he => cases he; obtain ⟨rfl, _⟩ := VRel.s_iff.1 hx; obtain ⟨rfl, _⟩ := VRel.s_iff.1 hy; cases h; simp [Op.equalIn, run_und hu]
    case h_5 he => cases he; obtain ⟨rfl, _⟩ := VRel.s_iff.1 hx; obtain ⟨_, _, _, rfl⟩ := VRel.ptr_iff.1 hy; cases h; simp [Op.equalIn, run_und hu]
    case h_6 he => cases he; obtain ⟨rfl, _⟩ := VRel.s_iff.1 hx; obtain ⟨_, _, _, rfl, _⟩ := VRel.vptr_iff.1 hy; cases h; simp [Op.equalIn, run_und hu]
    case h_7 he => cases he; obtain ⟨rfl, _⟩ := VRel.s_iff.1 hy; obtain ⟨_, _, _, rfl⟩ := VRel.ptr_iff.1 hx; cases h; simp [Op.equalIn, run_und hu]
    case h_8 he => cases he; obtain ⟨rfl, _⟩ := VRel.s_iff.1 hy; obtain ⟨_, _, _, rfl, _⟩ := VRel.vptr_iff.1 hx; cases h; simp [Op.equalIn, run_und hu]
    case h_9 he => cases he; obtain ⟨_, _, rfl, a1, a2, _⟩ := VRel.vsl_iff.1 hx; obtain ⟨_, _, rfl, b1, b2, _⟩ := VRel.vsl_iff.1 hy; cases h; cases a2 rfl; cases b2 rfl; simp [Op.equalIn, run_und hu]
    case h_10 he => cases he; obtain ⟨_, _, rfl, b1, b2, _⟩ := VRel.vsl_iff.1 hy; obtain ⟨_, _, rfl, _, _, _, _, _, h4⟩ := VRel.vsl_iff.1 hx; obtain ⟨_, _, _, rfl, _⟩ := h4 (by simp); cases h; cases b2 rfl; simp [Op.equalIn, run_und hu]
    case h_11 he => cases he; obtain ⟨_, _, rfl, b1, b2, _⟩ := VRel.vsl_iff.1 hy; obtain ⟨_, _, _, _, rfl, _⟩ := VRel.msl_iff.1 hx; cases h; cases b2 rfl; simp [Op.equalIn, run_und hu]
    case h_12 he => cases he; obtain ⟨_, _, rfl, b1, b2, _⟩ := VRel.vsl_iff.1 hx; obtain ⟨_, _, rfl, _, _, _, _, _, h4⟩ := VRel.vsl_iff.1 hy; obtain ⟨_, _, _, rfl, _⟩ := h4 (by simp); cases h; cases b2 rfl; simp [Op.equalIn, run_und hu]
    case h_13 he => cases he; obtain ⟨_, _, rfl, b1, b2, _⟩ := VRel.vsl_iff.1 hx; obtain ⟨_, _, _, _, rfl, _⟩ := VRel.msl_iff.1 hy; cases h; cases b2 rfl; simp [Op.equalIn, run_und hu]
    case h_14 he => cases he; obtain ⟨rfl, _⟩ := VRel.s_iff.1 hx; obtain ⟨rfl, _⟩ := VRel.s_iff.1 hy; cases h; simp [Op.equalIn, run_und hu]
    case h_15 he => cases he; obtain ⟨rfl, _⟩ := VRel.s_iff.1 hy; obtain ⟨_, _, rfl, _⟩ := VRel.fn_iff.1 hx; cases h; simp [Op.equalIn, run_und hu]
    case h_16 he => cases he; obtain ⟨rfl, _⟩ := VRel.s_iff.1 hx; obtain ⟨_, _, rfl, _⟩ := VRel.fn_iff.1 hy; cases h; simp [Op.equalIn, run_und hu]
    case h_17 he => cases he; obtain ⟨rfl, _⟩ := VRel.s_iff.1 hx; obtain ⟨rfl, _⟩ := VRel.s_iff.1 hy; cases h; simp [Op.equalIn, run_und hu]
    case h_18 he => cases he; obtain ⟨rfl, _⟩ := VRel.s_iff.1 hy; obtain ⟨_, rfl, _⟩ := VRel.ifc_iff.1 hx; cases h; simp [Op.equalIn, run_und hu]
    case h_19 he => cases he; obtain ⟨rfl, _⟩ := VRel.s_iff.1 hx; obtain ⟨_, rfl, _⟩ := VRel.ifc_iff.1 hy; cases h; simp [Op.equalIn, run_und hu]
    case h_20 fs xs ys he =>
      cases he
      obtain ⟨xs', rfl, lx⟩ := VRel.agg_iff.1 hx
      obtain ⟨ys', rfl, ly⟩ := VRel.agg_iff.1 hy
      split at h
      · cases h
      · rename_i hs
        have hf : P.fieldsOf t = fs := by simp [Program.fieldsOf, hu]
        rw [run_equalIn_struct w D t xs' ys' (by rw [hf]; exact hu) (by simpa using hs), hf]
        exact eqfs_run (fun t x y x' y' r he hx hy w => eqv_run d D (by omega) t x y x' y' r he hx hy w) lx ly _ r h w
    case h_21 => cases h

theorem VRel.inv_nilI {x : V} (h : VRel σ W x .nilIface) (hu : x ≠ .undef) : x = .s .nilIface := by
  cases x with
  | s a => obtain ⟨e, _⟩ := VRel.s_iff.1 h; rw [← e]
  | undef => exact absurd rfl hu
  | agg cs => obtain ⟨_, e, _⟩ := VRel.agg_iff.1 h; cases e
  | tup cs => obtain ⟨_, e, _⟩ := VRel.tup_iff.1 h; cases e
  | ptr b off => obtain ⟨_, _, _, e⟩ := VRel.ptr_iff.1 h; cases e
  | vptr cs => obtain ⟨_, _, _, e, _⟩ := VRel.vptr_iff.1 h; cases e
  | vsl t w l => obtain ⟨_, _, e, _⟩ := VRel.vsl_iff.1 h; cases e
  | msl b off len w => obtain ⟨_, _, _, _, e, _⟩ := VRel.msl_iff.1 h; cases e
  | map r => obtain ⟨_, _, e⟩ := VRel.map_iff.1 h; cases e
  | fn f p q => obtain ⟨_, _, e, _⟩ := VRel.fn_iff.1 h; cases e
  | ifc t v => obtain ⟨_, e, _⟩ := VRel.ifc_iff.1 h; cases e
theorem VRel.inv_agg {x : V} {xs : Array Value} (h : VRel σ W x (.agg xs)) (hu : x ≠ .undef) : isAggV x = true := by
  cases x with
  | s a => obtain ⟨e, k⟩ := VRel.s_iff.1 h; subst e; cases k
  | undef => exact absurd rfl hu
  | agg cs => rfl
  | tup cs => obtain ⟨_, e, _⟩ := VRel.tup_iff.1 h; cases e
  | ptr b off => obtain ⟨_, _, _, e⟩ := VRel.ptr_iff.1 h; cases e
  | vptr cs => obtain ⟨_, _, _, e, _⟩ := VRel.vptr_iff.1 h; cases e
  | vsl t w l => obtain ⟨_, _, e, _⟩ := VRel.vsl_iff.1 h; cases e
  | msl b off len w => obtain ⟨_, _, _, _, e, _⟩ := VRel.msl_iff.1 h; cases e
  | map r => obtain ⟨_, _, e⟩ := VRel.map_iff.1 h; cases e
  | fn f p q => obtain ⟨_, _, e, _⟩ := VRel.fn_iff.1 h; cases e
  | ifc t v => obtain ⟨_, e, _⟩ := VRel.ifc_iff.1 h; cases e

theorem eqGuard_run {c : Cx} {op : BinOp} {t : TypeId} {x y : V} {x' y' : Value} {ox oy : Operand} (hx : VRel σ W x x') (hy : VRel σ W y y') (hxu : x ≠ .undef) (hyu : y ≠ .undef)
    (hn : (isNilI x && isNilI y && !(isC ox || isC oy)) = false) (hg : (isAggV x && isAggV y && c.P.eqGuardType c.P.depth t) = false) (w : World) :
    (eqGuard op t ox oy x' y').run c.P w = .ok () w := by
  by_cases e1 : x' = .nilIface ∧ y' = .nilIface
  · obtain ⟨rfl, rfl⟩ := e1
    obtain rfl := hx.inv_nilI hxu
    obtain rfl := hy.inv_nilI hyu
    have hc : isC ox = true ∨ isC oy = true := by
      cases h1 : isC ox <;> cases h2 : isC oy <;> simp_all [isNilI]
    unfold eqGuard
    rcases hc with hc | hc
    · cases ox <;> simp [isC] at hc; cases op <;> cases oy <;> rfl
    · cases oy <;> simp [isC] at hc; cases op <;> cases ox <;> rfl
  by_cases e2 : ∃ p q, x' = .agg p ∧ y' = .agg q
  · obtain ⟨p, q, rfl, rfl⟩ := e2
    exact run_eqGuard_agg w op t ox oy p q (by simpa [hx.inv_agg hxu, hy.inv_agg hyu] using hg)
  cases op <;> first
    | rfl
    | (cases x' <;> cases y' <;> first
      | rfl
      | exact absurd ⟨rfl, rfl⟩ e1
      | exact absurd ⟨_, _, rfl, rfl⟩ e2)

theorem eqV_run {c : Cx} {neg : Bool} {t : TypeId} {x y v : V} {x' y' : Value} {ox oy : Operand} (h : eqV c neg t x y = some v) (hx : VRel σ W x x') (hy : VRel σ W y y') (hyu : y ≠ .undef)
    (hn : (isNilI x && isNilI y && !(isC ox || isC oy)) = false) (w : World) :
    ∃ z, (do eqGuard (if neg then .neq else .eql) t ox oy x' y'; binOp (if neg then .neq else .eql) t x' y' : Sem Value).run c.P w = .ok z w ∧ VRel σ W v z := by
  unfold eqV at h
  split at h
  · cases h
  · rename_i hp
    simp only [Bool.or_eq_true, Bool.not_eq_true', not_or] at hp
    obtain ⟨r, hr, hv⟩ := Option.map_eq_some_iff.1 h
    have e := eqv_run 100 10000 (by omega) _ _ _ _ _ _ hr hx hy w
    have hxu : x ≠ .undef := fun e => hp.1 (by rw [e]; rfl)
    have g := eqGuard_run (op := if neg then .neq else .eql) (ox := ox) (oy := oy) hx hy hxu hyu hn (by simpa using hp.2) w
    refine ⟨.bool (r != neg), ?_, by rw [← hv]; exact VRel.s_iff.2 ⟨rfl, rfl⟩⟩
    simp only [Sem.run_bind, g, Result.andThen_ok]
    have shape : (∀ k q, x' ≠ .int k q) ∧ (∀ k q, x' ≠ .float k q) ∧ (∀ k p q, x' ≠ .complex k p q) ∧ (∀ q, x' ≠ .string q) := by
      have hp1 := hp.1
      cases x with
      | s a => obtain ⟨rfl, _⟩ := VRel.s_iff.1 hx; refine ⟨?_, ?_, ?_, ?_⟩ <;> intros <;> rintro rfl <;> exact hp1 rfl
      | undef => exact absurd rfl hxu
      | agg cs => obtain ⟨_, rfl, _⟩ := VRel.agg_iff.1 hx; simp
      | tup cs => obtain ⟨_, rfl, _⟩ := VRel.tup_iff.1 hx; simp
      | ptr b off => obtain ⟨_, _, _, rfl⟩ := VRel.ptr_iff.1 hx; simp
      | vptr cs => obtain ⟨_, _, _, rfl, _⟩ := VRel.vptr_iff.1 hx; simp
      | vsl t w l => obtain ⟨_, _, rfl, _⟩ := VRel.vsl_iff.1 hx; simp
      | msl b off len w => obtain ⟨_, _, _, _, rfl, _⟩ := VRel.msl_iff.1 hx; simp
      | map r => obtain ⟨_, _, rfl⟩ := VRel.map_iff.1 hx; simp
      | fn f p q => obtain ⟨_, _, rfl, _⟩ := VRel.fn_iff.1 hx; simp
      | ifc t v => obtain ⟨_, rfl, _⟩ := VRel.ifc_iff.1 hx; simp
    obtain ⟨s1, s2, s3, s4⟩ := shape
    cases neg
    · simp only [Bool.false_eq_true, if_false]
      have : binOp .eql t x' y' = (do pure (.bool (← Op.equal t x' y'))) := by
        cases x' <;> first | rfl | exact absurd rfl (s1 _ _) | exact absurd rfl (s2 _ _) | exact absurd rfl (s3 _ _ _) | exact absurd rfl (s4 _)
      rw [this]
      simp only [Op.equal, Op.maxDepth, Sem.run_bind, e, Result.andThen_ok, Sem.run_pure]
      cases r <;> rfl
    · simp only [if_true]
      have : binOp .neq t x' y' = (do pure (.bool (!(← Op.equal t x' y')))) := by
        cases x' <;> first | rfl | exact absurd rfl (s1 _ _) | exact absurd rfl (s2 _ _) | exact absurd rfl (s3 _ _ _) | exact absurd rfl (s4 _)
      rw [this]
      simp only [Op.equal, Op.maxDepth, Sem.run_bind, e, Result.andThen_ok, Sem.run_pure]
      cases r <;> rfl

theorem binOpV_run {c : Cx} {op : BinOp} {t : TypeId} {x y v : V} {x' y' : Value} {ox oy : Operand} (h : binOpV c op t x y = some v) (hx : VRel σ W x x') (hy : VRel σ W y y') (hyu : y ≠ .undef)
    (hn : (isNilI x && isNilI y && !(isC ox || isC oy)) = false) (w : World) :
    ∃ z, (do eqGuard op t ox oy x' y'; binOp op t x' y' : Sem Value).run c.P w = .ok z w ∧ VRel σ W v z := by
  unfold binOpV at h
  split at h
  · rename_i r hr
    cases h
    cases x <;> first | (cases hr; done) | skip
    cases y <;> first | (cases hr; done) | skip
    rename_i a b
    obtain ⟨rfl, _⟩ := VRel.s_iff.1 hx
    obtain ⟨rfl, _⟩ := VRel.s_iff.1 hy
    obtain ⟨q, hq, rfl⟩ := Option.map_eq_some_iff.1 hr
    have g : (eqGuard op t ox oy x' y').run c.P w = .ok () w := by
      cases x' <;> cases y' <;> first | (simp [bin] at hq; done) | skip
      all_goals (cases op <;> rfl)
    refine ⟨q, by simp only [Sem.run_bind, g, Result.andThen_ok, bin_run hq], VRel.s_iff.2 ⟨rfl, ?_⟩⟩
    cases x' <;> cases y' <;> first | (simp [bin] at hq; done) | skip
    all_goals (cases op <;> simp only [bin] at hq <;> (repeat' (split at hq)) <;> first | (cases hq; done) | (cases hq; rfl))
  · split at h
    · exact eqV_run (neg := false) h hx hy hyu hn w
    · exact eqV_run (neg := true) h hx hy hyu hn w
    · cases h
end
end Go.AM

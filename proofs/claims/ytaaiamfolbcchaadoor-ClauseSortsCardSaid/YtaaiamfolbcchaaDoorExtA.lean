/- The tables that calls of the library read, and the contract of strconv.Itoa in the print's form.
   A contract that reads tables asks 'Laid tabs w': each table (by its variable's number) lies in the world w. -/
import Derived.Test.YtaaiamfolbcchaaDoorV
import Derived.Shelf.Strconv.Itoa3
import Derived.Test.YtaaiamfolbcchaaDoorShelf
namespace Go.Proofs.YtaaiamfolbcchaaDoor.Ext
set_option linter.unusedVariables false
set_option linter.unusedSimpArgs false
open Go.RowKit Go.Proofs.YtaaiamfolbcchaaDoorW.PrintWords Go.Proofs.YtaaiamfolbcchaaDoorW.PrintLast

def strVals (l : List (List UInt8)) : List Value := l.map fun s => .string ⟨s.toArray⟩
def days : List (List UInt8) := [[77, 111, 110], [84, 117, 101], [87, 101, 100], [84, 104, 117], [70, 114, 105], [83, 97, 116], [83, 117, 110]]
def clauseNames : List (List UInt8) := [[98, 114, 101, 97, 107], [108, 111, 110, 103, 101, 114], [108, 111, 110, 103, 101, 114, 115], [119, 101, 101, 107], [102, 111, 114, 116, 110, 105, 103, 104, 116], [100, 97, 105, 108, 121], [114, 101, 100, 117, 99, 101, 115], [119, 101, 101, 107, 108, 121], [98, 114, 105, 101, 102], [108, 97, 98, 111, 117, 114], [100, 114, 105, 118, 101], [119, 111, 114, 107], [111, 112, 101, 110], [115, 101, 114, 118, 101], [108, 101, 102, 116], [108, 111, 97, 100]]
def clauseArticles : List (List UInt8) := [[55], [54, 40, 49, 41], [54, 40, 49, 41], [54, 40, 50, 41], [54, 40, 51, 41], [56, 40, 50, 41], [56, 40, 52, 41], [56, 40, 54, 41], [56, 40, 54, 41], [68, 52], [82, 49], [82, 49], [82, 50], [82, 51], [82, 52], [82, 53]]

/-- What a table's block holds. The keys are names of our own, not the program's numbers. -/
inductive Tb where
  | pow10 | maxLen | days | names | articles | errS | errR
  deriving DecidableEq
def Tb.g : Tb → Nat
  | .pow10 => 6
  | .maxLen => 3
  | .days => 2
  | .names => 0
  | .articles => 1
  | .errS => 4
  | .errR => 5
def Tb.fits : Tb → List Value → Prop
  | .pow10, cs => cs = Lib.pow10Tab.map fun z => Value.int .u64 z
  | .maxLen, cs => ∃ m, cs[0]? = some (.int .i64 m)
  | .days, cs => cs = strVals Ext.days
  | .names, cs => cs = strVals clauseNames
  | .articles, cs => cs = strVals clauseArticles
  | .errS, cs => ∃ t v, cs = [.iface t v]
  | .errR, cs => ∃ t v, cs = [.iface t v]
def LaidOne (t : Tb) (w : World) : Prop := ∃ cs ty f, w.heap[t.g]? = some (.cells cs ty f) ∧ t.fits cs.toList
def Laid (l : List Tb) (w : World) : Prop := ∀ t ∈ l, LaidOne t w
theorem LaidOne.lt {t : Tb} {w : World} (h : LaidOne t w) : t.g < w.heap.size := by
  obtain ⟨cs, ty, f, e, _⟩ := h
  exact (Array.getElem?_eq_some_iff.1 e).1
theorem Laid.below {l : List Tb} {w w' : World} (h : Laid l w) (hb : Below w.heap.size w w') : Laid l w' := fun t ht => by
  have h1 := h t ht
  have hlt := h1.lt
  obtain ⟨cs, ty, f, e, k⟩ := h1
  exact ⟨cs, ty, f, (hb.block _ hlt).trans e, k⟩
theorem Laid.sub {l l' : List Tb} {w : World} (e : l'.all (fun t => decide (t ∈ l)) = true) (h : Laid l w) : Laid l' w := fun t ht =>
  h t (of_decide_eq_true (List.all_eq_true.1 e t ht))
theorem Laid.cell {l : List Tb} {w : World} (h : Laid l w) (t : Tb) (ht : t ∈ l) {cs : List Value} (hf : ∀ c, t.fits c → c = cs) (i : Nat) :
    w.cell? ⟨t.g, i, none⟩ = cs[i]? := by
  obtain ⟨c, ty, f, e, k⟩ := h t ht
  have := hf _ k
  unfold World.cell?
  simp only [e, Option.isSome_none, Bool.false_eq_true, if_false]
  rw [← Array.getElem?_toList, this]
theorem below_grow {B : Nat} {a w : World} (h : Below B a w) (hB : B ≤ w.heap.size) (os : Array Obj) : Below B a (Go.Sort.grow w os) :=
  h.trans ⟨rfl, rfl, rfl, by simp [Go.Sort.grow], fun k hk => by
    show (w.heap ++ os)[k]? = _
    rw [Array.getElem?_append_left (by omega)]⟩
theorem globalPow : Tryd.prog.globalNamed "internal/strconv.uint64pow10" = some (Tb.g .pow10) := by kernel_rfl
theorem Laid.pow10 {l : List Tb} {w : World} (h : Laid l w) (ht : Tb.pow10 ∈ l) : Lib.TabIs Tryd.prog w "internal/strconv.uint64pow10" .u64 Lib.pow10Tab := by
  obtain ⟨cs, ty, f, e, k⟩ := h _ ht
  unfold Lib.TabIs World.var?
  rw [globalPow]
  simp only [Option.bind_some, e]
  congr 1
  rw [← show cs.toList = _ from k]

def strs (l : List (List UInt8)) : List ByteArray := l.map fun s => ⟨s.toArray⟩
def daysB : List ByteArray := [⟨#[77, 111, 110]⟩, ⟨#[84, 117, 101]⟩, ⟨#[87, 101, 100]⟩, ⟨#[84, 104, 117]⟩, ⟨#[70, 114, 105]⟩, ⟨#[83, 97, 116]⟩, ⟨#[83, 117, 110]⟩]
def namesB : List ByteArray := [⟨#[98, 114, 101, 97, 107]⟩, ⟨#[108, 111, 110, 103, 101, 114]⟩, ⟨#[108, 111, 110, 103, 101, 114, 115]⟩, ⟨#[119, 101, 101, 107]⟩, ⟨#[102, 111, 114, 116, 110, 105, 103, 104, 116]⟩, ⟨#[100, 97, 105, 108, 121]⟩, ⟨#[114, 101, 100, 117, 99, 101, 115]⟩, ⟨#[119, 101, 101, 107, 108, 121]⟩, ⟨#[98, 114, 105, 101, 102]⟩, ⟨#[108, 97, 98, 111, 117, 114]⟩, ⟨#[100, 114, 105, 118, 101]⟩, ⟨#[119, 111, 114, 107]⟩, ⟨#[111, 112, 101, 110]⟩, ⟨#[115, 101, 114, 118, 101]⟩, ⟨#[108, 101, 102, 116]⟩, ⟨#[108, 111, 97, 100]⟩]
def articlesB : List ByteArray := [⟨#[55]⟩, ⟨#[54, 40, 49, 41]⟩, ⟨#[54, 40, 49, 41]⟩, ⟨#[54, 40, 50, 41]⟩, ⟨#[54, 40, 51, 41]⟩, ⟨#[56, 40, 50, 41]⟩, ⟨#[56, 40, 52, 41]⟩, ⟨#[56, 40, 54, 41]⟩, ⟨#[56, 40, 54, 41]⟩, ⟨#[68, 52]⟩, ⟨#[82, 49]⟩, ⟨#[82, 49]⟩, ⟨#[82, 50]⟩, ⟨#[82, 51]⟩, ⟨#[82, 52]⟩, ⟨#[82, 53]⟩]
theorem Laid.strs {l : List Tb} {w : World} (h : Laid l w) (t : Tb) (ht : t ∈ l) (L : List (List UInt8)) (hf : ∀ c, t.fits c → c = strVals L) (hn : L.length ≤ 9223372036854775807) :
    Kd.string.C w (some ⟨t.g, 0, none⟩) L.length (strs L) := by
  refine Kd.C_of_reads (d := ByteArray.empty) (h1 := fun _ => rfl) ⟨by simp [Ext.strs], hn, fun _ => ⟨_, rfl, fun j hj => ?_⟩⟩
  have := Laid.cell h t ht hf j
  rw [show (⟨t.g, 0, none⟩ : Addr).add j = ⟨t.g, j, none⟩ by simp only [Addr.add, Nat.zero_add]; split <;> simp_all, this]
  simp [strVals, Ext.strs, List.getD, hj]
theorem Laid.days {l : List Tb} {w : World} (h : Laid l w) (ht : decide (Tb.days ∈ l) = true) : Kd.C Kd.string w (some ⟨Tb.g .days, 0, none⟩) daysB.length daysB :=
  Laid.strs h .days (of_decide_eq_true ht) Ext.days (fun _ e => e) (by decide)
theorem Laid.names {l : List Tb} {w : World} (h : Laid l w) (ht : decide (Tb.names ∈ l) = true) : Kd.C Kd.string w (some ⟨Tb.g .names, 0, none⟩) namesB.length namesB :=
  Laid.strs h .names (of_decide_eq_true ht) Ext.clauseNames (fun _ e => e) (by decide)
theorem Laid.articles {l : List Tb} {w : World} (h : Laid l w) (ht : decide (Tb.articles ∈ l) = true) : Kd.C Kd.string w (some ⟨Tb.g .articles, 0, none⟩) articlesB.length articlesB :=
  Laid.strs h .articles (of_decide_eq_true ht) Ext.clauseArticles (fun _ e => e) (by decide)

/-- strconv.Itoa: the decimal numeral. -/
def strconv_Itoa.f (a0 : Int) : Option ByteArray := if -9223372036854775808 ≤ a0 ∧ a0 ≤ 9223372036854775807 then some ⟨(Lib.itoa a0).toArray⟩ else none
theorem strconv_Itoa.calls (a0 : Int) (r : ByteArray) (w : World) (hL : Laid [.pow10] w) (h : strconv_Itoa.f a0 = some r) :
    Calls Tryd.prog 76 #[.int .i64 a0] w fun e w' => e = .returned (.string r) ∧ Below w.heap.size w w' := by
  unfold strconv_Itoa.f at h
  by_cases hb : -9223372036854775808 ≤ a0 ∧ a0 ≤ 9223372036854775807
  · rw [if_pos hb] at h
    obtain rfl := Option.some.inj h
    refine (Tryd.strconv_Itoa a0 hb.1 hb.2 w (hL.pow10 (by simp))).mono ?_
    rintro e w' ⟨rfl, k, os, rfl⟩
    exact ⟨rfl, below_grow (pw_below_drewN (Below.refl _ _) k) (Nat.le_refl _) os⟩
  · rw [if_neg hb] at h
    exact absurd h (by simp)

/-- math/bits.Mul64: the product, in two words. -/
def bits_Mul64.f (a0 a1 : Int) : Option (Int × Int) :=
  if (0 ≤ a0 ∧ a0 < 18446744073709551616) ∧ 0 ≤ a1 ∧ a1 < 18446744073709551616 then some (a0 * a1 / 18446744073709551616, a0 * a1 % 18446744073709551616) else none
theorem bits_Mul64.calls (a0 a1 r1 r2 : Int) (w : World) (h : bits_Mul64.f a0 a1 = some (r1, r2)) :
    Calls Tryd.prog 102 #[.int .u64 a0, .int .u64 a1] w fun e w' => e = .returned (.tuple #[.int .u64 r1, .int .u64 r2]) ∧ Drawn0 w w' := by
  unfold bits_Mul64.f at h
  by_cases hb : (0 ≤ a0 ∧ a0 < 18446744073709551616) ∧ 0 ≤ a1 ∧ a1 < 18446744073709551616
  · rw [if_pos hb] at h
    simp only [Option.some.injEq, Prod.mk.injEq] at h
    obtain ⟨rfl, rfl⟩ := h
    obtain ⟨x, rfl⟩ := Int.eq_ofNat_of_zero_le hb.1.1
    obtain ⟨y, rfl⟩ := Int.eq_ofNat_of_zero_le hb.2.1
    refine (Tryd.bits_Mul64 x y (by omega) (by omega) w).mono ?_
    rintro e w' ⟨rfl, rfl⟩
    exact ⟨by simp, Drawn0.refl _⟩
  · rw [if_neg hb] at h
    exact absurd h (by simp)
end Go.Proofs.YtaaiamfolbcchaaDoor.Ext

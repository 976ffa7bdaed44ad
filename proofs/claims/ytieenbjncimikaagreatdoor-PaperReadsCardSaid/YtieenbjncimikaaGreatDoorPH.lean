/- What the chapter's example tells; words of depots' texts. No condition. -/
import Derived.Test.YtieenbjncimikaaGreatDoorPF
set_option linter.all false
open Go Go.AM Go.Proofs Go.AM.Pl
set_option maxRecDepth 100000
set_option maxHeartbeats 4000000
namespace ZD
def litA : List UInt8 := [111, 114, 100, 101, 114, 32, 55, 32, 50, 32, 45, 51, 48, 32, 49, 53, 32, 54, 48, 45, 57, 48]
def lgtW (w : List (List Int)) (n : Int) : Bool := decide ((w.length : Int) ≤ n) && w.all fun l => decide ((l.length : Int) ≤ n)
def lgt56 (l : List Ord) : Bool := decide (l.length ≤ 2010) && l.all fun x => decide (x.os.length ≤ 20)
def lgt57 (l : List Trk) : Bool := decide (l.length ≤ 110) && l.all fun x => decide (x.past.length ≤ 60)
def lgtD (d : Dep) : Bool := lgtW d.ways 40 && lgt56 d.ords && lgt57 d.trks
theorem s21 {lo : Nat} {h : H} : den cx lo 21 [] h = some (.b true, h) := by
  have e29 := fun lo => s29 (lo := lo) (l := litA) (h := h) (by decide)
  have e : ordV (readO litA) = .tup [.agg [.i 7, .i 2, .i (-30), .i 15, AM.vs .dead 2 [.agg [.i 60, .i 90]]], .i 0] := by rfl
  rw [e] at e29
  simp only [litA] at e29
  refine den_pure (fn := Tryz.f21) (by rfl) (by rfl) (by rfl) (by rfl) (by simp [Tryz.f21]) (by simp) ?_
  simp (maxSteps := 2000000) (disch := first | omega | (simp; done) | (simp; omega) | assumption) [Tryz.f21, argsE, isC, boxV, boxO, fresh_no, List.filter_cons, setB, aggN, op_build, List.set, e29]
  done
end ZD
open Go Go.AM Go.Proofs Go.AM.Pl
set_option maxRecDepth 100000
set_option maxHeartbeats 4000000
namespace ZD
/-- An object that is a builder, with its text. -/
def Bl (lo : Nat) (g : H) (p : Nat) (s : List UInt8) : Prop := lo ≤ p ∧ ((g[p]? = some (.bld 104 none) ∧ s = []) ∨ ∃ j, lo ≤ j ∧ j ≠ p ∧ g[p]? = some (.bld 104 (some (j, s.length))) ∧ g[j]? = some (.buf 5 s))
end ZD
open Go Go.AM Go.Proofs Go.AM.Pl
set_option maxRecDepth 100000
set_option maxHeartbeats 4000000
namespace ZD
theorem den_openE {c : Cx} {f lo : Nat} {fn : Func} {code : Code} {args : List V} {h : H} {v : V} {P : H → Prop} (hp : c.prim f = none) (hu : c.pur f = false) (hf : c.P.funcs[f]? = some fn) (hb : fn.body = some code) (hl : args.length ≤ fn.ntmps)
    (hw : Wp c f lo 0 code { env := argsE args, lb := [], h := h } fun x s => (x = .normal ∨ x = .ret) ∧ resultsV c s fn.results.toList = some v ∧ P s.h) (hq : c.hprim f = none := by rfl) (hz : c.frz f = false := by rfl) : ∃ h', den c lo f args h = some (v, h') ∧ P h' := by
  obtain ⟨x, s, h1, hx, h2, h3⟩ := hw
  exact ⟨s.h, den_open hp hu hf hb hl ⟨x, s, h1, hx, h2, rfl⟩ hq hz, h3⟩
def truckW : List UInt8 := [116, 114, 117, 99, 107]
def pastW : List UInt8 := [112, 97, 115, 116]
def bookW : List UInt8 := [98, 111, 111, 107]
def placesW : List UInt8 := [112, 108, 97, 99, 101, 115]
def rowW : List UInt8 := [114, 111, 119]
def rowT (w : List UInt8) (l : List Int) : List UInt8 := numbersL w l ++ [10]
def pastL (r : Rec) : List UInt8 := jn [pastW, [letR r.k], toldL r.f r.t] ++ [10]
def trkL (t : Trk) : List UInt8 := rowT truckW [t.id, t.home, t.room, t.fixed, t.rate] ++ t.past.flatMap pastL
/-- A truck that can be told. -/
def Trk.ok (t : Trk) : Prop := (i64B t.id ∧ i64B t.home ∧ i64B t.room ∧ i64B t.fixed ∧ i64B t.rate) ∧ (∀ r ∈ t.past, kOk r.k = true ∧ i64B r.f ∧ i64B r.t) ∧ t.past.length ≤ 60
end ZD
open Go Go.AM Go.Proofs Go.AM.Pl
set_option maxRecDepth 100000
set_option maxHeartbeats 4000000
namespace ZD
def hlW : List UInt8 := [104, 97, 117, 108, 105, 101, 114]
def headT : List UInt8 := jn [hlW, [49]] ++ [10]
def endT : List UInt8 := [101, 110, 100, 10]
def ordLn (o : Ord) : List UInt8 := o.l ++ [10]
def depT0 (d : Dep) : List UInt8 := headT ++ rowT bookW d.bk ++ rowT placesW [(d.ways.length : Int)]
/-- A depot's text. -/
def depT (d : Dep) : List UInt8 := depT0 d ++ d.ways.flatMap (rowT rowW) ++ d.ords.flatMap ordLn ++ d.trks.flatMap trkL ++ endT
def prtD (d : Dep) : List UInt8 × Int := if (depC d).2.2 = 0 then (depT d, 0) else ([], (depC d).2.2)
/-- A depot that can be told. -/
def Dep.tell (d : Dep) : Prop := (∀ n ∈ d.bk, i64B n) ∧ (∀ l ∈ d.ways, (∀ n ∈ l, i64B n) ∧ l.length ≤ 40) ∧ d.ways.length ≤ 40 ∧ (∀ o ∈ d.ords, o.wf ∧ o.os.length ≤ 20) ∧ d.ords.length ≤ 2010 ∧ (∀ t ∈ d.trks, t.ok) ∧ d.trks.length ≤ 110
end ZD

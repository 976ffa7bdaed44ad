/- The plain law of WordNumbers: numbers and spans as text. -/
import Derived.Test.YtaaiamfolbcchaaDoorX16
import Derived.Test.YtaaiamfolbcchaaDoorPWordC
import Derived.OpenShut
namespace Go.Proofs.YtaaiamfolbcchaaDoor.Pure
set_option linter.unusedVariables false
set_option linter.unusedSimpArgs false
open Go.RowKit Go.Proofs.YtaaiamfolbcchaaDoor.Y0 Go.Proofs.YtaaiamfolbcchaaDoor.X1 Go.Proofs.YtaaiamfolbcchaaDoor.Ext Go.Proofs.YtaaiamfolbcchaaDoorW.PrintWords Go.Proofs.YtaaiamfolbcchaaDoorW.PrintLast Go.Proofs.YtaaiamfolbcchaaDoorW.PrintMore

theorem WordNumbers (s : ByteArray) (n a b : Int) (hs : s.size ≤ 140737488351232) (hn : (Lit.int .i64 n).wf = true) (ha : (Lit.int .i64 a).wf = true) (hb : (Lit.int .i64 b).wf = true) : ∃ k, haulierlaw06_WordNumbers.f k s n a b = some true := by
  have hn' : i64B n := bounds_i64 hn
  have ha' : i64B a := bounds_i64 ha
  have hb' : i64B b := bounds_i64 hb
  apply Ev.rounds
  unfold haulierlaw06_WordNumbers.f
  have al : Ev (fun k => (haulierlaw06_alive.f k).bind fun t => some t) true := Ev.bind (f := fun _ t => some t) alive_tells (Ev.now _)
  by_cases hl : (s.size : Int) > 200
  · exact Ev.congr (fun k => by rw [if_pos hl]) al
  · refine Ev.congr (fun k => by rw [if_neg hl]) ?_
    refine Ev.bind (f := fun k bt149 => _) (Number_tells s n (by omega)) ?_
    refine Ev.bind (f := fun k bt151 => _) (refNumber_tells s n (by omega)) ?_
    refine Ev.bind (f := fun k bt153 => _) (Span_tells s (by omega)) ?_
    refine Ev.bind (f := fun k bt157 => _) (refSpan_tells s (by omega)) ?_
    simp only [if_true, BEq.rfl, Bool.and_self, Print_tells n hn'.1 hn'.2, Option.bind_some]
    refine Ev.bind (f := fun k t162 => _) (refPrint_tells n hn'.1 hn'.2) ?_
    simp only [if_true, Told_tells a b ha' hb', Option.bind_some]
    refine Ev.bind (f := fun k t164 => _) (refTold_tells a b ha' hb') ?_
    simp only [if_true]
    exact al
end Go.Proofs.YtaaiamfolbcchaaDoor.Pure

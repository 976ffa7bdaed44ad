/- From a row's condition to the abstract machine's law. No condition. -/
import Derived.Test.YtieenbjncimikaaGreatDoorBAmE
import Derived.Test.YtieenbjncimikaaGreatDoorBAmF
import Derived.Lib.LaidU8
import Derived.LaidMore
import Derived.MakeChecks
import Derived.HandedShaped
import Derived.Shelf.Vars
import Derived.ChangeArms
import Derived.WalkKit
import Derived.ProofKit
import Derived.OpenShut
import Derived.ShutString
import Derived.ChangeOld
import Derived.SizedLaws
import Derived.Stop.Joined
import Derived.SevenTiedAt
import Derived.Lib.SmallJoins
set_option linter.all false
namespace Go.AM
open Go Go.RowKit Go.ChangeShapes Go.WideShapes
theorem returnsLaid {H : Type} {enc : TypeId × Value → H} {a : Assume} {C : Checked} {os : Os} {f : FuncId} {fn : Func} {s : ChangeSpec} {conds : List PathCond} {apart fresh handsOn again : Bool} {X : World → Array Value → Prop}
    (hX : ∀ (w w' : World) (args : Array Value), w.heap = w'.heap → X w args → X w' args)
    (own : ownKnob C.prog.godebug = none) (started : os.Started) (noInit : C.prog.inits.idxOf? f = none) (hfn : C.prog.funcs[f]? = some fn)
    (witness : ∃ (w : World) (tape : Tape) (i : Input), w.os = os ∧ (w.forCall tape i).Shaped C.prog ∧ i.vars = [] ∧ Input.okWide C.prog (w.forCall tape i) .any w.heap.size f i ∧
      ((s.pre enc C.prog fn conds apart (w.forCall tape i).memory i.args ∧ X (w.forCall tape i).memory i.args) ∧ sizedMet enc C.prog fn (OpenSpec.ofChange s) apart (w.forCall tape i).memory i.args) ∧ a.holds C.prog (lone (Frame.enter C.prog f i.args .normal) [] (w.forCall tape i)))
    (contract : ∀ (W : World) (base : Nat) (args : Array Value) (ds gs : List (DataW H)) (before : List MemPlace),
      (∀ (j : Nat) t v, fn.params[j]? = some t → args[j]? = some v → Value.okWide C.prog W .any base t v) →
      DataW.Whole enc C.prog fn.params.toList s.vars apart W args.toList ds gs before →
      conds.all (PathCond.test C.prog ⟨fn.params.toList, ds, s.plain.varTypes C.prog, gs⟩) = true →
      (DataW.weightsEach C.prog (fn.params.toList ++ s.plain.varTypes C.prog) (ds ++ gs)).all (· ≤ reachBytes) = true → X W args →
      W.ShapedOpen C.prog →
      Calls C.prog f args W fun e W' => ∃ v, e = .returned v ∧ s.post enc C.prog fn apart fresh handsOn again W args v W') :
    ReturnsInHanded a C os f .any (fun w args => (s.pre enc C.prog fn conds apart w args ∧ X w args) ∧ sizedMet enc C.prog fn (OpenSpec.ofChange s) apart w args) (s.post enc C.prog fn apart fresh handsOn again) := by
  refine returnsInHanded_of_calls own started noInit witness ?_
  intro w tape i _ hsh _ hok hpre hholds
  obtain ⟨_, _, _, fn', hfn', _, _, _, _, hval⟩ := hok
  have e : fn' = fn := Option.some.inj (hfn'.symm.trans hfn)
  subst e
  obtain ⟨⟨⟨ds, gs, before, hw, hc⟩, hx⟩, hz⟩ := hpre
  have hw' := DataW.Whole.of_heap (w' := w.forCall tape i) (by rfl) hw
  refine (contract (w.forCall tape i) w.heap.size i.args ds gs before hval hw' hc (hz.weights hw) (hX _ _ _ (by rfl) hx) hsh).mono fun e W' ⟨v, he, hp⟩ => ?_
  subst he
  exact ChangeSpec.post_blind hp
/-- A listed variable's block. -/
theorem laid_block {P : Program} {g : Nat} {ty : TypeId} {fits : List Value → Prop} {w : World} {name : String} {d : DataW Unit} (hg : P.globalNamed name = some g) (hty : (P.globals[g]?).map (·.type) = some ty)
    (h : Lib.VarReads P w name d) (hf : ∀ cs fuel p, DataW.trod (fun _ => ()) P w 0 (fun _ => true) false fuel ty cs = some (d, p) → fits cs) : ∃ cs t fz, w.heap[g]? = some (.cells cs t fz) ∧ fits cs.toList := by
  obtain ⟨g', ty', cs, fuel, p, h1, h2, h3, h4⟩ := h
  obtain rfl := Option.some.inj (hg.symm.trans h1)
  obtain rfl := Option.some.inj (hty.symm.trans h2)
  unfold World.var? at h3
  rw [hg] at h3
  simp only [Option.bind_some] at h3
  split at h3
  · rename_i cs' ty' f e
    obtain rfl := Option.some.inj h3
    exact ⟨_, _, _, e, hf _ _ _ h4⟩
  · cases h3
theorem iface_cells {H : Type} {enc : TypeId × Value → H} {P : Program} {w : World} {base : Nat} {sp : Nat → Bool} {fuel : Nat} {t : TypeId} {cs : List Value} {ms : Array (String × TypeId)} {nm : String} {d : DataW H} {p : List MemPlace}
    (ht : P.underlying t = some (.interface ms)) (h : DataW.trod enc P w base sp false fuel t cs = some (.iface nm d, p)) : ∃ u v, cs = [.iface u v] := by
  cases fuel with
  | zero => simp [DataW.trod] at h
  | succ fuel =>
    unfold DataW.trod at h
    rw [ht] at h
    split at h <;> first | exact ⟨_, _, rfl⟩ | (exfalso; simp_all; done) | (exfalso; cases h; done)
/-- A number's variable. -/
theorem shaped_int {P : Program} {w : World} {g : Nat} {t : TypeId} (h : w.ShapedOpen P) (hg : ∃ m, w.cell? ⟨g, 0, none⟩ = some (.int .i64 m)) : ∃ cs ty fz, w.heap[g]? = some (.cells cs ty fz) ∧ ∃ m, cs.toList[0]? = some (.int .i64 m) := by
  obtain ⟨m, hm⟩ := hg
  unfold World.cell? at hm
  simp only [Option.isSome_none, Bool.false_eq_true, if_false] at hm
  split at hm
  · rename_i c ty f e
    exact ⟨c, ty, f, e, m, by simpa using hm⟩
  · cases hm
/-- A listed variable lies as a table when a law is called. -/
theorem tab_laid {W : World} {g : Nat} {ok : List Value → Prop} (h : ∃ cs t fz, W.heap[g]? = some (.cells cs t fz) ∧ ok cs.toList) : TabOk (sg0 W) W g ok := by
  obtain ⟨cs, t, fz, h, k⟩ := h
  exact tabOk_start h k (by simp [sg0, h])
theorem L2.nil {R : V → Value → Prop} : L2 R [] [] := ⟨rfl, fun i a b ha _ => by simp at ha⟩
theorem L2.cons {R : V → Value → Prop} {a : V} {b : Value} {l : List V} {m : List Value} (h : R a b) (k : L2 R l m) : L2 R (a :: l) (b :: m) :=
  ⟨by simp [k.1], fun i x y hx hy => by
    cases i with
    | zero => cases hx; cases hy; exact h
    | succ i => exact k.2 i x y (by simpa using hx) (by simpa using hy)⟩
end Go.AM

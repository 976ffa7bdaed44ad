/- From a row's listed variables to the tables that the contracts ask for; the builder of a row that lists variables and whose world has its shape. -/
import Derived.Test.YtaaiamfolbcchaaDoorExtA
import Derived.Test.YtaaiamfolbcchaaDoorRows
import Derived.Lib.LaidU8
import Derived.LaidMore
import Derived.MakeChecks
import Derived.HandedShaped
import Derived.Shelf.Vars
import Derived.ChangeArms
namespace Go.Proofs.YtaaiamfolbcchaaDoor.Ext
set_option linter.unusedVariables false
set_option linter.unusedSimpArgs false
open Go Go.RowKit Go.ChangeShapes Go.WideShapes

theorem returnsLaid {H : Type} {enc : TypeId × Value → H} {a : Assume} {C : Checked} {os : Os} {f : FuncId} {fn : Func} {s : ChangeSpec} {conds : List PathCond} {apart fresh handsOn again : Bool} {X : World → Array Value → Prop}
    (hX : ∀ (w w' : World) (args : Array Value), w.heap = w'.heap → X w args → X w' args)
    (own : ownKnob C.prog.godebug = none) (started : os.Started) (noInit : C.prog.inits.idxOf? f = none) (hfn : C.prog.funcs[f]? = some fn)
    (witness : ∃ (w : World) (tape : Tape) (i : Input), w.os = os ∧ (w.forCall tape i).Shaped C.prog ∧ i.vars = [] ∧ Input.okWide C.prog (w.forCall tape i) .any w.heap.size f i ∧
      ((s.pre enc C.prog fn conds apart (w.forCall tape i).memory i.args ∧ X (w.forCall tape i).memory i.args) ∧ sizedMet enc C.prog fn (OpenSpec.ofChange s) apart (w.forCall tape i).memory i.args) ∧ a.holds C.prog (lone (Frame.enter C.prog f i.args .normal) [] (w.forCall tape i)))
    (contract : ∀ (W : World) (base : Nat) (args : Array Value) (ds gs : List (DataW H)) (before : List MemPlace),
      (∀ (j : Nat) t v, fn.params[j]? = some t → args[j]? = some v → Value.okWide C.prog W .any base t v) →
      DataW.Whole enc C.prog fn.params.toList s.vars apart W args.toList ds gs before →
      conds.all (PathCond.test C.prog ⟨fn.params.toList, ds, s.plain.varTypes C.prog, gs⟩) = true →
      (DataW.weightsEach C.prog (fn.params.toList ++ s.plain.varTypes C.prog) (ds ++ gs)).all (· ≤ reachBytes) = true → X W args →
      W.ShapedOpen C.prog →
      Calls C.prog f args W fun e W' => ∃ v, e = .returned v ∧ s.post enc C.prog fn apart fresh handsOn again W args v W') :
    ReturnsInHanded a C os f .any (fun w args => (s.pre enc C.prog fn conds apart w args ∧ X w args) ∧ sizedMet enc C.prog fn (OpenSpec.ofChange s) apart w args) (s.post enc C.prog fn apart fresh handsOn again) := by
  refine returnsInHanded_of_calls own started noInit witness ?_
  intro w tape i _ hsh _ hok hpre hholds
  obtain ⟨_, _, _, fn', hfn', _, _, _, _, hval⟩ := hok
  have e : fn' = fn := Option.some.inj (hfn'.symm.trans hfn)
  subst e
  obtain ⟨⟨⟨ds, gs, before, hw, hc⟩, hx⟩, hz⟩ := hpre
  have hw' := DataW.Whole.of_heap (w' := w.forCall tape i) (by rfl) hw
  refine (contract (w.forCall tape i) w.heap.size i.args ds gs before hval hw' hc (hz.weights hw) (hX _ _ _ (by rfl) hx) hsh).mono fun e W' ⟨v, he, hp⟩ => ?_
  subst he
  exact ChangeSpec.post_blind hp

theorem int_cell {H : Type} {enc : TypeId × Value → H} {P : Program} {w : World} {base : Nat} {sp : Nat → Bool} {held : Bool} {t : TypeId} {k : IntKind} {n : Int} (ht : P.underlying t = some (.int k)) (hw : (Lit.int k n).wf = true) :
    ∃ m, DataW.trod enc P w base sp held m t [.int k n] = some ((.lit (.int k n), []) : DataW H × List MemPlace) := ⟨1, by simp [DataW.trod, ht, hw]⟩
theorem cells_of_strs {H : Type} {enc : TypeId × Value → H} {P : Program} {w : World} {base : Nat} {sp : Nat → Bool} {held : Bool} {fuel : Nat} {t e : TypeId} {n : Nat} {cs : List Value} {L : List (List UInt8)} {p : List MemPlace}
    (ht : P.underlying t = some (.array n e)) (he : P.underlying e = some .string) (hce : P.cellsOf e = 1) (hct : P.cellsOf t = n)
    (h : DataW.trod enc P w base sp held fuel t cs = some (.agg (L.map fun s => .lit (.string s)), p)) : cs = strVals L := by
  cases fuel with
  | zero => simp [DataW.trod] at h
  | succ fuel =>
    simp only [DataW.trod, ht, hce, hct, Nat.mul_one] at h
    split at h
    · rename_i hl
      obtain ⟨xs, hm, hx⟩ := Option.map_eq_some_iff.1 h
      have hxs : xs.map (·.1) = L.map fun s => (DataW.lit (.string s) : DataW H) := by
        have := congrArg Prod.fst hx
        simpa using this
      have hxl : xs.length = n := by simpa using Lib.mapM_length hm
      have hzl : L.length = n := by
        have := congrArg List.length hxs
        simp at this
        omega
      apply List.ext_getElem?
      intro i
      by_cases hi : i < n
      · obtain ⟨b, hb, hf⟩ := Lib.mapM_at hm i i (by simp [hi])
        obtain ⟨z, hc, rfl, _⟩ := DataW.trod_string he hf
        have h1 : cs[i]? = some (.string z) := by
          have := congrArg (·[0]?) hc
          simpa [List.getElem?_take, List.getElem?_drop] using this
        have h2 : (xs.map (·.1))[i]? = some (DataW.lit (.string z.data.toList) : DataW H) := by simp [hb]
        rw [hxs] at h2
        simp only [List.getElem?_map, Option.map_eq_some_iff, DataW.lit.injEq, Lit.string.injEq] at h2
        obtain ⟨z', hz', rfl⟩ := h2
        rw [h1]
        simp [strVals, hz']
      · rw [List.getElem?_eq_none (by omega), List.getElem?_eq_none (by simp [strVals]; omega)]
    · cases h

theorem laidOne_of {t : Tb} {w : World} {name : String} {d : DataW Unit} {ty : TypeId} (hg : Tryd.prog.globalNamed name = some t.g) (hty : (Tryd.prog.globals[t.g]?).map (·.type) = some ty)
    (h : Lib.VarReads Tryd.prog w name d) (hf : ∀ cs fuel p, DataW.trod (fun _ => ()) Tryd.prog w 0 (fun _ => true) false fuel ty cs = some (d, p) → t.fits cs) : LaidOne t w := by
  obtain ⟨g, ty', cs, fuel, p, h1, h2, h3, h4⟩ := h
  obtain rfl := Option.some.inj (hg.symm.trans h1)
  obtain rfl := Option.some.inj (hty.symm.trans h2)
  unfold World.var? at h3
  rw [hg] at h3
  simp only [Option.bind_some] at h3
  split at h3
  · rename_i cs' ty' f e
    obtain rfl := Option.some.inj h3
    exact ⟨_, _, _, e, hf _ _ _ h4⟩
  · cases h3

theorem laid_pow10 {w : World} (h : Lib.VarReads Tryd.prog w "internal/strconv.uint64pow10" Rows.laid_internal_strconv_uint64pow10) : LaidOne .pow10 w :=
  laidOne_of globalPow (ty := 177) (by kernel_rfl) h fun cs fuel p hd => Lib.cells_of_tab (zs := Lib.pow10Tab) (n := 20) (e := 90) Tryd.underlying177 Tryd.underlying90 (by kernel_rfl) (by kernel_rfl) hd
theorem strs_data (L : List (List UInt8)) (d : DataW Unit) (e : d = .agg (L.map fun s => .lit (.string s))) {cs : List Value} {w : World} {fuel : Nat} {t : TypeId} {p : List MemPlace} {n : Nat}
    (ht : Tryd.prog.underlying t = some (.array n 9)) (hct : Tryd.prog.cellsOf t = n)
    (h : DataW.trod (fun _ => ()) Tryd.prog w 0 (fun _ => true) false fuel t cs = some (d, p)) : cs = strVals L := by
  subst e
  exact cells_of_strs ht Tryd.underlying9 (by kernel_rfl) hct h
theorem laid_days {w : World} (h : Lib.VarReads Tryd.prog w "haulier/week.days" Rows.laid_haulier_week_days) : LaidOne .days w :=
  laidOne_of (ty := 91) (by kernel_rfl) (by kernel_rfl) h fun cs fuel p hd => strs_data Ext.days _ rfl (n := 7) Tryd.underlying91 (by kernel_rfl) hd
theorem laid_names {w : World} (h : Lib.VarReads Tryd.prog w "haulier/clause.names" Rows.laid_haulier_clause_names) : LaidOne .names w :=
  laidOne_of (ty := 89) (by kernel_rfl) (by kernel_rfl) h fun cs fuel p hd => strs_data Ext.clauseNames _ rfl (n := 16) Tryd.underlying89 (by kernel_rfl) hd
theorem laid_articles {w : World} (h : Lib.VarReads Tryd.prog w "haulier/clause.articles" Rows.laid_haulier_clause_articles) : LaidOne .articles w :=
  laidOne_of (ty := 89) (by kernel_rfl) (by kernel_rfl) h fun cs fuel p hd => strs_data Ext.clauseArticles _ rfl (n := 16) Tryd.underlying89 (by kernel_rfl) hd
theorem iface_cells {H : Type} {enc : TypeId × Value → H} {P : Program} {w : World} {base : Nat} {sp : Nat → Bool} {fuel : Nat} {t : TypeId} {cs : List Value} {ms : Array (String × TypeId)} {nm : String} {d : DataW H} {p : List MemPlace}
    (ht : P.underlying t = some (.interface ms)) (h : DataW.trod enc P w base sp false fuel t cs = some (.iface nm d, p)) : ∃ u v, cs = [.iface u v] := by
  cases fuel with
  | zero => simp [DataW.trod] at h
  | succ fuel =>
    unfold DataW.trod at h
    rw [ht] at h
    split at h <;> first | exact ⟨_, _, rfl⟩ | (exfalso; simp_all; done) | (exfalso; cases h; done)
theorem laid_errS {w : World} (h : Lib.VarReads Tryd.prog w "strconv.ErrSyntax" Rows.laid_strconv_ErrSyntax) : LaidOne .errS w :=
  laidOne_of (ty := 100) (by kernel_rfl) (by kernel_rfl) h fun cs fuel p hd => iface_cells Tryd.underlying100 hd
theorem laid_errR {w : World} (h : Lib.VarReads Tryd.prog w "strconv.ErrRange" Rows.laid_strconv_ErrRange) : LaidOne .errR w :=
  laidOne_of (ty := 100) (by kernel_rfl) (by kernel_rfl) h fun cs fuel p hd => iface_cells Tryd.underlying100 hd
theorem laid_maxLen {w : World} (h : w.ShapedOpen Tryd.prog) : LaidOne .maxLen w := by
  obtain ⟨m, hm⟩ := cell_of_shapedOpen_int (g := Tb.g .maxLen) (t := 3) (zero := #[.int .i64 0]) (k := .i64) h (of_decide_eq_true (by kernel_rfl)) (by kernel_rfl) rfl (by kernel_rfl) (by kernel_rfl) Tryd.underlying3
  unfold World.cell? at hm
  simp only [Option.isSome_none, Bool.false_eq_true, if_false] at hm
  split at hm
  · rename_i c ty f e
    exact ⟨c, ty, f, e, m, by simpa using hm⟩
  · cases hm
end Go.Proofs.YtaaiamfolbcchaaDoor.Ext

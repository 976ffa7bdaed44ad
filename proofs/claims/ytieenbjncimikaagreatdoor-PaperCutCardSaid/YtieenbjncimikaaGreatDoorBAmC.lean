/- Operations, code and loops of the abstract machine tell what the model's do. No condition. -/
import Derived.Test.YtieenbjncimikaaGreatDoorBAmB
import Derived.Scope
set_option linter.all false
namespace Go.AM
section
variable {c : Cx} {N : Nat} {S : Snap} {β : Nat → Option Nat} {σ : Sg} {W : World} {st : St} {a : Act}

/-- What a call may be counted on for. -/
def CallOk (c : Cx) (call : Nat → FuncId → List V → H → Option (V × H)) : Prop :=
  ∀ lo g args h v h', call lo g args h = some (v, h') → (∀ xs W, (callFunc g xs).run c.P W = .ok (.enter g xs) W) ∧ ∀ σ W (xs : Array Value), L2 (VRel σ W) args xs.toList → Inv σ h W → GlobOk c σ W →
    Calls c.P g xs W (fun e W' => ∃ z σ', e = .returned z ∧ VRel σ' W' v z ∧ Inv σ' h' W' ∧ Step σ h W σ' h' W')

/-- Behind an operation. -/
def OpPost (c : Cx) (N : Nat) (S : Snap) (x : Ent) (st' : St) (dst : Option Nat) (a : Act) : Act → World → Prop := fun a' W' =>
  ∃ β' σ' y, a' = a.put dst y ∧ Rl c N S β' σ' W' (put st' dst x) a'.tmps

theorem post_of {β' : Nat → Option Nat} {σ' : Sg} {W' : World} {st' : St} {dst : Option Nat} {x : Ent} {y : Value} (R : Rl c N S β' σ' W' st' a.tmps) (hx : ER β' σ' W' x y) (hd : ∀ t, dst = some t → t < N) :
    OpPost c N S x st' dst a (a.put dst y) W' := ⟨β', σ', y, rfl, R.put hx hd⟩

theorem wp_val {o : Oper} {y : Value} {W' : World} {K : Act → World → Prop} {Q : Exit → Act → World → Prop} (h : (execOp a.eval o).run c.P W = .ok (.value y) W') (k : K (a.put o.dst y) W') : o.wp c.P a W K Q := by
  unfold Oper.wp; rw [h]; exact k
theorem wp_skp {o : Oper} {W' : World} {K : Act → World → Prop} {Q : Exit → Act → World → Prop} (h : (execOp a.eval o).run c.P W = .ok .skip W') (k : K (a.put o.dst Go.undef) W') : o.wp c.P a W K Q := by
  unfold Oper.wp; rw [h]; exact k

theorem getE_mem {t : Nat} : ∀ {env : List (Nat × Ent)} {u : Nat}, (getE env u).isLp t = true → ∃ p ∈ env, p.1 = u ∧ p.2.isLp t = true
  | [], u, h => by simp [getE, Ent.isLp] at h
  | (k, x) :: env, u, h => by
    simp only [getE] at h
    by_cases hk : k = u
    · rw [if_pos hk] at h; exact ⟨(k, x), by simp, hk, h⟩
    · rw [if_neg hk] at h
      obtain ⟨p, hp, e⟩ := getE_mem h
      exact ⟨p, by simp [hp], e⟩
theorem fresh_iff {t : Nat} {env : List (Nat × Ent)} : fresh t env = true ↔ ∀ u, u ≠ t → (getE env u).isLp t = false := by
  unfold fresh
  rw [List.all_eq_true]
  constructor
  · intro h u hu
    cases hl : (getE env u).isLp t with
    | false => rfl
    | true =>
      obtain ⟨p, hp, e1, e2⟩ := getE_mem hl
      have := h p hp
      simp only [e1, e2, hl, Bool.not_true, Bool.false_or, Bool.or_false, beq_iff_eq] at this
      exact absurd this hu
  · intro h p _
    by_cases hp : p.1 = t
    · simp [hp]
    · simp [h p.1 hp]

theorem getB_filter (t : Nat) : ∀ (lb : List (Nat × List V)) (u : Nat), u ≠ t → getB (lb.filter (fun p => p.1 != t)) u = getB lb u
  | [], u, _ => rfl
  | (k, x) :: lb, u, h => by
    by_cases hk : k = t
    · subst hk; simp [getB, Ne.symm h, getB_filter k lb u h]
    · rw [List.filter_cons_of_pos (by simpa using hk)]
      simp only [getB, getB_filter t lb u h]

/-- A new box, of the frame's own or not. -/
theorem new_bld (I : Inv σ st.h W) (t : TypeId) : let σ' := σ.add W.heap.size none (some (st.h.length, 0))
    Inv σ' (st.h ++ [.bld t none]) (psh W (.cells #[.pointer none, .slice none 0 0] t)) ∧ Step σ st.h W σ' (st.h ++ [.bld t none]) (psh W (.cells #[.pointer none, .slice none 0 0] t)) ∧ σ'.loc st.h.length = some (W.heap.size, 0) := by
  intro σ'
  have hd : ∀ i x, some (st.h.length, 0) = some (i, x) → i = st.h.length := by intro i x hx; simp at hx; exact hx.1.symm
  have hh : st.h ++ [O.bld t none] = st.h ∨ ∃ o', st.h ++ [O.bld t none] = st.h ++ [o'] ∧ o'.live = true := .inr ⟨_, rfl, rfl⟩
  refine ⟨Inv.psh I _ _ _ hd _ hh ?_ ?_ ?_ ?_ ?_, Step.psh I _ _ _ hd _ hh, by simp [σ', Sg.add]⟩
  · intro _; simp
  · intro n hn'; cases hn'
  · intro cs' i x hx; simp at hx
  · intro i x hx; simp at hx
  · intro o' i x _ hx hxx
    simp at hx hxx
    subst hx
    exact ⟨rfl, rfl, rfl, hxx.2.symm, _, _, rfl, .inl rfl, rfl⟩
theorem new_any {t : TypeId} {cs : List V} {arr : Array Value} (I : Inv σ st.h W) (hl : cs.length ≤ arr.size) (hcc : ∀ (i : Nat) v, cs[i]? = some v → ∃ y, arr[i]? = some y ∧ Ck (VRel σ W) v y) {ob : O} (ho : ob = .cells cs ∨ (arr = #[.pointer none, .slice none 0 0] ∧ ob = .bld t none) ∨ ob = .dead) :
    ∃ σ', Inv σ' (st.h ++ [ob]) (psh W (.cells arr t)) ∧ Step σ st.h W σ' (st.h ++ [ob]) (psh W (.cells arr t)) ∧ σ'.loc st.h.length = some (W.heap.size, 0) := by
  rcases ho with rfl | ⟨rfl, rfl⟩ | rfl
  · exact ⟨_, new_box (st := st) I cs arr t hl hcc⟩
  · exact ⟨_, new_bld I t⟩
  · obtain ⟨a1, a2, a3⟩ := new_box (st := st) I cs arr t hl hcc
    obtain ⟨b1, b2⟩ := a1.kill st.h.length
    have e : (st.h ++ [O.cells cs]).set st.h.length .dead = st.h ++ [.dead] := by
      rw [List.set_append_right _ _ (Nat.le_refl _)]; simp
    rw [e] at b1 b2
    exact ⟨_, b1, a2.trans b2, a3⟩
theorem newO_or {t : TypeId} {cs : List V} {arr : Array Value} (hc : L2 (Ck (VRel σ W)) cs arr.toList) : newO c t cs = .cells cs ∨ (arr = #[.pointer none, .slice none 0 0] ∧ newO c t cs = .bld t none) ∨ newO c t cs = .dead := by
  unfold newO
  split
  · split
    · rename_i w
      refine .inr (.inl ⟨?_, rfl⟩)
      obtain ⟨l⟩ := arr
      match l, hc with
      | [x, y], hc =>
        obtain ⟨rfl, _⟩ := VRel.s_iff.1 (hc.2 0 _ x rfl rfl).2
        obtain ⟨base, cap, rfl, n0, n1, _⟩ := VRel.vsl_iff.1 (hc.2 1 _ y rfl rfl).2
        have hb := n1 rfl
        have hk := n0 hb
        subst hb; subst hk; rfl
    · exact .inr (.inr rfl)
  · exact .inl rfl
theorem newBox_run (R : Rl c N S β σ W st a.tmps) {esc : List Nat} {t : Nat} {cs : List V} {arr : Array Value} {e : TypeId} {x : Ent} {st' : St} {ob : O} (ho : ob = .cells cs ∨ (arr = #[.pointer none, .slice none 0 0] ∧ ob = .bld e none) ∨ ob = .dead)
    (h : (if esc.contains t then some (Ent.v (.ptr st.h.length 0), push st ob) else if fresh t st.env then some (Ent.lp t 0, { st with lb := (t, cs) :: st.lb.filter (fun p => p.1 != t) }) else none) = some (x, st'))
    (hc : L2 (Ck (VRel σ W)) cs arr.toList) (ht : t < N) :
    OpPost c N S x st' (some t) a (a.put (some t) (.pointer (some ⟨W.heap.size, 0, none⟩))) (psh W (.cells arr e)) := by
  have hl : cs.length ≤ arr.size := by have := hc.1; simp at this; omega
  have hcc : ∀ (i : Nat) v, cs[i]? = some v → ∃ y, arr[i]? = some y ∧ Ck (VRel σ W) v y := fun i v hv => let ⟨y, hy, r⟩ := hc.get hv; ⟨y, by simpa using hy, r⟩
  have hd' : ∀ u, some t = some u → u < N := fun u hu => by cases hu; exact ht
  split at h
  · cases h
    obtain ⟨σ1, I', s', hl'⟩ := new_any (st := st) R.inv hl hcc ho
    exact post_of (Rl.step R s' I') (VRel.ptr_iff.2 ⟨_, _, hl', rfl⟩) hd'
  · split at h
    case isFalse => cases h
    rename_i hfr
    cases h
    have hfr := fresh_iff.1 hfr
    have hd : ∀ i x, (none : Option (Nat × Nat)) = some (i, x) → i = st.h.length := by intro i x hx; cases hx
    have I' := Inv.psh R.inv (.cells arr e) none none hd st.h (.inl rfl) (by simp) (by simp) (by simp) (by simp) (by simp)
    have s' := Step.psh R.inv (.cells arr e) none none hd st.h (.inl rfl)
    have R' := Rl.step R s' I'
    -- the slot is laid first, over the elder box's name; then the box
    have R2 := R'.put (a := a) (dst := some t) (x := .v .undef) (y := .pointer (some ⟨W.heap.size, 0, none⟩)) VRel.undef hd'
    refine ⟨fun u => if u = t then some W.heap.size else β u, _, _, rfl, ⟨⟨R2.fr.size, ?_, ?_, ?_, ?_⟩, I', R'.stp, R'.glo⟩⟩
    · intro u
      have h0 := R2.fr.env u
      show ER _ _ _ (getE (AM.put { st with lb := _ } (some t) (.lp t 0)).env u) _
      rw [getE_put] at h0 ⊢
      by_cases hu : u = t
      · subst hu
        rw [if_pos rfl]
        have : (a.put (some u) (.pointer (some ⟨W.heap.size, 0, none⟩))).tmps.getD u Go.undef = .pointer (some ⟨W.heap.size, 0, none⟩) := by
          simp only [Act.put, Array.getD_eq_getD_getElem?]
          rw [Array.getElem?_setIfInBounds_self_of_lt (by rw [R.fr.size]; exact ht)]
          rfl
        exact ⟨_, by simp, this⟩
      · rw [if_neg (by simpa using Ne.symm hu)] at h0 ⊢
        have hn := hfr u hu
        revert h0 hn
        show ER β _ _ (getE st.env u) _ → _ → _
        cases getE st.env u with
        | v x => intro h0 _; exact h0
        | lp q off =>
          intro h0 hn
          obtain ⟨k, hk, hy⟩ := h0
          refine ⟨k, ?_, hy⟩
          have : q ≠ t := by simpa [Ent.isLp] using hn
          simp [this, hk]
    · intro u cs' hcs'
      by_cases hu : t = u
      · subst hu
        simp only [AM.put, getB, if_true] at hcs'
        cases hcs'
        exact ⟨W.heap.size, arr, e, by simp, psh_new, hl, fun i v hv => let ⟨y, hy, r⟩ := hcc i v hv; ⟨y, hy, r.mono s'.mo⟩⟩
      · simp only [AM.put, getB, if_neg hu] at hcs'
        rw [getB_filter t _ u (Ne.symm hu)] at hcs'
        obtain ⟨k, arr', e', h1, h2, h3, h4⟩ := R'.fr.lb u cs' hcs'
        exact ⟨k, arr', e', by simp [Ne.symm hu, h1], h2, h3, h4⟩
    · intro u k hk
      by_cases hu : u = t
      · subst hu
        simp at hk
        subst hk
        refine ⟨R.stp.wsz, by simp [psh], by simp [Sg.add], ?_⟩
        rintro ⟨id, o, d, h1, h2, h3⟩
        have := (R.inv.lsz id _ d h3).1
        omega
      · simp [hu] at hk
        exact R'.fr.own u k hk
    · intro u u' k h1 h2
      by_cases hu : u = t <;> by_cases hu' : u' = t
      · rw [hu, hu']
      · simp [hu] at h1; simp [hu'] at h2; subst h1; have := (R.fr.own u' _ h2).2.1; omega
      · simp [hu] at h1; simp [hu'] at h2; subst h2; have := (R.fr.own u _ h1).2.1; omega
      · simp [hu] at h1; simp [hu'] at h2; exact R.fr.inj u u' k h1 h2

theorem methodOf_run {t : TypeId} {name : String} {g : FuncId} {v : Value} (h : methodOf c.P t name = some g) (args : Array Value) (w : World) (hen : (callFunc g (#[v] ++ args)).run c.P w = .ok (.enter g (#[v] ++ args)) w) :
    (callMethod (.iface t v) name args).run c.P w = .ok (.enter g (#[v] ++ args)) w := by
  unfold methodOf at h
  simp only [Option.bind_eq_bind] at h
  have h9 := Option.bind_eq_some_iff.1 h; clear h; obtain ⟨i, hi, h⟩ := h9
  have h9 := Option.bind_eq_some_iff.1 h; clear h; obtain ⟨m, hm, h⟩ := h9
  have h9 := Option.bind_eq_some_iff.1 h; clear h; obtain ⟨⟨f, p⟩, hf, h⟩ := h9
  simp only at h
  split at h
  · cases h
  · rename_i hp
    have hpath : m.path.toList = [] := by simpa using hp
    unfold callMethod
    simp only [Sem.run_bind, run_program, Result.andThen_ok]
    have hd : c.P.types.size + Made.depth = (c.P.types.size + 99) + 1 := rfl
    have key : (method (c.P.types.size + Made.depth) t v name).run c.P w = .ok (g, v) w := by
      rw [hd]
      generalize c.P.types.size + 99 = k
      simp only [method, Sem.run_bind, run_info hi, Result.andThen_ok, hm, hpath, follow, Sem.run_pure, hf, receiverAt]
      split at h
      · rename_i el hu
        cases p
        · simp at h
        · simp at h; subst h
          simp only [run_und hu, Result.andThen_ok, Place.get, Sem.run_pure]
      · rename_i u hnp hu
        cases p
        · simp at h; subst h
          rw [run_und hu]
          cases u <;> first | (exact absurd rfl (hnp _)) | simp only [Result.andThen_ok, Place.get, Sem.run_pure]
        · simp at h
      · cases h
    rw [key]
    exact hen
end
end Go.AM
namespace Go.AM
section
variable {c : Cx} {call : Nat → FuncId → List V → H → Option (V × H)} {f lo N : Nat} {S : Snap} {β : Nat → Option Nat} {σ : Sg} {W : World} {st : St} {a : Act} {Q : Exit → Act → World → Prop}

theorem valE {e : Option V} {x : Ent} {st st' : St} (h : e.map (fun v => (Ent.v v, st)) = some (x, st')) : ∃ v, e = some v ∧ x = .v v ∧ st' = st := by
  obtain ⟨v, hv, h2⟩ := Option.map_eq_some_iff.1 h
  cases h2
  exact ⟨v, hv, rfl, rfl⟩

/-- An operation that yields a value and leaves the world alone. -/
theorem still (R : Rl c N S β σ W st a.tmps) {o : Oper} {x : Ent} (hd : ∀ t, o.dst = some t → t < N) (h : ∃ z, (execOp a.eval o).run c.P W = .ok (.value z) W ∧ ER β σ W x z) : o.wp c.P a W (OpPost c N S x st o.dst a) Q :=
  let ⟨z, hz, r⟩ := h; wp_val hz (post_of R r hd)

theorem bindv {s : Sem Value} {z : Value} {W W' : World} (h : s.run c.P W = .ok z W') : (do pure (.value (← s)) : Sem Next).run c.P W = .ok (.value z) W' := by
  simp only [Sem.run_bind, h, Result.andThen_ok, Sem.run_pure]

theorem target_run {fv : V} {f' : Value} {vs vs' : List V} {g : FuncId} (h : target fv vs = some (g, vs')) (hf : VRel σ W fv f') : ∃ first cap, f' = .func (.func g) first cap ∧
    ∀ xs : Array Value, L2 (VRel σ W) vs xs.toList → L2 (VRel σ W) vs' (first ++ xs ++ cap).toList := by
  unfold target at h
  split at h
  · rename_i g' p q
    cases h
    obtain ⟨xs, ys, rfl, h1, h2⟩ := VRel.fn_iff.1 hf
    refine ⟨xs, ys, rfl, fun zs hz => ?_⟩
    simp only [Array.toList_append]
    exact (h1.append hz).append h2
  · cases h

theorem call_sound (hc : CallOk c call) (R : Rl c N S β σ W st a.tmps) {o : Oper} (hd : ∀ t, o.dst = some t → t < N) {g : FuncId} {vs : List V} {xs : Array Value} {v : V} {h' : H} (hcall : call lo g vs st.h = some (v, h')) (hx : L2 (VRel σ W) vs xs.toList)
    (he : (execOp a.eval o).run c.P W = .ok (.enter g xs) W) : o.wp c.P a W (OpPost c N S (.v v) { st with h := h' } o.dst a) Q := by
  unfold Oper.wp
  rw [he]
  show Calls c.P g xs W _
  refine ((hc _ _ _ _ _ _ hcall).2 σ W xs hx R.inv R.glo).mono ?_
  rintro e W' ⟨z, σ', rfl, h1, h2, h3⟩
  exact post_of (Rl.step R h3 h2) h1 hd

theorem wrap_nat {n : Int} (h0 : 0 ≤ n) (h : n < 9223372036854775808) : IntKind.i64.wrap n = n := by
  simp only [IntKind.wrap, IntKind.bits, IntKind.signed]
  have : n % (2 ^ 64 : Int) = n := Int.emod_eq_of_lt h0 (by omega)
  simp only [this]
  rw [if_neg]
  simp; omega

/-- A new row of elements, to be written to or not. -/
theorem row_done (R : Rl c N S β σ W st a.tmps) {o : Oper} (hd : ∀ t, o.dst = some t → t < N) {l : List V} {w : Nat} {arr : Array Value} {e : TypeId} {row : Bool} {x : Ent} {st' : St} (w0 : 0 < w) (hw : ∀ q ∈ l, (cellsOf q).length = w) (hl : L2 (Ck (VRel σ W)) (l.flatMap cellsOf) arr.toList)
    (h : (if row then (if l.length = 0 then some (Ent.v (vs .full w []), st) else some (Ent.v (.msl st.h.length 0 l.length w), push st (.cells (l.flatMap cellsOf)))) else some (Ent.v (vs .full w l), st)) = some (x, st'))
    (hr : (execOp a.eval o).run c.P W = .ok (.value (.slice (some ⟨W.heap.size, 0, none⟩) l.length l.length)) (psh W (.cells arr e))) : o.wp c.P a W (OpPost c N S x st' o.dst a) Q := by
  have hsz : arr.size = l.length * w := by have := hl.1; rw [flat_len hw] at this; simpa using this.symm
  have hcc : ∀ (i : Nat) v, (l.flatMap cellsOf)[i]? = some v → ∃ y, arr[i]? = some y ∧ Ck (VRel σ W) v y := fun i v hv => let ⟨y, hy, r⟩ := hl.get hv; ⟨y, by simpa using hy, r⟩
  have plain : x = .v (vs .full w l) → st' = st → o.wp c.P a W (OpPost c N S x st' o.dst a) Q := by
    rintro rfl rfl
    obtain ⟨I', s', r'⟩ := new_row (st := st') R.inv l w arr e w0 hw (by omega) hcc false l.length (Nat.le_refl _) (by omega) (fun _ => rfl)
    exact wp_val hr (post_of (Rl.step R s' I') (x := .v (vs .full w l)) ((VRel.vs_iff (fun _ => rfl)).2 r') hd)
  split at h
  · split at h
    · rename_i h0
      cases h
      obtain rfl : l = [] := List.length_eq_zero_iff.1 h0
      exact plain rfl rfl
    · rename_i h0
      cases h
      obtain ⟨I', s', l'⟩ := new_box (st := st) R.inv (l.flatMap cellsOf) arr e (by rw [flat_len hw]; omega) hcc
      refine wp_val hr (post_of (Rl.step R s' I') (VRel.msl_iff.2 ⟨_, _, l.length, l', rfl, Nat.le_refl _, w0, by omega, ?_⟩) hd)
      rw [bsize_of psh_new]; omega
  · cases h; exact plain rfl rfl

theorem cellsAt_some {h : H} {b : Nat} {cs : List V} (hcs : cellsAt h b = some cs) : h[b]? = some (.cells cs) := by
  unfold cellsAt at hcs
  split at hcs
  · rename_i q hq; cases hcs; exact hq
  · cases hcs
theorem op_sound (hc : CallOk c call) (R : Rl c N S β σ W st a.tmps) (o : Oper) (hd : ∀ t, o.dst = some t → t < N) {x : Ent} {st' : St} (h : opV c call f lo o.dst st o.op = some (x, st')) : o.wp c.P a W (OpPost c N S x st' o.dst a) Q := by
  obtain ⟨dst, op, type, pos, after, guard⟩ := o
  simp only at h hd ⊢
  cases op with
  | move y => simp only [opV] at h; cases h; exact still R hd ⟨_, rfl, evalE_rel R y⟩
  | assign y => simp only [opV] at h; cases h; exact still R hd ⟨_, rfl, evalE_rel R y⟩
  | pick k p q =>
    simp only [opV] at h
    split at h
    · rename_i b hb
      cases h
      have hk := evalE_rel R k
      rw [hb] at hk
      obtain ⟨e, _⟩ := VRel.s_iff.1 hk
      refine still R hd ⟨if b then a.eval p else a.eval q, ?_, ?_⟩
      · simp only [execOp, e, Sem.run_bind, asBool, Sem.run_pure, Result.andThen_ok]
      · cases b
        · exact evalE_rel R q
        · exact evalE_rel R p
    · cases h
  | alloc t =>
    simp only [opV, Option.bind_eq_bind] at h
    obtain ⟨z, hz, h⟩ := Option.bind_eq_some_iff.1 h
    cases dst with
    | none => cases h
    | some d =>
      obtain ⟨z', rz, vz, uz⟩ := run_zero (σ := σ) (W := W) hz W
      refine wp_val (y := .pointer (some ⟨W.heap.size, 0, none⟩)) (W' := psh W (.cells z'.cells t)) ?_ (newBox_run (e := t) R (newO_or (cells_rel vz uz)) h (cells_rel vz uz) (hd d rfl))
      exact bindv (by simp only [Instr.alloc, Sem.run_bind, rz, Result.andThen_ok, newVar, newRow, run_newObj, Sem.run_pure]; rfl)
  | box t y =>
    simp only [opV, Option.bind_eq_bind] at h
    obtain ⟨v, hv, h⟩ := Option.bind_eq_some_iff.1 h
    split at h
    · cases h
    rename_i hok
    cases dst with
    | none => cases h
    | some d =>
      refine wp_val (y := .pointer (some ⟨W.heap.size, 0, none⟩)) (W' := psh W (.cells (a.eval y).cells t)) ?_ (newBox_run (e := t) R (.inl rfl) h (cells_rel (evalV_rel R hv).1 (by simpa using hok)) (hd d rfl))
      exact bindv (by simp only [Instr.box, Sem.run_bind, newVar, newRow, run_newObj, Result.andThen_ok, Sem.run_pure]; rfl)
  | build t ps =>
    simp only [opV, Option.bind_eq_bind] at h
    obtain ⟨pv, hp, h⟩ := Option.bind_eq_some_iff.1 h
    obtain ⟨v, hv, rfl, rfl⟩ := valE h
    obtain ⟨z, hz, r⟩ := buildV_run R hp hv
    exact still R hd ⟨z, bindv hz, r⟩
  | buildSlice t n ps =>
    simp only [opV, Option.bind_eq_bind] at h
    have h9 := Option.bind_eq_some_iff.1 h; clear h; obtain ⟨e, he, h⟩ := h9
    have h9 := Option.bind_eq_some_iff.1 h; clear h; obtain ⟨w, hw, h⟩ := h9
    have h9 := Option.bind_eq_some_iff.1 h; clear h; obtain ⟨z, hz, h⟩ := h9
    have h9 := Option.bind_eq_some_iff.1 h; clear h; obtain ⟨pv, hp, h⟩ := h9
    split at h
    · cases h
    rename_i hcond
    simp only [ne_eq, not_or, Decidable.not_not, Nat.not_lt, Bool.not_eq_true', Bool.not_eq_false] at hcond
    obtain ⟨w0, hbig, hzl, hps⟩ := hcond
    have hps' : ∀ p ∈ pv, p.1 < n ∧ (cellsOf p.2).length = w ∧ okv p.2 = true := by
      intro p hpm
      have := List.all_eq_true.1 hps p hpm
      simp only [Bool.and_eq_true, decide_eq_true_eq, beq_iff_eq] at this
      exact ⟨this.1.1, this.1.2, this.2⟩
    obtain ⟨z', rz, vz, uz⟩ := run_zero (σ := σ) (W := W) hz W
    have cz := cells_rel vz uz
    obtain ⟨e1, e2⟩ := evalP_rel R hp
    have w0' : 0 < w := Nat.pos_of_ne_zero w0
    obtain ⟨arr, ha, hl1, hl2, hl3⟩ := elems_fill (w := w) (n := n) pv (ps.toList.map fun (i, x) => (i, a.eval x)) (List.replicate n z) _ (by simp) (fun q hq => by rw [(List.mem_replicate.1 hq).2]; exact hzl) (zeros_rel (n := n) cz hzl w0') (by simp [e1]) e2 hps'
    refine row_done (l := elemsV (List.replicate n z) pv) (w := w) (arr := arr) (e := e) (row := isRow c f dst) R hd w0' hl2 hl3 ?_ ?_
    · rw [hl1]
      by_cases hr : isRow c f dst = true <;> simp only [hr, if_true, if_false, Bool.false_eq_true] at h ⊢
      · by_cases hn : n = 0 <;> simp only [hn, if_true, if_false, Option.map_some] at h ⊢ <;> exact h
      · exact h
    · rw [hl1]
      refine bindv ?_
      simp only [Instr.buildSlice, Sem.run_bind, run_und (elemOf_spec he), Result.andThen_ok, run_size hw]
      rw [if_neg (by omega)]
      have e0 : ∀ g : Nat → Value, (Array.range 0).map g = #[] := fun g => by simp
      by_cases hn : n * w = 0
      · rw [hn, e0] at ha
        simp only [hn, if_true, Sem.run_bind, Sem.run_pure, Result.andThen_ok, e0, map_pairs, ha, newRow, run_newObj]
        rfl
      · simp only [hn, if_false, Sem.run_bind, rz, Sem.run_pure, Result.andThen_ok, map_pairs, ha, newRow, run_newObj]
        rfl
  | load t y =>
    simp only [opV] at h
    obtain ⟨v, hv, rfl, rfl⟩ := valE h
    obtain ⟨z, hz, r⟩ := loadAt_run R (evalE_rel R y) hv
    exact still R hd ⟨z, bindv hz, r⟩
  | store t y z =>
    simp only [opV, Option.bind_eq_bind] at h
    obtain ⟨v, hv, h⟩ := Option.bind_eq_some_iff.1 h
    obtain ⟨st1, hs, h⟩ := Option.bind_eq_some_iff.1 h
    cases h
    obtain ⟨W', hr, R'⟩ := storeAt_run R (evalE_rel R y) (evalV_rel R hv).1 hs
    refine wp_skp (W' := W') ?_ (post_of R' VRel.undef hd)
    simp only [execOp, Sem.run_bind, hr, Result.andThen_ok, Sem.run_pure]
  | nilCheck y =>
    simp only [opV] at h
    have hy := evalE_rel R y
    split at h <;> first | (cases h; done) | skip
    · rename_i t off e; cases h; rw [e] at hy; obtain ⟨k, hk, ey⟩ := hy
      exact still R hd ⟨a.eval y, by simp only [execOp]; rw [ey]; rfl, k, hk, ey⟩
    · rename_i b off e; cases h; rw [e] at hy; obtain ⟨k, d, hk, ey⟩ := VRel.ptr_iff.1 hy
      exact still R hd ⟨a.eval y, by simp only [execOp]; rw [ey]; rfl, hy⟩
    · rename_i cs e; cases h; rw [e] at hy; obtain ⟨k, d, m, ey, _⟩ := VRel.vptr_iff.1 hy
      exact still R hd ⟨a.eval y, by simp only [execOp]; rw [ey]; rfl, hy⟩
    · rename_i g p q e; cases h; rw [e] at hy; obtain ⟨xs, ys, ey, _⟩ := VRel.fn_iff.1 hy
      exact still R hd ⟨a.eval y, by simp only [execOp]; rw [ey]; rfl, hy⟩
  | binOp bop t y z yt =>
    simp only [opV, Option.bind_eq_bind] at h
    obtain ⟨v1, hv1, h⟩ := Option.bind_eq_some_iff.1 h
    obtain ⟨v2, hv2, h⟩ := Option.bind_eq_some_iff.1 h
    split at h
    · cases h
    rename_i hn
    obtain ⟨v, hv, rfl, rfl⟩ := valE h
    obtain ⟨r1, u1⟩ := evalV_rel R hv1
    obtain ⟨r2, u2⟩ := evalV_rel R hv2
    obtain ⟨zz, hz, r⟩ := binOpV_run (ox := y) (oy := z) hv r1 r2 u2 (by simpa using hn) W
    exact still R hd ⟨zz, bindv hz, r⟩
  | unOp uop t y =>
    simp only [opV, Option.bind_eq_bind] at h
    obtain ⟨v1, hv1, h⟩ := Option.bind_eq_some_iff.1 h
    obtain ⟨v, hv, rfl, rfl⟩ := valE h
    obtain ⟨zz, hz, r⟩ := unV_run (c := c) hv (evalV_rel R hv1).1 W
    exact still R hd ⟨zz, bindv hz, r⟩
  | convert s d y =>
    simp only [opV, Option.bind_eq_bind] at h
    obtain ⟨v1, hv1, h⟩ := Option.bind_eq_some_iff.1 h
    obtain ⟨v, hv, rfl, rfl⟩ := valE h
    obtain ⟨zz, hz, r⟩ := convV_run hv (evalV_rel R hv1).1
    exact still R hd ⟨zz, bindv hz, r⟩
  | makeInterface t y =>
    simp only [opV, Option.bind_eq_bind] at h
    obtain ⟨v1, hv1, h⟩ := Option.bind_eq_some_iff.1 h
    split at h
    · cases h
    · rename_i u hni hu
      obtain ⟨v, hv, rfl, rfl⟩ := valE h
      cases hv
      refine still R hd ⟨.iface t (a.eval y), bindv ?_, VRel.ifc_iff.2 ⟨_, rfl, (evalV_rel R hv1).1⟩⟩
      simp only [Instr.makeInterface, Sem.run_bind, run_und hu, Result.andThen_ok]
      cases u <;> first | rfl | exact absurd rfl (hni _)
    · cases h
  | makeFunc g p q =>
    simp only [opV, Option.bind_eq_bind] at h
    obtain ⟨l1, hl1, h⟩ := Option.bind_eq_some_iff.1 h
    obtain ⟨l2, hl2, h⟩ := Option.bind_eq_some_iff.1 h
    obtain ⟨v, hv, rfl, rfl⟩ := valE h
    cases hv
    refine still R hd ⟨.func g (p.map a.eval) (q.map a.eval), bindv rfl, VRel.fn_iff.2 ⟨_, _, rfl, ?_, ?_⟩⟩
    · simpa using evalL_rel R hl1
    · simpa using evalL_rel R hl2
  | makeMap t r =>
    cases r with
    | none =>
      simp only [opV] at h
      cases h
      obtain ⟨I', s', hl'⟩ := new_map (st := st) R.inv
      refine wp_val (y := .map (some W.heap.size)) (W' := psh W (.map #[] 0)) (bindv rfl) (post_of (Rl.step R s' I') (VRel.map_iff.2 ⟨_, hl', rfl⟩) hd)
    | some _ => simp [opV] at h
  | makeSlice t l k =>
    simp only [opV, Option.bind_eq_bind] at h
    have h9 := Option.bind_eq_some_iff.1 h; clear h; obtain ⟨e, he, h⟩ := h9
    have h9 := Option.bind_eq_some_iff.1 h; clear h; obtain ⟨w, hw, h⟩ := h9
    have h9 := Option.bind_eq_some_iff.1 h; clear h; obtain ⟨z, hz, h⟩ := h9
    have h9 := Option.bind_eq_some_iff.1 h; clear h; obtain ⟨v1, hv1, h⟩ := h9
    have h9 := Option.bind_eq_some_iff.1 h; clear h; obtain ⟨v2, hv2, h⟩ := h9
    generalize hby : ((c.P.info? e).map (·.bytes)).getD 0 = by_ at h
    split at h
    case h_2 => cases h
    rename_i n m
    obtain ⟨x1, _⟩ := VRel.s_iff.1 (evalV_rel R hv1).1
    obtain ⟨x2, _⟩ := VRel.s_iff.1 (evalV_rel R hv2).1
    split at h
    · cases h
    rename_i hcond
    simp only [ne_eq, not_or, Decidable.not_not, Nat.not_lt, Int.not_lt] at hcond
    obtain ⟨n0, rfl, w0, b0, hbig, hzl⟩ := hcond
    have w0' : 0 < w := Nat.pos_of_ne_zero w0
    obtain ⟨z', rz, vz, uz⟩ := run_zero (σ := σ) (W := W) hz W
    have cz := cells_rel vz uz
    have hzr := zeros_rel (n := m.toNat) cz hzl w0'
    have hrep : ∀ q ∈ List.replicate m.toNat z, (cellsOf q).length = w := fun q hq => by rw [(List.mem_replicate.1 hq).2]; exact hzl
    have hm46 : m.toNat ≤ mostLen := Nat.le_trans (Nat.le_mul_of_pos_right _ (Nat.pos_of_ne_zero b0)) hbig
    have hwr : IntKind.i64.wrap m = m := wrap_nat n0 (by unfold mostLen at hm46; omega)
    obtain ⟨i, hi⟩ : ∃ i, c.P.info? e = some i := by
      cases hi : c.P.info? e with
      | none => simp [szOf, hi] at hw
      | some i => exact ⟨i, rfl⟩
    have hbi : i.bytes = by_ := by rw [hi] at hby; simpa using hby
    have hlen : (List.replicate m.toNat z).length = m.toNat := by simp
    refine row_done (l := List.replicate m.toNat z) (w := w) (arr := _) (e := e) (row := isRow c f dst) R hd w0' hrep hzr ?_ ?_
    · rw [hlen]
      by_cases hm : m = 0
      · subst hm
        simp only [if_true, Option.map_some] at h
        cases h
        by_cases hr : isRow c f dst = true <;> simp [hr]
      · have hm' : m.toNat ≠ 0 := by omega
        simp only [hm, if_false] at h
        by_cases hr : isRow c f dst = true <;> simp only [hr, hm', if_true, if_false, Bool.false_eq_true, Option.map_some] at h ⊢ <;> exact h
    · rw [hlen]
      refine bindv ?_
      have hnl : ¬ ((i.bytes : Int) * m > 2 ^ 48) := by
        rw [hbi]
        have : (by_ : Int) * m = ((m.toNat * by_ : Nat) : Int) := by rw [Nat.mul_comm]; push_cast; rw [Int.toNat_of_nonneg n0]
        rw [this]; unfold mostLen at hbig; omega
      simp only [Instr.makeSlice, Sem.run_bind, run_und (elemOf_spec he), Result.andThen_ok, x1, x2, asInt, asIntOf, Sem.run_pure, run_info hi, hwr]
      have hc1 : (decide (m < 0) || decide ((i.bytes : Int) * m > 2 ^ 48)) = false := by simp; omega
      simp only [hc1, Bool.false_or, Bool.or_eq_true, decide_eq_true_eq]
      rw [if_neg (by omega)]
      simp only [Sem.run_bind, run_askRoom, Result.andThen_ok, run_size hw]
      by_cases hm : m.toNat * w = 0
      · have e0 : ∀ g : Nat → Value, (Array.range 0).map g = #[] := fun g => by simp
        simp only [hm, if_true, Sem.run_pure, Result.andThen_ok, newRow, Sem.run_bind, run_newObj, e0]
        rfl
      · simp only [hm, if_false, Sem.run_bind, rz, Sem.run_pure, Result.andThen_ok, newRow, run_newObj]
        rfl
  | slice t y l hh m =>
    simp only [opV, Option.bind_eq_bind] at h
    have h9 := Option.bind_eq_some_iff.1 h; clear h; obtain ⟨v1, hv1, h⟩ := h9
    have h9 := Option.bind_eq_some_iff.1 h; clear h; obtain ⟨o1, ho1, h⟩ := h9
    have h9 := Option.bind_eq_some_iff.1 h; clear h; obtain ⟨o2, ho2, h⟩ := h9
    have h9 := Option.bind_eq_some_iff.1 h; clear h; obtain ⟨o3, ho3, h⟩ := h9
    obtain ⟨v, hv, rfl, rfl⟩ := valE h
    have hx1 := (evalV_rel R hv1).1
    by_cases hp : ∃ b off, v1 = .ptr b off
    · obtain ⟨b, off, rfl⟩ := hp
      simp only [sliceW] at hv
      split at hv
      case isFalse => cases hv
      rename_i hno
      simp only [Bool.and_eq_true, Option.isNone_iff_eq_none] at hno
      obtain ⟨⟨rfl, rfl⟩, rfl⟩ := hno
      obtain ⟨cc, d, hl, ex⟩ := VRel.ptr_iff.1 hx1
      unfold slicePV at hv
      split at hv
      case h_2 => cases hv
      rename_i n e hu2
      simp only [Option.bind_eq_bind] at hv
      obtain ⟨w, hw, hv⟩ := Option.bind_eq_some_iff.1 hv
      obtain ⟨cs, hcs, hv⟩ := Option.bind_eq_some_iff.1 hv
      split at hv
      case isFalse => cases hv
      rename_i hc
      cases hv
      obtain ⟨arr, e', hk, hs, _, _⟩ := R.inv.box b cs cc d (cellsAt_some hcs) hl
      have o1 : l.map a.eval = none := (evalO_rel R ho1).2 rfl
      have o2 : hh.map a.eval = none := (evalO_rel R ho2).2 rfl
      have o3 : m.map a.eval = none := (evalO_rel R ho3).2 rfl
      refine still R hd ⟨.slice (some ⟨cc, d + off, none⟩) n n, bindv ?_, VRel.msl_iff.2 ⟨cc, d, n, hl, rfl, Nat.le_refl _, hc.2.1, hc.1, by rw [bsize_of hk]; omega⟩⟩
      have hn0 : ¬ n = 0 := by omega
      rw [ex, o1, o2, o3]
      simp only [Instr.sliceAt, Sem.run_bind, Result.andThen_ok, Instr.sureAddr, Sem.run_pure, run_und hu2, Instr.sliceBounds, run_size hw, Nat.zero_mul, Nat.sub_zero, if_neg hn0, Go.AM.add_mk, Nat.add_zero]
    have hv : sliceV c t v1 o1 o2 o3 = some v := by
      cases v1 <;> first | exact hv | exact absurd ⟨_, _, rfl⟩ hp
    obtain ⟨zz, hz, r⟩ := sliceV_run hv hx1 (evalO_rel R ho1) (evalO_rel R ho2) (evalO_rel R ho3)
    exact still R hd ⟨zz, bindv hz, r⟩
  | fieldAddr t y i =>
    simp only [opV] at h
    obtain ⟨e, he, h⟩ := Option.map_eq_some_iff.1 h
    cases h
    obtain ⟨z, hz, r⟩ := fieldAddrV_run he (evalE_rel R y) W
    exact still R hd ⟨z, bindv hz, r⟩
  | field t y i =>
    simp only [opV, Option.bind_eq_bind] at h
    obtain ⟨v1, hv1, h⟩ := Option.bind_eq_some_iff.1 h
    obtain ⟨v, hv, rfl, rfl⟩ := valE h
    obtain ⟨zz, hz, r⟩ := fieldV_run hv (evalV_rel R hv1).1 W
    exact still R hd ⟨zz, bindv hz, r⟩
  | indexAddr t y i =>
    simp only [opV, Option.bind_eq_bind] at h
    obtain ⟨v1, hv1, h⟩ := Option.bind_eq_some_iff.1 h
    obtain ⟨e, he, h⟩ := Option.map_eq_some_iff.1 h
    cases h
    obtain ⟨z, hz, r⟩ := indexAddrV_run he (evalE_rel R y) (evalV_rel R hv1).1 W
    exact still R hd ⟨z, bindv hz, r⟩
  | index t y i =>
    simp only [opV, Option.bind_eq_bind] at h
    obtain ⟨v1, hv1, h⟩ := Option.bind_eq_some_iff.1 h
    obtain ⟨v2, hv2, h⟩ := Option.bind_eq_some_iff.1 h
    obtain ⟨v, hv, rfl, rfl⟩ := valE h
    obtain ⟨zz, hz, r⟩ := indexV_run hv (evalV_rel R hv1).1 (evalV_rel R hv2).1 W
    exact still R hd ⟨zz, bindv hz, r⟩
  | extract t i =>
    simp only [opV] at h
    split at h
    · rename_i vs e
      obtain ⟨v, hv, rfl, rfl⟩ := valE h
      have hy := evalE_rel R t
      rw [e] at hy
      obtain ⟨xs, ey, hl⟩ := VRel.tup_iff.1 hy
      obtain ⟨z, hz, r⟩ := hl.get hv
      refine still R hd ⟨z, bindv ?_, r⟩
      rw [ey]
      have hz' : xs[i]? = some z := by simpa using hz
      simp only [Instr.extract, hz']; rfl
    · cases h
  | call k =>
    obtain ⟨callee, args, argTypes⟩ := k
    cases callee with
    | builtin b =>
      have red : ∀ (v : Sem Value) {z : Value} {W' : World}, (builtin b argTypes type (args.map fun | .const _ => true | _ => false) (args.map a.eval) = do pure (.value (← v))) → v.run c.P W = .ok z W' →
          (execOp a.eval ⟨dst, .call ⟨.builtin b, args, argTypes⟩, type, pos, after, guard⟩).run c.P W = .ok (.value z) W' := by
        intro v z W' he hr
        have : execOp a.eval ⟨dst, .call ⟨.builtin b, args, argTypes⟩, type, pos, after, guard⟩ = builtin b argTypes type (args.map fun | .const _ => true | _ => false) (args.map a.eval) := rfl
        rw [this, he]
        exact bindv hr
      cases b with
      | len =>
        simp only [opV] at h
        split at h
        · rename_i y t hargs ht
          simp only [Option.bind_eq_bind] at h
          obtain ⟨v1, hv1, h⟩ := Option.bind_eq_some_iff.1 h
          obtain ⟨v, hv, rfl, rfl⟩ := valE h
          obtain ⟨z, hz, r⟩ := lenV_run (ty := type) hv (evalV_rel R hv1).1 R.inv ht
          have ha : args.map a.eval = #[a.eval y] := by apply Array.ext'; simp [hargs]
          exact still R hd ⟨z, red _ rfl (by rw [ha]; exact hz), r⟩
        · cases h
      | append =>
        simp only [opV] at h
        split at h
        · rename_i y yy t hargs ht
          simp only [Option.bind_eq_bind] at h
          split at h
          · cases h
          rename_i hpl
          obtain ⟨v1, hv1, h⟩ := Option.bind_eq_some_iff.1 h
          obtain ⟨v2, hv2, h⟩ := Option.bind_eq_some_iff.1 h
          obtain ⟨⟨v, st1⟩, hv, h⟩ := Option.bind_eq_some_iff.1 h
          cases h
          obtain ⟨z, W', σ', hz, r, I', s', est⟩ := appendV_run (ty := type) hv (evalV_rel R hv1).1 (evalV_rel R hv2).1 R.inv ht (by simpa using hpl)
          have ha : args.map a.eval = #[a.eval y, a.eval yy] := by apply Array.ext'; simp [hargs]
          refine wp_val (W' := W') (y := z) (red _ rfl (by rw [ha]; exact hz)) (post_of (β' := β) ?_ r hd)
          have := Rl.step R s' I'
          rw [← est] at this; exact this
        · cases h
      | min =>
        simp only [opV, Option.bind_eq_bind] at h
        obtain ⟨vs, hvs, h⟩ := Option.bind_eq_some_iff.1 h
        obtain ⟨v, hv, rfl, rfl⟩ := valE h
        obtain ⟨z, hz, r⟩ := minmax_run (c := c) (mx := false) (xs := args.map a.eval) (ts := argTypes) (ty := type) hv (by simpa using evalL_rel R hvs) W
        exact still R hd ⟨z, red _ rfl (by simpa using hz), r⟩
      | max =>
        simp only [opV, Option.bind_eq_bind] at h
        obtain ⟨vs, hvs, h⟩ := Option.bind_eq_some_iff.1 h
        obtain ⟨v, hv, rfl, rfl⟩ := valE h
        obtain ⟨z, hz, r⟩ := minmax_run (c := c) (mx := true) (xs := args.map a.eval) (ts := argTypes) (ty := type) hv (by simpa using evalL_rel R hvs) W
        exact still R hd ⟨z, red _ rfl (by simpa using hz), r⟩
      | _ => simp [opV] at h
    | value g =>
      simp only [opV, Option.bind_eq_bind] at h
      obtain ⟨fv, hfv, h⟩ := Option.bind_eq_some_iff.1 h
      obtain ⟨vs, hvs, h⟩ := Option.bind_eq_some_iff.1 h
      obtain ⟨⟨g', args'⟩, htg, h⟩ := Option.bind_eq_some_iff.1 h
      obtain ⟨⟨v, h'⟩, hcall, h⟩ := Option.bind_eq_some_iff.1 h
      cases h
      obtain ⟨first, cap, e1, e2⟩ := target_run htg (evalV_rel R hfv).1
      have hx := e2 (args.map a.eval) (by simpa using evalL_rel R hvs)
      refine call_sound hc R hd hcall hx ?_
      simp only [execOp, resolve, Sem.run_bind, e1, Deferred.ofValue, Sem.run_pure, Result.andThen_ok, invoke]
      exact (hc _ _ _ _ _ _ hcall).1 _ _
    | invoke r m =>
      simp only [opV, Option.bind_eq_bind] at h
      obtain ⟨fv, hfv, h⟩ := Option.bind_eq_some_iff.1 h
      split at h
      · rename_i t v0
        obtain ⟨g', hg, h⟩ := Option.bind_eq_some_iff.1 h
        obtain ⟨vs, hvs, h⟩ := Option.bind_eq_some_iff.1 h
        obtain ⟨⟨v, h'⟩, hcall, h⟩ := Option.bind_eq_some_iff.1 h
        cases h
        obtain ⟨y, e1, ry⟩ := VRel.ifc_iff.1 (evalV_rel R hfv).1
        have hvs' := evalL_rel R hvs
        refine call_sound (xs := #[y] ++ args.map a.eval) hc R hd hcall ?_ ?_
        · refine ⟨by simp [hvs'.1], fun i p q hp hq => ?_⟩
          cases i with
          | zero => simp at hp hq; subst hp; subst hq; exact ry
          | succ i => exact hvs'.2 i p q (by simpa using hp) (by simpa using hq)
        · simp only [execOp, resolve, Sem.run_bind, Sem.run_pure, Result.andThen_ok, invoke, e1]
          have hget : (#[Value.iface t y] ++ args.map a.eval)[0]? = some (Value.iface t y) := by rw [Array.getElem?_append_left (by simp)]; rfl
          have hrest : (#[Value.iface t y] ++ args.map a.eval).extract 1 (#[Value.iface t y] ++ args.map a.eval).size = args.map a.eval := by
            apply Array.ext'; rw [Array.toList_extract]; simp [List.extract, List.take_of_length_le]
          split
          · rename_i recv hrecv
            rw [hget] at hrecv
            cases hrecv
            rw [hrest]
            exact methodOf_run hg _ _ ((hc _ _ _ _ _ _ hcall).1 _ _)
          · rename_i hrecv
            exact absurd hget (hrecv _)
      · cases h
  | _ => simp [opV] at h
end
end Go.AM
namespace Go.AM

def dstsOk (N : Nat) (ops : Array Oper) : Bool := ops.toList.all fun o => match o.dst with | some d => decide (d < N) | none => true
/-- Whatever an operation waits for stands ahead of it. -/
def backOk (ops : Array Oper) : Bool := ops.toList.zipIdx.all fun (o, i) => o.after.all fun e => !Region.binds .any e || decide (e.on < i)
/-- Each slot that is written is there. -/
def wfC (N : Nat) : Code → Bool
  | .region _ ops d => dstsOk N ops && (!d || backOk ops)
  | .seq a b => wfC N a && wfC N b
  | .cond _ a b => wfC N a && wfC N b
  | .block _ a => wfC N a
  | .loop a => wfC N a
  | .scope a => wfC N a
  | _ => true

section
variable {c : Cx} {call : Nat → FuncId → List V → H → Option (V × H)} {f lo N : Nat} {S : Snap} {β : Nat → Option Nat} {σ : Sg} {W : World} {st : St} {a : Act}

/-- How an end is told. -/
def XM : X → Exit → Prop
  | .normal, .normal => True
  | .exit i, .exit j => i = j
  | .ret, .ret => True
  | _, _ => False

/-- Behind a piece of code. -/
def Out (c : Cx) (N : Nat) (S : Snap) (x : X) (st' : St) : Exit → Act → World → Prop := fun e a' W' => XM x e ∧ a'.defers = [] ∧ ∃ β' σ', Rl c N S β' σ' W' st' a'.tmps

theorem yielded_of (R : Rl c N S β σ W st a.tmps) {ops : Array Oper} {g : Option (Nat × Bool)} {b : Bool} (h : guardV ops st g = some b) (hN : ∀ (j : Nat) t, (ops[j]?).bind Oper.dst = some t → t < N) {o : Oper} (ho : o.guard = g) : Region.wanted o (yielded ops a.tmps) = b := by
  unfold Region.wanted
  rw [ho]
  unfold guardV at h
  cases g with
  | none => simp at h; simp [h]
  | some p =>
    obtain ⟨j, w⟩ := p
    simp only at h ⊢
    split at h
    · rename_i t ht
      have hlt := hN j t ht
      have htm : a.tmps[t]? = some (a.tmps.getD t Go.undef) := by
        rw [Array.getD_eq_getD_getElem?, Array.getElem?_eq_getElem (by rw [R.fr.size]; exact hlt)]; rfl
      have hr := R.fr.env t
      unfold yielded
      rw [ht, Option.bind_some, htm]
      split at h
      · rename_i q hq
        rw [hq] at hr
        obtain ⟨e, _⟩ := VRel.s_iff.1 hr
        rw [e]
        cases h
        cases q <;> cases w <;> rfl
      · rename_i l hq
        rw [hq] at hr
        obtain ⟨xs, e, _⟩ := VRel.tup_iff.1 hr
        rw [e]
        cases h
        rfl
      · cases h
    · cases h

theorem dst_lt {ops : Array Oper} (hw : dstsOk N ops = true) {j : Nat} {o : Oper} (hj : ops[j]? = some o) : ∀ t, o.dst = some t → t < N := by
  intro t ht
  have := List.all_eq_true.1 hw o (by rw [← Array.mem_def]; exact Array.mem_of_getElem? hj)
  rw [ht] at this
  simpa using this

/-- The operations of a region in the order of the text. -/
theorem ops_sound (hc : CallOk c call) {ops : Array Oper} (hw : dstsOk N ops = true) {Q : Exit → Act → World → Prop} : ∀ (l : List Oper) (k : Nat) (st st' : St) (a : Act) (W : World) (β : Nat → Option Nat) (σ : Sg),
    (∀ j, l[j]? = ops[k + j]?) → opsV c call f lo ops l st = some st' → Rl c N S β σ W st a.tmps → a.defers = [] → (∀ a' W' β' σ', Rl c N S β' σ' W' st' a'.tmps → a'.defers = [] → Q .normal a' W') →
    wpOps c.P ops Q (List.range' k l.length) a W
  | [], k, st, st', a, W, β, σ, _, h, R, hd, hQ => by cases h; exact hQ _ _ _ _ R hd
  | o :: l, k, st, st', a, W, β, σ, hl, h, R, hd, hQ => by
    have ho : ops[k]? = some o := by simpa using (hl 0).symm
    have hN : ∀ (j : Nat) t, (ops[j]?).bind Oper.dst = some t → t < N := by
      intro j t hj
      obtain ⟨oj, h1, h2⟩ := Option.bind_eq_some_iff.1 hj
      exact dst_lt hw h1 t h2
    have hdo := dst_lt hw ho
    have hl' : ∀ j, l[j]? = ops[k + 1 + j]? := fun j => by have := hl (j + 1); simpa [Nat.add_assoc, Nat.add_comm 1 j] using this
    rw [List.length_cons, List.range'_succ]
    simp only [wpOps, ho]
    simp only [opsV] at h
    cases hg : guardV ops st o.guard with
    | none => rw [hg] at h; cases h
    | some b =>
      rw [hg] at h
      rw [yielded_of R hg hN rfl]
      cases b with
      | true =>
        simp only [if_true]
        simp only at h
        cases hv : opV c call f lo o.dst st o.op with
        | none => rw [hv] at h; cases h
        | some p =>
          obtain ⟨x, st1⟩ := p
          rw [hv] at h
          refine .inl ?_
          have := op_sound (Q := Q) hc R o hdo hv
          refine Oper.wp_mono (K := OpPost c N S x st1 o.dst a) ?_ this
          rintro a1 W1 ⟨β1, σ1, y, rfl, R1⟩
          exact ops_sound hc hw l (k + 1) _ st' _ W1 β1 σ1 hl' h R1 (by cases o.dst <;> exact hd) hQ
      | false =>
        simp only [Bool.false_eq_true, if_false]
        simp only at h
        have R1 := R.put (a := a) (dst := o.dst) (x := .v (.tup [])) (y := Go.undef) (VRel.tup_iff.2 ⟨#[], rfl, by simp [L2]⟩) hdo
        exact ops_sound hc hw l (k + 1) _ st' _ W β σ hl' h R1 (by cases o.dst <;> exact hd) hQ

theorem wp_loop_n {P : Program} {Q : Exit → Act → World → Prop} {w : World} {code : Code} (I : Nat → Act → World → Prop) (h0 : ∀ a w, ¬ I 0 a w)
    (round : ∀ n a w, I (n + 1) a w → code.wp P (Exit.then (I n) Q) a w) {n : Nat} (h : I n a w) : (Code.loop code).wp P Q a w := by
  intro b k cs
  have key : ∀ n a w, I n a w → ∃ e a' w', Q e a' w' ∧ Arrives P (lone (b.at a (.code code :: .inLoop code :: k)) cs w) b k cs e a' w' := by
    intro n
    induction n with
    | zero => intro a w h; exact absurd h (h0 a w)
    | succ n ih =>
      intro a w hI
      obtain ⟨e, a₁, w₁, hq, harr⟩ := round n a w hI b (.inLoop code :: k) cs
      cases e with
      | normal =>
        obtain ⟨e₂, a₂, w₂, hq₂, harr₂⟩ := ih a₁ w₁ hq
        exact ⟨e₂, a₂, w₂, hq₂, .of_steps (Steps.trans harr (.one step_inLoop)) harr₂⟩
      | exit id => exact ⟨_, a₁, w₁, hq, .pass (x := .inLoop code) rfl (fun _ _ => .inl (by simp)) harr⟩
      | goto l => exact ⟨_, a₁, w₁, hq, .pass (x := .inLoop code) rfl (fun _ _ => .inl (by simp)) harr⟩
      | ret => exact ⟨_, a₁, w₁, hq, .pass (x := .inLoop code) rfl (fun _ _ => .inl (by simp)) harr⟩
      | panic ch => exact ⟨_, a₁, w₁, hq, .pass (x := .inLoop code) rfl (fun _ _ => .inl (by simp)) harr⟩
      | outgrown => exact ⟨_, a₁, w₁, hq, .pass (x := .inLoop code) rfl (fun _ _ => .inl (by simp)) harr⟩
  obtain ⟨e, a', w', hq, harr⟩ := key n a w h
  exact ⟨e, a', w', hq, .of_steps (.one step_loop) harr⟩

theorem getE_head (l : List Nat) (env r : List (Nat × Ent)) (t : Nat) : getE (l.map (fun t => (t, getE env t)) ++ r) t = if t ∈ l then getE env t else getE r t := by
  induction l with
  | nil => simp
  | cons x l ih =>
    simp only [List.map_cons, List.cons_append, getE]
    by_cases hx : x = t
    · subst hx; simp
    · rw [if_neg hx, ih]; simp [Ne.symm hx]
theorem getE_filterK (D : List Nat) (t : Nat) : ∀ env : List (Nat × Ent), getE (env.filter (fun p => !D.contains p.1)) t = if t ∈ D then .v .undef else getE env t
  | [] => by simp [getE]
  | (k, x) :: env => by
    by_cases hk : k ∈ D
    · rw [List.filter_cons_of_neg (by simpa using hk), getE_filterK D t env]
      by_cases ht : t ∈ D
      · simp [ht]
      · have : k ≠ t := by rintro rfl; exact ht hk
        simp [ht, getE, this]
    · rw [List.filter_cons_of_pos (by simpa using hk)]
      simp only [getE, getE_filterK D t env]
      by_cases hkt : k = t
      · subst hkt; simp [hk]
      · simp [hkt]
theorem getB_filterK (D : List Nat) (t : Nat) : ∀ lb : List (Nat × List V), getB (lb.filter (fun p => !D.contains p.1)) t = if t ∈ D then none else getB lb t
  | [] => by simp [getB]
  | (k, x) :: lb => by
    by_cases hk : k ∈ D
    · rw [List.filter_cons_of_neg (by simpa using hk), getB_filterK D t lb]
      by_cases ht : t ∈ D
      · simp [ht]
      · have : k ≠ t := by rintro rfl; exact ht hk
        simp [ht, getB, this]
    · rw [List.filter_cons_of_pos (by simpa using hk)]
      simp only [getB, getB_filterK D t lb]
      by_cases hkt : k = t
      · subst hkt; simp [hk]
      · simp [hkt]

theorem Rl.head (R : Rl c N S β σ W st a.tmps) (cr : List Nat × List Nat × List Nat) : Rl c N S β σ W (headSt cr st) a.tmps := by
  refine ⟨⟨R.fr.size, fun t => ?_, fun t cs hcs => ?_, R.fr.own, R.fr.inj⟩, R.inv, R.stp, R.glo⟩
  · show ER β σ W (getE (_ ++ _) t) _
    rw [getE_head, getE_filterK]
    split
    · exact R.fr.env t
    · split
      · exact VRel.undef
      · exact R.fr.env t
  · have : getB (st.lb.filter (fun p => !cr.2.2.contains p.1)) t = some cs := hcs
    rw [getB_filterK] at this
    split at this
    · cases this
    · exact R.fr.lb t cs this

theorem loop_sound {blk k : Nat} {code : Code} {cr : List Nat × List Nat × List Nat} {body : St → Option (X × St)} (hb : ∀ st x st' β σ W (a : Act), body st = some (x, st') → Rl c N S β σ W st a.tmps → a.defers = [] → code.wp c.P (Out c N S x st') a W)
    {x : X} {st' : St} (h : loopV body cr k (headSt cr st) = some (x, st')) (R : Rl c N S β σ W st a.tmps) (hd : a.defers = []) : (Code.loop code).wp c.P (Out c N S x st') a W := by
  refine wp_loop_n (fun n a W => ∃ st β σ, loopV body cr n st = some (x, st') ∧ Rl c N S β σ W st a.tmps ∧ a.defers = []) ?_ ?_ ⟨_, β, σ, h, R.head cr, hd⟩
  · rintro a w ⟨st, β, σ, h, _⟩; cases h
  · rintro n a w ⟨st, β, σ, h, R, hd⟩
    simp only [loopV] at h
    cases hbs : body st with
    | none => rw [hbs] at h; cases h
    | some p =>
      obtain ⟨x1, st1⟩ := p
      rw [hbs] at h
      refine wp_mono (hb st x1 st1 β σ w a hbs R hd) ?_
      rintro e a1 w1 ⟨hx, hd1, β1, σ1, R1⟩
      cases x1 with
      | normal =>
        cases e <;> simp [XM] at hx
        exact ⟨_, β1, σ1, h, R1.head cr, hd1⟩
      | exit i =>
        cases h
        cases e <;> simp [XM] at hx
        subst hx
        exact ⟨rfl, hd1, β1, σ1, R1⟩
      | ret =>
        cases h
        cases e <;> simp [XM] at hx
        exact ⟨trivial, hd1, β1, σ1, R1⟩

/-- What is asked of a region that draws its order. -/
def DrawOk (c : Cx) (call : Nat → FuncId → List V → H → Option (V × H)) : Prop :=
  ∀ (f lo N : Nat) (S : Snap) (ops : Array Oper) (id : Nat) (st st' : St) (β : Nat → Option Nat) (σ : Sg) (W : World) (a : Act), dstsOk N ops = true → backOk ops = true → opsV c call f lo ops ops.toList st = some st' →
    indep (Region.before ops) st.env (footV c call f lo ops ops.toList st) = true → Rl c N S β σ W st a.tmps → a.defers = [] → (Code.region id ops true).wp c.P (Out c N S .normal st') a W

theorem exec_sound (hc : CallOk c call) (hdr : DrawOk c call) (k : Nat) : ∀ (code : Code) (blk : Nat) (st : St) (x : X) (st' : St) (β : Nat → Option Nat) (σ : Sg) (W : World) (a : Act), wfC N code = true →
    exec c call f lo k blk code st = some (x, st') → Rl c N S β σ W st a.tmps → a.defers = [] → code.wp c.P (Out c N S x st') a W
  | .skip, blk, st, x, st', β, σ, W, a, _, h, R, hd => by cases h; exact wp_skip ⟨trivial, hd, β, σ, R⟩
  | .region id ops true, blk, st, x, st', β, σ, W, a, hw, h, R, hd => by
    simp only [exec] at h
    split at h
    · rename_i hi
      obtain ⟨st1, h1, h2⟩ := Option.map_eq_some_iff.1 h
      cases h2
      simp only [wfC, Bool.and_eq_true, Bool.not_true, Bool.false_or] at hw
      exact hdr f lo N S ops id st _ β σ W a hw.1 hw.2 h1 hi R hd
    · cases h
  | .region id ops false, blk, st, x, st', β, σ, W, a, hw, h, R, hd => by
    simp only [exec] at h
    obtain ⟨st1, h1, h2⟩ := Option.map_eq_some_iff.1 h
    cases h2
    simp only [wfC, Bool.and_eq_true] at hw
    refine wp_region ?_
    have := ops_sound (Q := Out c N S .normal st') hc hw.1 ops.toList 0 st st' a W β σ (fun j => by simp) h1 R hd (fun a' W' β' σ' R' hd' => ⟨trivial, hd', β', σ', R'⟩)
    rw [List.range_eq_range']
    simpa using this
  | .seq p q, blk, st, x, st', β, σ, W, a, hw, h, R, hd => by
    simp only [exec] at h
    simp only [wfC, Bool.and_eq_true] at hw
    cases hp : exec c call f lo k blk p st with
    | none => rw [hp] at h; cases h
    | some r =>
      obtain ⟨x1, st1⟩ := r
      rw [hp] at h
      refine wp_seq (wp_mono (exec_sound hc hdr k p blk st x1 st1 β σ W a hw.1 hp R hd) ?_)
      rintro e a1 w1 ⟨hx, hd1, β1, σ1, R1⟩
      cases x1 with
      | normal =>
        cases e <;> simp [XM] at hx
        exact exec_sound hc hdr k q blk st1 x st' β1 σ1 w1 a1 hw.2 h R1 hd1
      | exit i =>
        cases h
        cases e <;> simp [XM] at hx
        subst hx
        exact ⟨rfl, hd1, β1, σ1, R1⟩
      | ret =>
        cases h
        cases e <;> simp [XM] at hx
        exact ⟨trivial, hd1, β1, σ1, R1⟩
  | .cond y p q, blk, st, x, st', β, σ, W, a, hw, h, R, hd => by
    simp only [exec] at h
    simp only [wfC, Bool.and_eq_true] at hw
    have hy := evalE_rel R y
    split at h
    · rename_i b hb
      rw [hb] at hy
      obtain ⟨e, _⟩ := VRel.s_iff.1 hy
      refine wp_cond e ?_
      cases b
      · exact exec_sound hc hdr k q blk st x st' β σ W a hw.2 h R hd
      · exact exec_sound hc hdr k p blk st x st' β σ W a hw.1 h R hd
    · cases h
  | .block id p, blk, st, x, st', β, σ, W, a, hw, h, R, hd => by
    simp only [exec] at h
    simp only [wfC] at hw
    cases hp : exec c call f lo k id p st with
    | none => rw [hp] at h; cases h
    | some r =>
      obtain ⟨x1, st1⟩ := r
      rw [hp] at h
      refine wp_block (wp_mono (exec_sound hc hdr k p id st x1 st1 β σ W a hw hp R hd) ?_)
      rintro e a1 w1 ⟨hx, hd1, β1, σ1, R1⟩
      cases x1 with
      | normal =>
        cases h
        cases e <;> simp [XM] at hx
        exact ⟨trivial, hd1, β1, σ1, R1⟩
      | exit i =>
        simp only at h
        cases e <;> simp [XM] at hx
        subst hx
        by_cases hi : i = id
        · rw [if_pos hi] at h; cases h
          simp only [Exit.inBlock, if_pos hi]
          exact ⟨trivial, hd1, β1, σ1, R1⟩
        · rw [if_neg hi] at h; cases h
          simp only [Exit.inBlock, if_neg hi]
          exact ⟨rfl, hd1, β1, σ1, R1⟩
      | ret =>
        cases h
        cases e <;> simp [XM] at hx
        exact ⟨trivial, hd1, β1, σ1, R1⟩
  | .loop p, blk, st, x, st', β, σ, W, a, hw, h, R, hd => by
    simp only [exec] at h
    simp only [wfC] at hw
    exact loop_sound (blk := blk) (fun st x st' β σ W a hb R hd => exec_sound hc hdr k p blk st x st' β σ W a hw hb R hd) h R hd
  | .scope p, blk, st, x, st', β, σ, W, a, hw, h, R, hd => by
    simp only [exec] at h
    simp only [wfC] at hw
    refine wp_scope_straight (wp_mono (exec_sound hc hdr k p blk st x st' β σ W a hw h R hd) ?_)
    rintro e a1 w1 ⟨hx, hd1, β1, σ1, R1⟩
    cases x <;> cases e <;> simp [XM] at hx <;> first | exact ⟨trivial, hd1, β1, σ1, R1⟩ | exact ⟨hx, hd1, β1, σ1, R1⟩
  | .exit id, blk, st, x, st', β, σ, W, a, _, h, R, hd => by cases h; exact wp_exit ⟨rfl, hd, β, σ, R⟩
  | .ret, blk, st, x, st', β, σ, W, a, _, h, R, hd => by cases h; exact wp_ret ⟨trivial, hd, β, σ, R⟩
  | .label l, blk, st, x, st', β, σ, W, a, _, h, R, hd => by cases h; exact wp_label ⟨trivial, hd, β, σ, R⟩
  | .goto l, blk, st, x, st', β, σ, W, a, _, h, R, hd => by simp [exec] at h
  | .refuse s, blk, st, x, st', β, σ, W, a, _, h, R, hd => by simp [exec] at h
  | .rangeFunc .., blk, st, x, st', β, σ, W, a, _, h, R, hd => by simp [exec] at h
end
end Go.AM
namespace Go.AM

/-- Objects ahead of lo stay. -/
def Kp (lo : Nat) (h h' : H) : Prop := h.length ≤ h'.length ∧ ∀ id, id < lo → h'[id]? = h[id]?
theorem Kp.refl (lo : Nat) (h : H) : Kp lo h h := ⟨Nat.le_refl _, fun _ _ => rfl⟩
theorem Kp.trans {lo : Nat} {a b c : H} (x : Kp lo a b) (y : Kp lo b c) : Kp lo a c := ⟨Nat.le_trans x.1 y.1, fun id h => (y.2 id h).trans (x.2 id h)⟩
theorem Kp.set {lo b : Nat} {h : H} {o : O} (hb : ¬ b < lo) : Kp lo h (h.set b o) := ⟨by simp, fun id hid => List.getElem?_set_ne (by omega)⟩
theorem Kp.push {lo : Nat} {h : H} {o : O} (hl : lo ≤ h.length) : Kp lo h (h ++ [o]) := ⟨by simp, fun id hid => List.getElem?_append_left (by omega)⟩

def LoOk (call : Nat → FuncId → List V → H → Option (V × H)) : Prop := ∀ lo g args h v h', call lo g args h = some (v, h') → lo ≤ h.length → Kp lo h h'

section
variable {c : Cx} {call : Nat → FuncId → List V → H → Option (V × H)} {f lo : Nat}

theorem storeAt_keep {st st' : St} {t : TypeId} {e : Ent} {x : V} (h : storeAt c lo st t e x = some st') : Kp lo st.h st'.h := by
  unfold storeAt at h
  simp only [Option.bind_eq_bind] at h
  obtain ⟨n, _, h⟩ := Option.bind_eq_some_iff.1 h
  split at h
  · cases h
  split at h
  · obtain ⟨_, _, h⟩ := Option.bind_eq_some_iff.1 h
    obtain ⟨_, _, h⟩ := Option.bind_eq_some_iff.1 h
    cases h; exact .refl _ _
  · split at h
    · cases h
    rename_i hb
    obtain ⟨_, _, h⟩ := Option.bind_eq_some_iff.1 h
    obtain ⟨_, _, h⟩ := Option.bind_eq_some_iff.1 h
    cases h; exact .set hb
  · cases h

theorem appendV_keep {st st' : St} {m : Bool} {t : TypeId} {x y v : V} (h : appendV c lo st m t x y = some (v, st')) (hl : lo ≤ st.h.length) : Kp lo st.h st'.h := by
  unfold appendV at h
  simp only [Option.bind_eq_bind] at h
  obtain ⟨_, _, h⟩ := Option.bind_eq_some_iff.1 h
  obtain ⟨_, _, h⟩ := Option.bind_eq_some_iff.1 h
  obtain ⟨_, _, h⟩ := Option.bind_eq_some_iff.1 h
  split at h
  · cases h
  obtain ⟨new, _, h⟩ := Option.bind_eq_some_iff.1 h
  split at h
  · split at h
    · cases h; exact .refl _ _
    split at h
    · cases h
    rename_i hc
    obtain ⟨_, _, h⟩ := Option.bind_eq_some_iff.1 h
    split at h
    · cases h
    cases h
    exact Kp.trans (.set (by omega)) (.push (by simpa using hl))
  · obtain ⟨⟨tk, l⟩, _, h⟩ := Option.bind_eq_some_iff.1 h
    simp only at h
    split at h
    · cases h; exact .refl _ _
    split at h
    · cases h
    split at h
    · cases h
    · cases h
    · split at h <;> (cases h; exact .push hl)
    · split at h
      · cases h
      rename_i hc
      split at h
      · cases h
        exact Kp.trans (.set (by omega)) (.push (by simpa using hl))
      · cases h

theorem opV_keep (hc : LoOk call) {dst : Option Nat} {st st' : St} {o : Op} {x : Ent} (h : opV c call f lo dst st o = some (x, st')) (hl : lo ≤ st.h.length) : Kp lo st.h st'.h := by
  have val : ∀ {e : Option V} {x : Ent} {st' : St}, e.map (fun v => (Ent.v v, st)) = some (x, st') → Kp lo st.h st'.h := by
    intro e x st' h
    obtain ⟨v, _, rfl, rfl⟩ := valE h
    exact .refl _ _
  have box : ∀ {t : Nat} {ob : O} {cs : List V}, (if (c.esc f).contains t then some (Ent.v (.ptr st.h.length 0), push st ob) else if fresh t st.env then some (Ent.lp t 0, { st with lb := (t, cs) :: st.lb.filter (fun p => p.1 != t) }) else none) = some (x, st') → Kp lo st.h st'.h := by
    intro t ob cs h
    split at h
    · cases h; exact .push hl
    · split at h
      · cases h; exact .refl _ _
      · cases h
  cases o with
  | move y => simp only [opV] at h; cases h; exact .refl _ _
  | assign y => simp only [opV] at h; cases h; exact .refl _ _
  | pick k p q => simp only [opV] at h; split at h <;> first | (cases h; exact .refl _ _) | cases h
  | alloc t =>
    simp only [opV, Option.bind_eq_bind] at h
    obtain ⟨_, _, h⟩ := Option.bind_eq_some_iff.1 h
    cases dst with
    | none => cases h
    | some d => exact box h
  | box t y =>
    simp only [opV, Option.bind_eq_bind] at h
    obtain ⟨_, _, h⟩ := Option.bind_eq_some_iff.1 h
    split at h
    · cases h
    cases dst with
    | none => cases h
    | some d => exact box h
  | build t ps => simp only [opV, Option.bind_eq_bind] at h; obtain ⟨_, _, h⟩ := Option.bind_eq_some_iff.1 h; exact val h
  | buildSlice t n ps =>
    simp only [opV, Option.bind_eq_bind] at h
    obtain ⟨_, _, h⟩ := Option.bind_eq_some_iff.1 h
    obtain ⟨_, _, h⟩ := Option.bind_eq_some_iff.1 h
    obtain ⟨_, _, h⟩ := Option.bind_eq_some_iff.1 h
    obtain ⟨_, _, h⟩ := Option.bind_eq_some_iff.1 h
    split at h
    · cases h
    split at h
    · split at h
      · exact val h
      · cases h; exact .push hl
    · exact val h
  | load t y => simp only [opV] at h; exact val h
  | store t y z =>
    simp only [opV, Option.bind_eq_bind] at h
    obtain ⟨_, _, h⟩ := Option.bind_eq_some_iff.1 h
    obtain ⟨_, hs, h⟩ := Option.bind_eq_some_iff.1 h
    cases h; exact storeAt_keep hs
  | nilCheck y => simp only [opV] at h; split at h <;> first | (cases h; exact .refl _ _) | cases h
  | binOp bop t y z yt =>
    simp only [opV, Option.bind_eq_bind] at h
    obtain ⟨_, _, h⟩ := Option.bind_eq_some_iff.1 h
    obtain ⟨_, _, h⟩ := Option.bind_eq_some_iff.1 h
    split at h
    · cases h
    exact val h
  | unOp uop t y => simp only [opV, Option.bind_eq_bind] at h; obtain ⟨_, _, h⟩ := Option.bind_eq_some_iff.1 h; exact val h
  | convert s d y => simp only [opV, Option.bind_eq_bind] at h; obtain ⟨_, _, h⟩ := Option.bind_eq_some_iff.1 h; exact val h
  | makeInterface t y =>
    simp only [opV, Option.bind_eq_bind] at h
    obtain ⟨_, _, h⟩ := Option.bind_eq_some_iff.1 h
    split at h <;> first | exact val h | cases h
  | makeFunc g p q =>
    simp only [opV, Option.bind_eq_bind] at h
    obtain ⟨_, _, h⟩ := Option.bind_eq_some_iff.1 h
    obtain ⟨_, _, h⟩ := Option.bind_eq_some_iff.1 h
    exact val h
  | makeMap t r => cases r with
    | none => simp only [opV] at h; cases h; exact .push hl
    | some _ => simp [opV] at h
  | makeSlice t l k =>
    simp only [opV, Option.bind_eq_bind] at h
    obtain ⟨_, _, h⟩ := Option.bind_eq_some_iff.1 h
    obtain ⟨_, _, h⟩ := Option.bind_eq_some_iff.1 h
    obtain ⟨_, _, h⟩ := Option.bind_eq_some_iff.1 h
    obtain ⟨_, _, h⟩ := Option.bind_eq_some_iff.1 h
    obtain ⟨_, _, h⟩ := Option.bind_eq_some_iff.1 h
    split at h
    · split at h
      · cases h
      split at h
      · exact val h
      split at h
      · cases h; exact .push hl
      · exact val h
    · cases h
  | slice t y l hh m =>
    simp only [opV, Option.bind_eq_bind] at h
    obtain ⟨_, _, h⟩ := Option.bind_eq_some_iff.1 h
    obtain ⟨_, _, h⟩ := Option.bind_eq_some_iff.1 h
    obtain ⟨_, _, h⟩ := Option.bind_eq_some_iff.1 h
    obtain ⟨_, _, h⟩ := Option.bind_eq_some_iff.1 h
    exact val h
  | fieldAddr t y i => simp only [opV] at h; obtain ⟨_, _, h⟩ := Option.map_eq_some_iff.1 h; cases h; exact .refl _ _
  | field t y i => simp only [opV, Option.bind_eq_bind] at h; obtain ⟨_, _, h⟩ := Option.bind_eq_some_iff.1 h; exact val h
  | indexAddr t y i =>
    simp only [opV, Option.bind_eq_bind] at h
    obtain ⟨_, _, h⟩ := Option.bind_eq_some_iff.1 h
    obtain ⟨_, _, h⟩ := Option.map_eq_some_iff.1 h; cases h; exact .refl _ _
  | index t y i =>
    simp only [opV, Option.bind_eq_bind] at h
    obtain ⟨_, _, h⟩ := Option.bind_eq_some_iff.1 h
    obtain ⟨_, _, h⟩ := Option.bind_eq_some_iff.1 h
    exact val h
  | extract t i => simp only [opV] at h; split at h <;> first | exact val h | cases h
  | call k =>
    obtain ⟨callee, args, argTypes⟩ := k
    cases callee with
    | builtin b =>
      cases b with
      | len =>
        simp only [opV] at h
        split at h
        · simp only [Option.bind_eq_bind] at h; obtain ⟨_, _, h⟩ := Option.bind_eq_some_iff.1 h; exact val h
        · cases h
      | append =>
        simp only [opV] at h
        split at h
        · simp only [Option.bind_eq_bind] at h
          split at h
          · cases h
          obtain ⟨_, _, h⟩ := Option.bind_eq_some_iff.1 h
          obtain ⟨_, _, h⟩ := Option.bind_eq_some_iff.1 h
          obtain ⟨⟨v, st1⟩, hv, h⟩ := Option.bind_eq_some_iff.1 h
          cases h; exact appendV_keep hv hl
        · cases h
      | min => simp only [opV, Option.bind_eq_bind] at h; obtain ⟨_, _, h⟩ := Option.bind_eq_some_iff.1 h; exact val h
      | max => simp only [opV, Option.bind_eq_bind] at h; obtain ⟨_, _, h⟩ := Option.bind_eq_some_iff.1 h; exact val h
      | _ => simp [opV] at h
    | value g =>
      simp only [opV, Option.bind_eq_bind] at h
      obtain ⟨_, _, h⟩ := Option.bind_eq_some_iff.1 h
      obtain ⟨_, _, h⟩ := Option.bind_eq_some_iff.1 h
      obtain ⟨⟨g', args'⟩, _, h⟩ := Option.bind_eq_some_iff.1 h
      obtain ⟨⟨v, h'⟩, hcall, h⟩ := Option.bind_eq_some_iff.1 h
      cases h; exact hc _ _ _ _ _ _ hcall hl
    | invoke r m =>
      simp only [opV, Option.bind_eq_bind] at h
      obtain ⟨_, _, h⟩ := Option.bind_eq_some_iff.1 h
      split at h
      · obtain ⟨_, _, h⟩ := Option.bind_eq_some_iff.1 h
        obtain ⟨_, _, h⟩ := Option.bind_eq_some_iff.1 h
        obtain ⟨⟨v, h'⟩, hcall, h⟩ := Option.bind_eq_some_iff.1 h
        cases h; exact hc _ _ _ _ _ _ hcall hl
      · cases h
  | _ => simp [opV] at h

theorem opsV_keep (hc : LoOk call) {ops : Array Oper} : ∀ (l : List Oper) (st st' : St), opsV c call f lo ops l st = some st' → lo ≤ st.h.length → Kp lo st.h st'.h
  | [], st, st', h, _ => by cases h; exact .refl _ _
  | o :: l, st, st', h, hl => by
    simp only [opsV] at h
    have hp : ∀ (s : St) x, (put s o.dst x).h = s.h := fun s x => by cases o.dst <;> rfl
    split at h
    · cases hv : opV c call f lo o.dst st o.op with
      | none => rw [hv] at h; cases h
      | some p =>
        obtain ⟨x, st1⟩ := p
        rw [hv] at h
        have k1 := opV_keep hc hv hl
        have k2 := opsV_keep hc l _ st' h (by rw [hp]; exact Nat.le_trans hl k1.1)
        rw [hp] at k2
        exact k1.trans k2
    · have k2 := opsV_keep hc l _ st' h (by rw [hp]; exact hl)
      rw [hp] at k2
      exact k2
    · cases h

theorem exec_keep (hc : LoOk call) (k : Nat) : ∀ (code : Code) (blk : Nat) (st : St) (x : X) (st' : St), exec c call f lo k blk code st = some (x, st') → lo ≤ st.h.length → Kp lo st.h st'.h
  | .skip, blk, st, x, st', h, hl => by cases h; exact .refl _ _
  | .region id ops true, blk, st, x, st', h, hl => by
    simp only [exec] at h
    split at h
    · obtain ⟨st1, h1, h2⟩ := Option.map_eq_some_iff.1 h; cases h2; exact opsV_keep hc _ _ _ h1 hl
    · cases h
  | .region id ops false, blk, st, x, st', h, hl => by
    simp only [exec] at h
    obtain ⟨st1, h1, h2⟩ := Option.map_eq_some_iff.1 h; cases h2; exact opsV_keep hc _ _ _ h1 hl
  | .seq p q, blk, st, x, st', h, hl => by
    simp only [exec] at h
    cases hp : exec c call f lo k blk p st with
    | none => rw [hp] at h; cases h
    | some r =>
      obtain ⟨x1, st1⟩ := r
      rw [hp] at h
      have k1 := exec_keep hc k p blk st x1 st1 hp hl
      cases x1 with
      | normal => exact k1.trans (exec_keep hc k q blk st1 x st' h (Nat.le_trans hl k1.1))
      | exit i => cases h; exact k1
      | ret => cases h; exact k1
  | .cond y p q, blk, st, x, st', h, hl => by
    simp only [exec] at h
    split at h
    · split at h
      · exact exec_keep hc k p blk st x st' h hl
      · exact exec_keep hc k q blk st x st' h hl
    · cases h
  | .block id p, blk, st, x, st', h, hl => by
    simp only [exec] at h
    cases hp : exec c call f lo k id p st with
    | none => rw [hp] at h; cases h
    | some r =>
      obtain ⟨x1, st1⟩ := r
      rw [hp] at h
      have k1 := exec_keep hc k p id st x1 st1 hp hl
      cases x1 with
      | normal => cases h; exact k1
      | exit i => simp only at h; split at h <;> (cases h; exact k1)
      | ret => cases h; exact k1
  | .loop p, blk, st, x, st', h, hl => by
    simp only [exec] at h
    have go : ∀ n st, loopV (exec c call f lo k blk p) (c.carry f blk) n st = some (x, st') → lo ≤ st.h.length → Kp lo st.h st'.h := by
      intro n
      induction n with
      | zero => intro st h; cases h
      | succ n ih =>
        intro st h hl
        simp only [loopV] at h
        cases hb : exec c call f lo k blk p st with
        | none => rw [hb] at h; cases h
        | some r =>
          obtain ⟨x1, st1⟩ := r
          rw [hb] at h
          have k1 := exec_keep hc k p blk st x1 st1 hb hl
          cases x1 with
          | normal => exact k1.trans (ih (headSt (c.carry f blk) st1) h (Nat.le_trans hl k1.1))
          | exit i => cases h; exact k1
          | ret => cases h; exact k1
    exact go k (headSt (c.carry f blk) st) h hl
  | .scope p, blk, st, x, st', h, hl => by simp only [exec] at h; exact exec_keep hc k p blk st x st' h hl
  | .exit id, blk, st, x, st', h, hl => by cases h; exact .refl _ _
  | .ret, blk, st, x, st', h, hl => by cases h; exact .refl _ _
  | .label l, blk, st, x, st', h, hl => by cases h; exact .refl _ _
  | .goto l, blk, st, x, st', h, hl => by simp [exec] at h
  | .refuse s, blk, st, x, st', h, hl => by simp [exec] at h
  | .rangeFunc .., blk, st, x, st', h, hl => by simp [exec] at h

theorem hpV_keep {g : FuncId} {p : List V → H → Option (V × List (Nat × O) × List O)} {args : List V} {h h' : H} {v : V} (e : hpV c lo g p args h = some (v, h')) (hl : lo ≤ h.length) : Kp lo h h' := by
  unfold hpV at e
  split at e
  · cases e
  split at e
  · rename_i u s n _
    split at e
    · rename_i hs
      cases e
      have key : ∀ (s : List (Nat × O)) (h : H), s.all (fun p => decide (lo ≤ p.1)) = true → Kp lo h (s.foldl (fun h p => h.set p.1 p.2) h) := by
        intro s
        induction s with
        | nil => intro h _; exact .refl _ _
        | cons p s ih =>
          intro h hs
          simp only [List.all_cons, Bool.and_eq_true, decide_eq_true_eq] at hs
          exact Kp.trans (.set (by omega)) (ih _ hs.2)
      have k1 := key s h hs
      refine Kp.trans k1 ⟨by simp, fun id hid => List.getElem?_append_left ?_⟩
      have := k1.1; omega
    · cases e
  · cases e
theorem bodyV_keep {c : Cx} {k : Nat} (hk : LoOk (denK c k)) {lo g : Nat} {args : List V} {h h' : H} {v : V} (e : bodyV c (fun lo f code st => exec c (denK c k) f lo k 0 code st) lo g args h = some (v, h')) (hl : lo ≤ h.length) : Kp lo h h' := by
    unfold bodyV at e
    split at e
    · obtain ⟨_, _, e⟩ := Option.map_eq_some_iff.1 e; cases e; exact .refl _ _
    split at e
    · exact hpV_keep e hl
    · split at e
      · split at e
        · split at e
          · cases e
          · split at e
            · cases e
            · cases e
            · rename_i x st hx
              split at e
              · simp only [Option.bind_eq_bind] at e
                obtain ⟨_, _, e⟩ := Option.bind_eq_some_iff.1 e
                obtain ⟨_, _, e⟩ := Option.bind_eq_some_iff.1 e
                cases e; exact .refl _ _
              · rename_i hp
                simp only [Option.bind_eq_bind] at e
                obtain ⟨_, _, e⟩ := Option.bind_eq_some_iff.1 e
                cases e
                rw [if_neg hp] at hx
                exact exec_keep hk k _ 0 _ _ _ hx hl
        · cases e
      · cases e
theorem denK_keep (c : Cx) : ∀ k, LoOk (denK c k)
  | 0, lo, g, args, h, v, h', e, hl => by cases e
  | k + 1, lo, g, args, h, v, h', e, hl => by
    simp only [denK, frzV] at e
    split at e
    · split at e
      · split at e
        · split at e
          · cases e; exact .refl _ _
          · cases e
        · cases e
      · cases e
    · exact bodyV_keep (denK_keep c k) e hl
end
end Go.AM
namespace Go.AM
section
variable {σ σ' σ'' : Sg} {W W' : World}

/-- A value that was there ahead, as it is now, rests on elder objects alone. -/
theorem VR.restrict {n : Nat} (hd : ∀ id p, σ.loc id = some p → id < n) (hl : ∀ id, id < n → σ''.loc id = σ'.loc id) (hr : ∀ c k, σ'.reg c = some k → ∃ k', σ''.reg c = some k' ∧ k ≤ k') :
    ∀ (m : Nat) {v : V} {x y : Value} {m0 : Nat}, VR σ W m0 v y → VR σ' W' m v x → VR σ'' W' m v x
  | 0, _, _, _, _, _, h => h.elim
  | m + 1, v, x, y, 0, h0, h => h0.elim
  | m + 1, v, x, y, m0 + 1, h0, h => by
    have lists : ∀ {l : List V} {p q : List Value}, L2 (VR σ W m0) l p → L2 (VR σ' W' m) l q → L2 (VR σ'' W' m) l q := by
      intro l p q a b
      refine ⟨b.1, fun i u z hu hz => ?_⟩
      have hlt : i < p.length := a.1 ▸ (List.getElem?_eq_some_iff.1 hu).1
      exact VR.restrict hd hl hr m (a.2 i u _ hu (List.getElem?_eq_getElem hlt)) (b.2 i u z hu hz)
    have listsK : ∀ {l : List V} {p q : List Value}, L2 (Ck (VR σ W m0)) l p → L2 (Ck (VR σ' W' m)) l q → L2 (Ck (VR σ'' W' m)) l q := by
      intro l p q a b
      refine ⟨b.1, fun i u z hu hz => ⟨(b.2 i u z hu hz).1, ?_⟩⟩
      have hlt : i < p.length := a.1 ▸ (List.getElem?_eq_some_iff.1 hu).1
      exact VR.restrict hd hl hr m (a.2 i u _ hu (List.getElem?_eq_getElem hlt)).2 (b.2 i u z hu hz).2
    have cl : ∀ {l : List V} {c o c' o' : Nat}, Cl (Ck (VR σ W m0)) W c o l → Cl (Ck (VR σ' W' m)) W' c' o' l → Cl (Ck (VR σ'' W' m)) W' c' o' l := by
      intro l c o c' o' a b i u hu
      obtain ⟨z, hz, r⟩ := b i u hu
      obtain ⟨z0, _, r0⟩ := a i u hu
      exact ⟨z, hz, r.1, VR.restrict hd hl hr m r0.2 r.2⟩
    cases v with
    | undef => trivial
    | s a => exact h
    | agg cs => obtain ⟨ys, _, h1⟩ := h0; obtain ⟨xs, hx, h2⟩ := h; exact ⟨xs, hx, listsK h1 h2⟩
    | tup cs => obtain ⟨ys, _, h1⟩ := h0; obtain ⟨xs, hx, h2⟩ := h; exact ⟨xs, hx, lists h1 h2⟩
    | ptr b off =>
      obtain ⟨_, _, k1, _⟩ := h0
      obtain ⟨c, d, k2, hx⟩ := h
      exact ⟨c, d, by rw [hl b (hd _ _ k1)]; exact k2, hx⟩
    | vptr cs =>
      obtain ⟨_, _, _, _, _, _, c1⟩ := h0
      obtain ⟨c, o, k, hx, h1, h2, h3⟩ := h
      obtain ⟨k', e1, e2⟩ := hr c k h1
      exact ⟨c, o, k', hx, e1, Nat.le_trans h2 e2, cl c1 h3⟩
    | vsl t w l =>
      obtain ⟨_, _, _, _, _, _, _, b3, b4⟩ := h0
      obtain ⟨base, cap, hx, n0, n1, h1, h2, h3, h4⟩ := h
      refine ⟨base, cap, hx, n0, n1, h1, h2, fun hn id hid => let ⟨_, _, _, _, q3, _⟩ := b3 hn id hid; let ⟨c, o, p1, p2, p3, p4⟩ := h3 hn id hid; ⟨c, o, p1, p2, by rw [hl id (hd _ _ q3)]; exact p3, p4⟩, fun hn => ?_⟩
      obtain ⟨_, _, _, _, _, _, _, _, q5, q6⟩ := b4 hn
      obtain ⟨c, o, k, hs, a1, a2, a3, a4, a5, a6⟩ := h4 hn
      obtain ⟨k', e1, e2⟩ := hr c k a3
      exact ⟨c, o, k', hs, a1, a2, e1, Nat.le_trans a4 e2, cl q5 a5, fun id hid => ⟨by rw [hl id (hd _ _ (q6 id hid).1)]; exact (a6 id hid).1, (a6 id hid).2⟩⟩
    | msl b off len w =>
      obtain ⟨_, _, _, k1, _⟩ := h0
      obtain ⟨c, d, cap, k2, hx, r⟩ := h
      exact ⟨c, d, cap, by rw [hl b (hd _ _ k1)]; exact k2, hx, r⟩
    | map r => obtain ⟨_, k1, _⟩ := h0; obtain ⟨c, k2, hx⟩ := h; exact ⟨c, by rw [hl r (hd _ _ k1)]; exact k2, hx⟩
    | fn f a b => obtain ⟨_, _, _, p1, p2⟩ := h0; obtain ⟨xs, ys, hx, q1, q2⟩ := h; exact ⟨xs, ys, hx, lists p1 q1, lists p2 q2⟩
    | ifc t v => obtain ⟨_, _, p1⟩ := h0; obtain ⟨z, hx, q1⟩ := h; exact ⟨z, hx, VR.restrict hd hl hr m p1 q1⟩

theorem VRel.restrict {n : Nat} (hd : ∀ id p, σ.loc id = some p → id < n) (hl : ∀ id, id < n → σ''.loc id = σ'.loc id) (hr : ∀ c k, σ'.reg c = some k → ∃ k', σ''.reg c = some k' ∧ k ≤ k')
    {v : V} {x y : Value} (h0 : VRel σ W v y) (h : VRel σ' W' v x) : VRel σ'' W' v x :=
  let ⟨_, a⟩ := h0; let ⟨m, b⟩ := h; ⟨m, VR.restrict hd hl hr m a b⟩

theorem OpR.restrict {n : Nat} (hd : ∀ id p, σ.loc id = some p → id < n) (hl : ∀ id, id < n → σ''.loc id = σ'.loc id) (hr : ∀ c k, σ'.reg c = some k → ∃ k', σ''.reg c = some k' ∧ k ≤ k')
    {c d c0 d0 : Nat} {o : O} {ob ob0 : Obj} (h0 : OpR σ W c0 d0 o ob0) (h : OpR σ' W' c d o ob) : OpR σ'' W' c d o ob := by
  cases o with
  | map es =>
    cases ob with
    | map ents k =>
      cases ob0 with
      | map ents0 k0 =>
        refine ⟨h.1, fun i p q hp hq => ?_⟩
        have hlt : i < ents0.toList.length := h0.1 ▸ (List.getElem?_eq_some_iff.1 hp).1
        have r := h.2 i p q hp hq
        have r0 := h0.2 i p _ hp (List.getElem?_eq_getElem hlt)
        exact ⟨VRel.restrict hd hl hr r0.1 r.1, VRel.restrict hd hl hr r0.2 r.2⟩
      | _ => exact h0.elim
    | _ => exact h.elim
  | bld t r =>
    cases ob with
    | cells arr t' fz =>
      obtain ⟨h1, h2, h3, p, v, h4, h5, h6⟩ := h
      refine ⟨h1, h2, h3, p, v, h4, h5, ?_⟩
      cases r with
      | none => exact h6
      | some q =>
        obtain ⟨j, m⟩ := q
        cases ob0 with
        | cells arr0 t0 fz0 =>
          obtain ⟨_, _, _, _, _, _, _, g0, _, k1, _⟩ := h0
          obtain ⟨g, cap, a1, a2⟩ := h6
          exact ⟨g, cap, by rw [hl j (hd _ _ k1)]; exact a1, a2⟩
        | _ => exact h0.elim
    | _ => exact h.elim
  | buf t l =>
    cases ob with
    | cells arr t' fz => exact h
    | _ => exact h.elim
  | _ => cases ob <;> exact h.elim
theorem sealL_get {s : V → Option V} : ∀ {l l' : List V}, sealL s l = some l' → l'.length = l.length ∧ ∀ (i : Nat) v', l'[i]? = some v' → ∃ v, l[i]? = some v ∧ s v = some v'
  | [], l', h => by simp [sealL] at h; subst h; simp
  | v :: l, l', h => by
    simp only [sealL, Option.bind_eq_bind] at h
    obtain ⟨v1, hv, h⟩ := Option.bind_eq_some_iff.1 h
    obtain ⟨r, hr, h⟩ := Option.bind_eq_some_iff.1 h
    cases h
    obtain ⟨h1, h2⟩ := sealL_get hr
    refine ⟨by simp [h1], fun i v' hi => ?_⟩
    cases i with
    | zero => simp at hi; subst hi; exact ⟨v, rfl, hv⟩
    | succ i => exact h2 i v' (by simpa using hi)

theorem seal_okc {h : H} {n : Nat} : ∀ {k : Nat} {v v' : V}, sealV h n k v = some v' → okc v = true → okc v' = true
  | 0, _, _, e, _ => by simp [sealV] at e
  | k + 1, v, v', e, hk => by
    simp only [sealV] at e
    cases v with
    | s a => cases e; rfl
    | undef => cases hk
    | agg cs => cases hk
    | tup cs => cases hk
    | ptr b off =>
      simp only at e
      split at e
      · cases e; rfl
      · simp only [Option.bind_eq_bind] at e
        obtain ⟨_, _, e⟩ := Option.bind_eq_some_iff.1 e
        split at e
        · cases e
        obtain ⟨_, _, e⟩ := Option.bind_eq_some_iff.1 e
        cases e; rfl
    | vptr cs => obtain ⟨_, _, e⟩ := Option.map_eq_some_iff.1 e; subst e; rfl
    | vsl t w l => simp only [Option.bind_eq_bind] at e; obtain ⟨_, _, e⟩ := Option.bind_eq_some_iff.1 e; cases e; rfl
    | msl b off len w =>
      simp only at e
      split at e
      · cases e; rfl
      · simp only [Option.bind_eq_bind] at e
        obtain ⟨_, _, e⟩ := Option.bind_eq_some_iff.1 e
        split at e
        · cases e
        obtain ⟨_, _, e⟩ := Option.bind_eq_some_iff.1 e
        cases e; rfl
    | map r => simp only at e; split at e <;> cases e; rfl
    | fn f a b =>
      simp only [Option.bind_eq_bind] at e
      obtain ⟨_, _, e⟩ := Option.bind_eq_some_iff.1 e
      obtain ⟨_, _, e⟩ := Option.bind_eq_some_iff.1 e
      cases e; rfl
    | ifc t v => obtain ⟨_, _, e⟩ := Option.map_eq_some_iff.1 e; subst e; rfl

/-- The cells of a sealed value are those of the value, sealed. -/
theorem seal_cells {h : H} {n : Nat} {k : Nat} {v v' : V} (e : sealV h n k v = some v') : (cellsOf v').length = (cellsOf v).length ∧ ∀ (j : Nat) u', (cellsOf v')[j]? = some u' → ∃ u k', (cellsOf v)[j]? = some u ∧ k' ≤ k ∧ sealV h n k' u = some u' := by
  have single : cellsOf v = [v] → cellsOf v' = [v'] → (cellsOf v').length = (cellsOf v).length ∧ ∀ (j : Nat) u', (cellsOf v')[j]? = some u' → ∃ u k', (cellsOf v)[j]? = some u ∧ k' ≤ k ∧ sealV h n k' u = some u' := by
    intro a b
    rw [a, b]
    refine ⟨rfl, fun j u' hj => ?_⟩
    cases j with
    | zero => simp at hj; subst hj; exact ⟨v, k, rfl, Nat.le_refl _, e⟩
    | succ j => simp at hj
  have nagg : ∀ {v' : V}, okc v' = true → cellsOf v' = [v'] := fun {v'} h => by cases v' <;> first | rfl | cases h
  by_cases hk : okc v = true
  · exact single (nagg hk) (nagg (seal_okc e hk))
  · cases k with
    | zero => simp [sealV] at e
    | succ k =>
      cases v with
      | undef => simp only [sealV] at e; cases e; exact single rfl rfl
      | tup cs => simp only [sealV] at e; obtain ⟨_, _, e'⟩ := Option.map_eq_some_iff.1 e; subst e'; exact single rfl rfl
      | agg cs =>
        simp only [sealV] at e
        obtain ⟨cs', hc, e'⟩ := Option.map_eq_some_iff.1 e
        subst e'
        obtain ⟨h1, h2⟩ := sealL_get hc
        exact ⟨h1, fun j u' hj => let ⟨u, hu, he⟩ := h2 j u' hj; ⟨u, k, hu, Nat.le_succ _, he⟩⟩
      | _ => exact absurd rfl hk

theorem flat_seal {h : H} {n k w : Nat} {l l' : List V} (e : sealL (sealV h n k) l = some l') (hw : ∀ x ∈ l, (cellsOf x).length = w) : (∀ x ∈ l', (cellsOf x).length = w) ∧
    ∀ (j : Nat) u', (l'.flatMap cellsOf)[j]? = some u' → ∃ u k', (l.flatMap cellsOf)[j]? = some u ∧ k' ≤ k ∧ sealV h n k' u = some u' := by
  obtain ⟨h1, h2⟩ := sealL_get e
  have hw' : ∀ x ∈ l', (cellsOf x).length = w := by
    intro x hx
    obtain ⟨i, hi, he⟩ := List.mem_iff_getElem.1 hx
    obtain ⟨v, hv, hs⟩ := h2 i x (by rw [List.getElem?_eq_getElem hi, he])
    rw [(seal_cells hs).1]; exact hw v (List.mem_of_getElem? hv)
  refine ⟨hw', fun j u' hj => ?_⟩
  have hlt := (List.getElem?_eq_some_iff.1 hj).1
  rw [flat_len hw'] at hlt
  have w0 : 0 < w := by rcases Nat.eq_zero_or_pos w with h | h; subst h; simp at hlt; exact h
  have hm : j % w < w := Nat.mod_lt _ w0
  have hq : j / w < l'.length := by rw [Nat.div_lt_iff_lt_mul w0]; exact hlt
  have hdm : j = (j / w) * w + j % w := by rw [Nat.mul_comm]; exact (Nat.div_add_mod j w).symm
  obtain ⟨x', hx'⟩ : ∃ x', l'[j / w]? = some x' := ⟨_, List.getElem?_eq_getElem hq⟩
  obtain ⟨x, hx, hs⟩ := h2 _ x' hx'
  rw [hdm, flat_at hw' hx' hm] at hj
  obtain ⟨u, k', hu, hk', hsu⟩ := (seal_cells hs).2 _ u' hj
  exact ⟨u, k', by rw [hdm, flat_at hw hx hm]; exact hu, hk', hsu⟩

theorem flat_chunks {w : Nat} (w0 : 0 < w) : ∀ (len : Nat) (cs : List V), len * w ≤ cs.length → (∀ v ∈ cs, okc v = true) → (∀ x ∈ chunks w len cs, (cellsOf x).length = w) ∧ (chunks w len cs).flatMap cellsOf = cs.take (len * w) ∧ (chunks w len cs).length = len
  | 0, cs, _, _ => by simp [chunks]
  | len + 1, cs, hl, hk => by
    rw [Nat.succ_mul] at hl
    obtain ⟨h1, h2, h3⟩ := flat_chunks w0 len (cs.drop w) (by simp; omega) (fun v hv => hk v (List.mem_of_mem_drop hv))
    have hd : cellsOf (if w = 1 then cs.getD 0 .undef else .agg (cs.take w)) = cs.take w := by
      split
      · rename_i hw
        subst hw
        cases cs with
        | nil => simp at hl
        | cons a r =>
          have : okc a = true := hk a (by simp)
          have : cellsOf a = [a] := by cases a <;> first | rfl | cases this
          simpa using this
      · rfl
    refine ⟨fun x hx => ?_, ?_, by simp [chunks, h3]⟩
    · simp only [chunks, List.mem_cons] at hx
      rcases hx with rfl | hx
      · rw [hd]; simp; omega
      · exact h1 x hx
    · simp only [chunks, List.flatMap_cons, hd, h2]
      rw [Nat.succ_mul, Nat.add_comm (len * w) w, List.take_add]
end
end Go.AM

/- Regions that draw their order, and the soundness of the abstract machine (den_sound). No condition. -/
import Derived.Test.YtieenbjncimikaaGreatDoorBAmC
import Derived.Orders
import Derived.Test.YtieenbjncimikaaGreatDoorBAmA
set_option linter.all false
namespace Go.AM
section
variable {c : Cx} {call : Nat → FuncId → List V → H → Option (V × H)} {f lo : Nat} {ops : Array Oper} {s r s' : St} {o : Oper} {x : Ent}

/-- Calls of pure functions leave the objects alone. -/
def PurOk (c : Cx) (call : Nat → FuncId → List V → H → Option (V × H)) : Prop := ∀ lo g args h v h', call lo g args h = some (v, h') → c.pur g = true → h' = h

theorem foot_r {l : Loc} (h : l ∈ opTmps o.op.operands.toList) : l ∈ (foot c f ops o s).r := by
  unfold foot
  split <;> first
    | (repeat' split) <;> simp [h]

theorem ev_ag (he : ∀ t, Loc.tmp t ∈ (foot c f ops o s).r → getE r.env t = getE s.env t) {y : Operand} (hy : y ∈ o.op.operands.toList) : evalE c r y = evalE c s y := by
  cases y with
  | tmp t => exact he t (foot_r (List.mem_filterMap.2 ⟨_, hy, rfl⟩))
  | _ => rfl
theorem evL_ag {l : List Operand} (h : ∀ y ∈ l, evalE c r y = evalE c s y) : evalL c r l = evalL c s l := by
  induction l with
  | nil => rfl
  | cons y l ih => simp only [evalL, evalV]; rw [h y (by simp), ih (fun z hz => h z (by simp [hz]))]
theorem evP_ag {l : List (Nat × Operand)} (h : ∀ y ∈ l.map (·.2), evalE c r y = evalE c s y) : evalP c r l = evalP c s l := by
  induction l with
  | nil => rfl
  | cons y l ih => obtain ⟨i, y⟩ := y; simp only [evalP, evalV]; rw [h y (by simp), ih (fun z hz => h z (by simp at hz ⊢; exact .inr hz))]
theorem evO_ag {y : Option Operand} (h : ∀ z, y = some z → evalE c r z = evalE c s z) : evalO c r y = evalO c s y := by
  cases y with
  | none => rfl
  | some z => simp only [evalO, evalV, h z rfl]

/-- What an operation does elsewhere. -/
structure Lk (F : Ft) (s r s' r' : St) : Prop where
  env : r'.env = r.env
  env0 : s'.env = s.env
  lbw : ∀ t, Loc.lb t ∈ F.w → getB r'.lb t = getB s'.lb t
  lbk : ∀ t, Loc.lb t ∉ F.w → getB r'.lb t = getB r.lb t
  hw : Loc.heap ∈ F.w → r'.h = s'.h
  hk : Loc.heap ∉ F.w → r'.h = r.h

theorem Lk.still {F : Ft} (hl : ∀ t, Loc.lb t ∉ F.w) (hh : Loc.heap ∈ F.w → r.h = s.h) : Lk F s r s r := ⟨rfl, rfl, fun t ht => absurd ht (hl t), fun _ _ => rfl, hh, fun _ => rfl⟩
theorem Lk.heap {F : Ft} {h' : H} (hl : ∀ t, Loc.lb t ∉ F.w) (hh : Loc.heap ∈ F.w ∨ h' = r.h) : Lk F s r { s with h := h' } { r with h := h' } := ⟨rfl, rfl, fun t ht => absurd ht (hl t), fun _ _ => rfl, fun _ => rfl, fun h => hh.elim (absurd · h) id⟩

/-- What is told of an operation elsewhere. -/
def Loc' (c : Cx) (call : Nat → FuncId → List V → H → Option (V × H)) (f lo : Nat) (ops : Array Oper) (s r s' : St) (o : Oper) (x : Ent) : Prop :=
  ∃ r', opV c call f lo o.dst r o.op = some (x, r') ∧ Lk (foot c f ops o s) s r s' r' ∧ (∀ t off, x = .lp t off → (foot c f ops o s).lp = some t ∨ (foot c f ops o s).al = some t) ∧ (∀ t, (foot c f ops o s).al = some t → o.dst = some t)

theorem noLb {d : Option Nat} (t : Nat) : Loc.lb t ∉ d.toList.map Loc.tmp := by cases d <;> simp
theorem noHeap {d : Option Nat} : Loc.heap ∉ d.toList.map Loc.tmp := by cases d <;> simp

theorem loc_val (E : Option V) (h1 : opV c call f lo o.dst s o.op = E.map fun v => (.v v, s)) (h2 : opV c call f lo o.dst r o.op = E.map fun v => (.v v, r))
    (hl : ∀ t, Loc.lb t ∉ (foot c f ops o s).w) (hh : Loc.heap ∈ (foot c f ops o s).w → r.h = s.h) (ha : (foot c f ops o s).al = none)
    (h : opV c call f lo o.dst s o.op = some (x, s')) : Loc' c call f lo ops s r s' o x := by
  rw [h1] at h
  obtain ⟨v, hv, e⟩ := Option.map_eq_some_iff.1 h
  cases e
  exact ⟨r, by rw [h2, hv]; rfl, Lk.still hl hh, fun t off e => (by cases e), fun t ht => (by rw [ha] at ht; cases ht)⟩

theorem loc_ent (E : Option Ent) (h1 : opV c call f lo o.dst s o.op = E.map fun v => (v, s)) (h2 : opV c call f lo o.dst r o.op = E.map fun v => (v, r))
    (hl : ∀ t, Loc.lb t ∉ (foot c f ops o s).w) (hh : Loc.heap ∈ (foot c f ops o s).w → r.h = s.h) (ha : (foot c f ops o s).al = none) (hp : ∀ t off, E = some (.lp t off) → (foot c f ops o s).lp = some t)
    (h : opV c call f lo o.dst s o.op = some (x, s')) : Loc' c call f lo ops s r s' o x := by
  rw [h1] at h
  obtain ⟨v, hv, e⟩ := Option.map_eq_some_iff.1 h
  cases e
  exact ⟨r, by rw [h2, hv]; rfl, Lk.still hl hh, fun t off e => .inl (hp t off (by rw [hv, e])), fun t ht => (by rw [ha] at ht; cases ht)⟩

theorem loc_heap (E : H → Option (V × H)) (h1 : opV c call f lo o.dst s o.op = (E s.h).map fun p => (.v p.1, { s with h := p.2 })) (h2 : opV c call f lo o.dst r o.op = (E r.h).map fun p => (.v p.1, { r with h := p.2 })) (hr : r.h = s.h)
    (hl : ∀ t, Loc.lb t ∉ (foot c f ops o s).w) (hh : ∀ p, E r.h = some p → Loc.heap ∈ (foot c f ops o s).w ∨ p.2 = r.h) (ha : (foot c f ops o s).al = none)
    (h : opV c call f lo o.dst s o.op = some (x, s')) : Loc' c call f lo ops s r s' o x := by
  rw [h1, ← hr] at h
  obtain ⟨p, hv, e⟩ := Option.map_eq_some_iff.1 h
  cases e
  exact ⟨{ r with h := p.2 }, by rw [h2, hv]; rfl, Lk.heap hl (hh p hv), fun t off e => (by cases e), fun t ht => (by rw [ha] at ht; cases ht)⟩

theorem loc_box {cs : List V} {ob : O} (hq : ∀ st : St, st = s ∨ st = r → opV c call f lo o.dst st o.op = match o.dst with
      | none => none
      | some t => if (c.esc f).contains t then some (.v (.ptr st.h.length 0), push st ob)
        else if fresh t st.env then some (.lp t 0, { st with lb := (t, cs) :: st.lb.filter (fun p => p.1 != t) }) else none)
    (hF : ∀ t, o.dst = some t → if (c.esc f).contains t then Loc.heap ∈ (foot c f ops o s).r ∧ Loc.heap ∈ (foot c f ops o s).w ∧ (∀ u, Loc.lb u ∉ (foot c f ops o s).w) ∧ (foot c f ops o s).al = none
      else Loc.heap ∉ (foot c f ops o s).w ∧ (∀ u, Loc.lb u ∈ (foot c f ops o s).w ↔ u = t) ∧ (foot c f ops o s).al = some t)
    (hh : Loc.heap ∈ (foot c f ops o s).r → r.h = s.h) (hf : ∀ t, (foot c f ops o s).al = some t → fresh t r.env = true)
    (h : opV c call f lo o.dst s o.op = some (x, s')) : Loc' c call f lo ops s r s' o x := by
  have h2 := hq r (.inr rfl)
  rw [hq s (.inl rfl)] at h
  cases hd : o.dst with
  | none => rw [hd] at h; cases h
  | some t =>
    have hF := hF t hd
    rw [hd] at h h2
    simp only at h h2
    by_cases hc : (c.esc f).contains t = true
    · rw [if_pos hc] at h h2 hF
      cases h
      obtain ⟨f1, f2, f3, f4⟩ := hF
      have hr := hh f1
      refine ⟨_, by rw [hd, h2, hr], ?_, fun t off e => (by cases e), fun t ht => (by rw [f4] at ht; cases ht)⟩
      have := Lk.heap (s := s) (r := r) (F := foot c f ops o s) (h' := s.h ++ [ob]) f3 (.inl f2)
      unfold push
      rw [hr]
      exact this
    · rw [if_neg hc] at h h2 hF
      obtain ⟨f1, f2, f3⟩ := hF
      rw [if_pos (hf t f3)] at h2
      split at h
      · cases h
        refine ⟨{ r with lb := (t, cs) :: r.lb.filter (fun p => p.1 != t) }, by rw [hd]; exact h2, ⟨rfl, rfl, fun u hu => ?_, fun u hu => ?_, fun hu => absurd hu f1, fun _ => rfl⟩, fun t' off e => (by cases e; exact .inr f3), fun t' ht => (by rw [f3] at ht; cases ht; exact hd)⟩
        · rw [f2] at hu; subst hu; simp [getB]
        · rw [f2] at hu
          simp only [getB, if_neg (Ne.symm hu)]
          exact getB_filter t _ u hu
      · cases h

theorem appendV_form {m : Bool} {t : TypeId} {x y : V} (st : St) : appendV c lo st m t x y = (appendV c lo ⟨[], [], st.h⟩ m t x y).map fun p => (p.1, { st with h := p.2.h }) := by
  unfold appendV
  simp only [Option.bind_eq_bind]
  cases elemOf? c.P t <;> try rfl
  rename_i e
  simp only [Option.bind_some]
  cases szOf c.P e <;> try rfl
  simp only [Option.bind_some]
  cases zeroOf c.P e <;> try rfl
  simp only [Option.bind_some]
  split
  · rfl
  rename_i w _ _
  cases newV w y <;> try rfl
  simp only [Option.bind_some]
  split
  · split
    · rfl
    · split
      · rfl
      · cases cellsAt st.h _ <;> try rfl
        simp only [Option.bind_some]
        split <;> rfl
  · cases asl w x <;> try rfl
    simp only [Option.bind_some]
    split
    · rfl
    · split
      · rfl
      · split
        · rfl
        · rfl
        · split <;> rfl
        · split
          · rfl
          · split <;> simp_all [push]

theorem opV_loc (hp : PurOk c call) (he : ∀ t, Loc.tmp t ∈ (foot c f ops o s).r → getE r.env t = getE s.env t) (hb : ∀ t, Loc.lb t ∈ (foot c f ops o s).r → getB r.lb t = getB s.lb t)
    (hh : Loc.heap ∈ (foot c f ops o s).r → r.h = s.h) (hf : ∀ t, (foot c f ops o s).al = some t → fresh t r.env = true) (h : opV c call f lo o.dst s o.op = some (x, s')) : Loc' c call f lo ops s r s' o x := by
  have ev : ∀ y ∈ o.op.operands.toList, evalE c r y = evalE c s y := fun y hy => ev_ag he hy
  obtain ⟨dst, op, type, pos, after, guard⟩ := o
  simp only at ev
  cases op with
  | move y =>
    have e := ev y (by simp [Op.operands])
    refine loc_ent (some (evalE c s y)) rfl (by simp only [opV, e]; rfl) ?_ ?_ ?_ (fun t off et => ?_) h <;> simp only [foot]
    · split <;> exact fun t => noLb t
    · split <;> exact fun h => absurd h noHeap
    · split <;> rfl
    · cases et' : evalE c s y <;> rw [et'] at et <;> cases et; rfl
  | assign y =>
    have e := ev y (by simp [Op.operands])
    refine loc_ent (some (evalE c s y)) rfl (by simp only [opV, e]; rfl) ?_ ?_ ?_ (fun t off et => ?_) h <;> simp only [foot]
    · split <;> exact fun t => noLb t
    · split <;> exact fun h => absurd h noHeap
    · split <;> rfl
    · cases et' : evalE c s y <;> rw [et'] at et <;> cases et; rfl
  | pick k p q =>
    have e1 := ev k (by simp [Op.operands])
    have e2 := ev p (by simp [Op.operands])
    have e3 := ev q (by simp [Op.operands])
    have hx : ∃ b, evalE c s k = .v (.s (.bool b)) := by
      simp only [opV] at h
      split at h
      · exact ⟨_, by assumption⟩
      · cases h
    obtain ⟨b, hk⟩ := hx
    refine loc_ent (some (if b then evalE c s p else evalE c s q)) (by simp only [opV, hk]; rfl) (by simp only [opV, e1, e2, e3, hk]; rfl) ?_ ?_ ?_ (fun t off et => ?_) h <;> simp only [foot, hk]
    · split <;> exact fun t => noLb t
    · split <;> exact fun h => absurd h noHeap
    · split <;> rfl
    · simp only [Option.some.injEq] at et; rw [et]
  | alloc t =>
    cases hz : zeroOf c.P t with
    | none => simp [opV, hz] at h
    | some z =>
      refine loc_box (cs := cellsOf z) (fun st _ => by simp only [opV, hz]; rfl) (fun t' hd => ?_) hh hf h
      simp only at hd; subst hd
      by_cases hc : (c.esc f).contains t' = true
      · rw [if_pos hc]; simp only [foot, if_pos hc]; simp
      · rw [if_neg hc]; simp only [foot, if_neg hc]; simp
  | box t y =>
    have e := ev y (by simp [Op.operands])
    cases hv : evalV c s y with
    | none => simp [opV, hv] at h
    | some v =>
      have hv' : evalV c r y = some v := by unfold evalV at hv ⊢; rw [e]; exact hv
      by_cases ho : okv v = true
      · refine loc_box (cs := cellsOf v) (fun st hst => by
            have : evalV c st y = some v := by rcases hst with rfl | rfl <;> assumption
            simp only [opV, this, Option.bind_eq_bind, Option.bind_some, ho, Bool.not_true, Bool.false_eq_true, if_false]; rfl) (fun t' hd => ?_) hh hf h
        simp only at hd; subst hd
        by_cases hc : (c.esc f).contains t' = true
        · rw [if_pos hc]; simp only [foot, if_pos hc]; simp
        · rw [if_neg hc]; simp only [foot, if_neg hc]; simp
      · simp [opV, hv, ho] at h
  | build t ps =>
    have e : evalP c r ps.toList = evalP c s ps.toList := evP_ag fun y hy => ev y (by simpa [Op.operands] using hy)
    exact loc_val ((evalP c s ps.toList).bind (buildV c t)) (by simp only [opV]; cases evalP c s ps.toList <;> rfl) (by simp only [opV, e]; cases evalP c s ps.toList <;> rfl) (fun t => noLb t) (fun h => absurd h noHeap) rfl h
  | unOp p t y =>
    have e := ev y (by simp [Op.operands])
    exact loc_val ((evalV c s y).bind (unV p)) (by simp only [opV]; cases evalV c s y <;> rfl) (by simp only [opV, evalV, e]; cases (evalE c s y).val <;> rfl) (fun t => noLb t) (fun h => absurd h noHeap) rfl h
  | convert t u y =>
    have e := ev y (by simp [Op.operands])
    exact loc_val ((evalV c s y).bind (convV c t u)) (by simp only [opV]; cases evalV c s y <;> rfl) (by simp only [opV, evalV, e]; cases (evalE c s y).val <;> rfl) (fun t => noLb t) (fun h => absurd h noHeap) rfl h
  | binOp p t y z u =>
    have e1 := ev y (by simp [Op.operands])
    have e2 := ev z (by simp [Op.operands])
    refine loc_val ((evalV c s y).bind fun a => (evalV c s z).bind fun b => if isNilI a && isNilI b && !(isC y || isC z) then none else binOpV c p t a b) ?_ ?_ (fun t => noLb t) (fun h => absurd h noHeap) rfl h
    · simp only [opV]
      cases evalV c s y with
      | none => rfl
      | some a => cases evalV c s z with
        | none => rfl
        | some b => simp only [Option.bind_eq_bind, Option.bind_some]; split <;> rfl
    · simp only [opV, evalV, e1, e2]
      cases (evalE c s y).val with
      | none => rfl
      | some a => cases (evalE c s z).val with
        | none => rfl
        | some b => simp only [Option.bind_eq_bind, Option.bind_some]; split <;> rfl
  | makeInterface t y =>
    have e := ev y (by simp [Op.operands])
    refine loc_val ((evalV c s y).bind fun v => match c.P.underlying t with | some (.interface _) => none | some _ => some (.ifc t v) | none => none) ?_ ?_ (fun t => noLb t) (fun h => absurd h noHeap) rfl h
    · simp only [opV]
      cases evalV c s y with
      | none => rfl
      | some a => simp only [Option.bind_eq_bind, Option.bind_some]; split <;> simp_all
    · simp only [opV, evalV, e]
      cases (evalE c s y).val with
      | none => rfl
      | some a => simp only [Option.bind_eq_bind, Option.bind_some]; split <;> simp_all
  | makeFunc g a b =>
    have e1 : evalL c r a.toList = evalL c s a.toList := evL_ag fun y hy => ev y (by simp only [Op.operands, Array.toList_append, List.mem_append]; exact .inl hy)
    have e2 : evalL c r b.toList = evalL c s b.toList := evL_ag fun y hy => ev y (by simp only [Op.operands, Array.toList_append, List.mem_append]; exact .inr hy)
    refine loc_val ((evalL c s a.toList).bind fun u => (evalL c s b.toList).bind fun v => some (.fn g u v)) ?_ ?_ (fun t => noLb t) (fun h => absurd h noHeap) rfl h
    · simp only [opV]
      cases evalL c s a.toList with
      | none => rfl
      | some a => cases evalL c s b.toList <;> rfl
    · simp only [opV, e1, e2]
      cases evalL c s a.toList with
      | none => rfl
      | some a => cases evalL c s b.toList <;> rfl
  | slice t y l u m =>
    have e := ev y (by simp [Op.operands])
    have e1 : evalO c r l = evalO c s l := evO_ag fun z hz => ev z (by subst hz; simp [Op.operands])
    have e2 : evalO c r u = evalO c s u := evO_ag fun z hz => ev z (by subst hz; simp [Op.operands])
    have e3 : evalO c r m = evalO c s m := evO_ag fun z hz => ev z (by subst hz; simp [Op.operands])
    by_cases hp : ∃ b off, evalE c s y = .v (.ptr b off)
    · obtain ⟨b, off, hp⟩ := hp
      have hF1 : Loc.heap ∈ (foot c f ops ⟨dst, .slice t y l u m, type, pos, after, guard⟩ s).r := by simp only [foot, hp]; simp
      have hF2 : (foot c f ops ⟨dst, .slice t y l u m, type, pos, after, guard⟩ s).w = dst.toList.map Loc.tmp := by simp only [foot, hp]
      have hF3 : (foot c f ops ⟨dst, .slice t y l u m, type, pos, after, guard⟩ s).al = none := by simp only [foot, hp]
      have hr := hh hF1
      refine loc_val ((evalV c s y).bind fun a => (evalO c s l).bind fun b => (evalO c s u).bind fun d => (evalO c s m).bind fun e => sliceW c s.h t a b d e) ?_ ?_ (by rw [hF2]; exact fun t => noLb t) (by rw [hF2]; exact fun h => absurd h noHeap) hF3 h
      · simp only [opV]
        cases evalV c s y <;> try rfl
        cases evalO c s l <;> try rfl
        cases evalO c s u <;> try rfl
        cases evalO c s m <;> rfl
      · simp only [opV, evalV, e, e1, e2, e3, hr]
        cases (evalE c s y).val <;> try rfl
        cases evalO c s l <;> try rfl
        cases evalO c s u <;> try rfl
        cases evalO c s m <;> rfl
    have hF2 : (foot c f ops ⟨dst, .slice t y l u m, type, pos, after, guard⟩ s).w = dst.toList.map Loc.tmp := by
      simp only [foot]
      cases hq : evalE c s y with
      | lp t o => rfl
      | v x => cases x <;> first | rfl | exact absurd ⟨_, _, hq⟩ hp
    have hF3 : (foot c f ops ⟨dst, .slice t y l u m, type, pos, after, guard⟩ s).al = none := by
      simp only [foot]
      cases hq : evalE c s y with
      | lp t o => rfl
      | v x => cases x <;> first | rfl | exact absurd ⟨_, _, hq⟩ hp
    have nw : ∀ a b d q v, evalV c s y = some a → sliceW c v t a b d q = sliceV c t a b d q := by
      intro a b d q v ha
      cases a <;> try rfl
      rename_i b off
      exfalso
      obtain ⟨h1, _⟩ := val_some ha
      exact hp ⟨b, off, h1⟩
    refine loc_val ((evalV c s y).bind fun a => (evalO c s l).bind fun b => (evalO c s u).bind fun d => (evalO c s m).bind fun e => sliceV c t a b d e) ?_ ?_ (by rw [hF2]; exact fun t => noLb t) (by rw [hF2]; exact fun h => absurd h noHeap) hF3 h
    · simp only [opV]
      cases hq : evalV c s y <;> try rfl
      cases evalO c s l <;> try rfl
      cases evalO c s u <;> try rfl
      cases evalO c s m <;> try rfl
      simp only [Option.bind_eq_bind, Option.bind_some, nw _ _ _ _ _ hq]
    · have nw2 : ∀ a b d q v, (evalE c s y).val = some a → sliceW c v t a b d q = sliceV c t a b d q := fun a b d q v ha => nw a b d q v ha
      simp only [opV, evalV, e, e1, e2, e3]
      cases hq : (evalE c s y).val <;> try rfl
      cases evalO c s l <;> try rfl
      cases evalO c s u <;> try rfl
      cases evalO c s m <;> try rfl
      simp only [Option.bind_eq_bind, Option.bind_some, nw2 _ _ _ _ _ hq]
  | field t y i =>
    have e := ev y (by simp [Op.operands])
    exact loc_val ((evalV c s y).bind (fieldV c t i)) (by simp only [opV]; cases evalV c s y <;> rfl) (by simp only [opV, evalV, e]; cases (evalE c s y).val <;> rfl) (fun t => noLb t) (fun h => absurd h noHeap) rfl h
  | index t y i =>
    have e1 := ev y (by simp [Op.operands])
    have e2 := ev i (by simp [Op.operands])
    refine loc_val ((evalV c s y).bind fun a => (evalV c s i).bind (indexV c t a)) ?_ ?_ (fun t => noLb t) (fun h => absurd h noHeap) rfl h
    · simp only [opV]
      cases evalV c s y <;> try rfl
      cases evalV c s i <;> rfl
    · simp only [opV, evalV, e1, e2]
      cases (evalE c s y).val <;> try rfl
      cases (evalE c s i).val <;> rfl
  | extract t i =>
    have e := ev t (by simp [Op.operands])
    refine loc_val (match evalE c s t with | .v (.tup vs) => vs[i]? | _ => none) ?_ ?_ (fun t => noLb t) (fun h => absurd h noHeap) rfl h
    · simp only [opV]; split <;> simp_all
    · simp only [opV, e]; split <;> simp_all
  | load t a =>
    have e := ev a (by simp [Op.operands])
    have el : loadAt c r t (evalE c s a) = loadAt c s t (evalE c s a) := by
      cases he' : evalE c s a with
      | lp b off => simp only [loadAt]; rw [hb b (by simp only [foot, he']; simp)]
      | v v =>
        cases v with
        | ptr b off => simp only [loadAt]; rw [hh (by simp only [foot, he']; simp)]
        | _ => rfl
    refine loc_val (loadAt c s t (evalE c s a)) rfl (by simp only [opV, e, el]) ?_ ?_ ?_ h <;> simp only [foot]
    · split <;> exact fun t => noLb t
    · split <;> exact fun h => absurd h noHeap
    · split <;> rfl
  | nilCheck y =>
    have e := ev y (by simp [Op.operands])
    refine loc_ent (match evalE c s y with
      | .lp t o => some (.lp t o)
      | .v (.ptr b o) => some (.v (.ptr b o))
      | .v (.vptr cs) => some (.v (.vptr cs))
      | .v (.fn (.func g) a b) => some (.v (.fn (.func g) a b))
      | _ => none) (by simp only [opV]; split <;> simp_all) (by simp only [opV, e]; split <;> simp_all) ?_ ?_ ?_ (fun t off et => ?_) h <;> simp only [foot]
    · split <;> exact fun t => noLb t
    · split <;> exact fun h => absurd h noHeap
    · split <;> rfl
    · split at et <;> cases et; rename_i e'; rw [e']
  | fieldAddr t y i =>
    have e := ev y (by simp [Op.operands])
    refine loc_ent (fieldAddrV c t i (evalE c s y)) (by simp only [opV]) (by simp only [opV, e]) ?_ ?_ ?_ (fun t off et => ?_) h <;> simp only [foot]
    · split <;> exact fun t => noLb t
    · split <;> exact fun h => absurd h noHeap
    · split <;> rfl
    · simp only [fieldAddrV, Option.bind_eq_bind] at et
      obtain ⟨_, _, et⟩ := Option.bind_eq_some_iff.1 et
      obtain ⟨_, _, et⟩ := Option.bind_eq_some_iff.1 et
      split at et
      · cases et
      · split at et
        · rename_i e'; cases et; rw [e']
        · cases et
        · split at et <;> cases et
        · cases et
  | indexAddr t y i =>
    have e1 := ev y (by simp [Op.operands])
    have e2 := ev i (by simp [Op.operands])
    refine loc_ent ((evalV c s i).bind fun v => indexAddrV c t (evalE c s y) v) (by simp only [opV]; cases evalV c s i <;> rfl) (by simp only [opV, evalV, e1, e2]; cases (evalE c s i).val <;> rfl) ?_ ?_ ?_ (fun t off et => ?_) h <;> simp only [foot]
    · split <;> exact fun t => noLb t
    · split <;> exact fun h => absurd h noHeap
    · split <;> rfl
    · obtain ⟨v, hv, et⟩ := Option.bind_eq_some_iff.1 et
      unfold indexAddrV at et
      simp only [Option.bind_eq_bind] at et
      split at et
      · obtain ⟨_, _, et⟩ := Option.bind_eq_some_iff.1 et
        obtain ⟨_, _, et⟩ := Option.bind_eq_some_iff.1 et
        split at et
        · cases et
        · obtain ⟨_, _, et⟩ := Option.bind_eq_some_iff.1 et
          cases et
      · obtain ⟨_, _, et⟩ := Option.bind_eq_some_iff.1 et
        obtain ⟨_, _, et⟩ := Option.bind_eq_some_iff.1 et
        split at et <;> cases et
      · rename_i e'
        obtain ⟨_, _, et⟩ := Option.bind_eq_some_iff.1 et
        obtain ⟨_, _, et⟩ := Option.bind_eq_some_iff.1 et
        cases et; rw [e']
      · obtain ⟨_, _, et⟩ := Option.bind_eq_some_iff.1 et
        obtain ⟨_, _, et⟩ := Option.bind_eq_some_iff.1 et
        cases et
      · obtain ⟨_, _, et⟩ := Option.bind_eq_some_iff.1 et
        obtain ⟨_, _, et⟩ := Option.bind_eq_some_iff.1 et
        split at et <;> cases et
      · cases et
  | store t a y =>
    have e1 := ev a (by simp [Op.operands])
    have e2 := ev y (by simp [Op.operands])
    have e2' : evalV c r y = evalV c s y := by unfold evalV; rw [e2]
    simp only [opV, Option.bind_eq_bind] at h
    obtain ⟨v, hv, h⟩ := Option.bind_eq_some_iff.1 h
    obtain ⟨s1, hs, h⟩ := Option.bind_eq_some_iff.1 h
    cases h
    suffices hk : ∃ r1, storeAt c lo r t (evalE c s a) v = some r1 ∧ Lk (foot c f ops ⟨dst, .store t a y, type, pos, after, guard⟩ s) s r s' r1 by
      obtain ⟨r1, k1, k2⟩ := hk
      refine ⟨r1, by simp only [opV, e1, e2', hv, k1, Option.bind_eq_bind, Option.bind_some]; rfl, k2, fun t off e => (by cases e), fun u hu => ?_⟩
      simp only [foot] at hu; split at hu <;> cases hu
    unfold storeAt at hs ⊢
    simp only [Option.bind_eq_bind] at hs ⊢
    obtain ⟨n, hn, hs⟩ := Option.bind_eq_some_iff.1 hs
    rw [hn]
    simp only [Option.bind_some]
    split at hs
    · cases hs
    rename_i hc
    rw [if_neg hc]
    split at hs
    · rename_i b off ea
      obtain ⟨cs0, h0, hs⟩ := Option.bind_eq_some_iff.1 hs
      obtain ⟨cs, h1, hs⟩ := Option.bind_eq_some_iff.1 hs
      cases hs
      have hr := hb b (by simp only [foot, ea]; simp)
      rw [h0] at hr
      simp only [hr, h1, Option.bind_some]
      refine ⟨_, rfl, ⟨rfl, rfl, fun u hu => ?_, fun u hu => ?_, fun hu => ?_, fun _ => rfl⟩⟩ <;> simp only [foot, ea] at hu
      · have : u = b := by cases dst <;> simpa using hu
        subst this
        rw [getB_setB hr, getB_setB h0]; simp
      · have : b ≠ u := by rintro rfl; simp at hu
        rw [getB_setB hr, if_neg this]
      · exfalso; cases dst <;> simp at hu
    · rename_i b off ea
      split at hs
      · cases hs
      rename_i hl
      obtain ⟨cs0, h0, hs⟩ := Option.bind_eq_some_iff.1 hs
      obtain ⟨cs, h1, hs⟩ := Option.bind_eq_some_iff.1 hs
      cases hs
      have hr := hh (by simp only [foot, ea]; simp)
      rw [if_neg hl, hr, h0]
      simp only [h1, Option.bind_some]
      exact ⟨_, rfl, Lk.heap (fun u hu => by simp only [foot, ea] at hu; cases dst <;> simp at hu) (.inl (by simp only [foot, ea]; simp))⟩
    · cases hs
  | buildSlice t n ps =>
    have e : evalP c r ps.toList = evalP c s ps.toList := evP_ag fun y hy => ev y (by simpa [Op.operands] using hy)
    by_cases hR : isRow c f dst = true
    · have hF1 : Loc.heap ∈ (foot c f ops ⟨dst, .buildSlice t n ps, type, pos, after, guard⟩ s).r := by simp [foot, hR]
      have hF2 : (foot c f ops ⟨dst, .buildSlice t n ps, type, pos, after, guard⟩ s).w = .heap :: dst.toList.map Loc.tmp := by simp only [foot, hR, if_true]
      have hF3 : (foot c f ops ⟨dst, .buildSlice t n ps, type, pos, after, guard⟩ s).al = none := by simp only [foot, hR, if_true]
      refine loc_heap (fun h => (elemOf? c.P t).bind fun e => (szOf c.P e).bind fun w => (zeroOf c.P e).bind fun z => (evalP c s ps.toList).bind fun ps =>
        if w = 0 ∨ n * w > 2 ^ 24 ∨ (cellsOf z).length ≠ w ∨ !(ps.all fun p => p.1 < n && (cellsOf p.2).length == w && okv p.2) then none else
        if n = 0 then some (vs .full w [], h) else some (.msl h.length 0 n w, h ++ [.cells ((elemsV (List.replicate n z) ps).flatMap cellsOf)])) ?_ ?_ (hh hF1) (fun u hu => ?_) (fun p _ => .inl (by rw [hF2]; simp)) hF3 h
      · simp only [opV, hR, if_true, Option.bind_eq_bind]
        cases elemOf? c.P t <;> try rfl
        rename_i e
        simp only [Option.bind_some]
        cases szOf c.P e <;> try rfl
        simp only [Option.bind_some]
        cases zeroOf c.P e <;> try rfl
        simp only [Option.bind_some]
        cases evalP c s ps.toList <;> try rfl
        simp only [Option.bind_some]
        split
        · rfl
        · split <;> rfl
      · simp only [opV, hR, if_true, Option.bind_eq_bind, e]
        cases elemOf? c.P t <;> try rfl
        rename_i e
        simp only [Option.bind_some]
        cases szOf c.P e <;> try rfl
        simp only [Option.bind_some]
        cases zeroOf c.P e <;> try rfl
        simp only [Option.bind_some]
        cases evalP c s ps.toList <;> try rfl
        simp only [Option.bind_some]
        split
        · rfl
        · split <;> rfl
      · rw [hF2] at hu; cases dst <;> simp at hu
    · have hF2 : (foot c f ops ⟨dst, .buildSlice t n ps, type, pos, after, guard⟩ s).w = dst.toList.map Loc.tmp := by simp only [foot, if_neg hR]
      have hF3 : (foot c f ops ⟨dst, .buildSlice t n ps, type, pos, after, guard⟩ s).al = none := by simp only [foot, if_neg hR]
      refine loc_val ((elemOf? c.P t).bind fun e => (szOf c.P e).bind fun w => (zeroOf c.P e).bind fun z => (evalP c s ps.toList).bind fun ps =>
        if w = 0 ∨ n * w > 2 ^ 24 ∨ (cellsOf z).length ≠ w ∨ !(ps.all fun p => p.1 < n && (cellsOf p.2).length == w && okv p.2) then none else some (vs .full w (elemsV (List.replicate n z) ps))) ?_ ?_ (by rw [hF2]; exact fun t => noLb t) (by rw [hF2]; exact fun h => absurd h noHeap) hF3 h
      · simp only [opV, if_neg hR, Option.bind_eq_bind]
        cases elemOf? c.P t <;> try rfl
        rename_i e
        simp only [Option.bind_some]
        cases szOf c.P e <;> try rfl
        simp only [Option.bind_some]
        cases zeroOf c.P e <;> try rfl
        simp only [Option.bind_some]
        cases evalP c s ps.toList <;> try rfl
        simp only [Option.bind_some]
        split <;> rfl
      · simp only [opV, if_neg hR, Option.bind_eq_bind, e]
        cases elemOf? c.P t <;> try rfl
        rename_i e
        simp only [Option.bind_some]
        cases szOf c.P e <;> try rfl
        simp only [Option.bind_some]
        cases zeroOf c.P e <;> try rfl
        simp only [Option.bind_some]
        cases evalP c s ps.toList <;> try rfl
        simp only [Option.bind_some]
        split <;> rfl
  | makeMap t k =>
    cases k with
    | some k => simp [opV] at h
    | none => exact loc_heap (fun h => some (.map h.length, h ++ [.map []])) rfl rfl (hh (by simp [foot])) (fun u hu => by cases dst <;> simp [foot] at hu) (fun p _ => .inl (by simp [foot])) rfl h
  | makeSlice t l k =>
    have e1 := ev l (by simp [Op.operands])
    have e2 := ev k (by simp [Op.operands])
    by_cases hR : isRow c f dst = true
    · have hF1 : Loc.heap ∈ (foot c f ops ⟨dst, .makeSlice t l k, type, pos, after, guard⟩ s).r := by simp [foot, hR]
      have hF2 : (foot c f ops ⟨dst, .makeSlice t l k, type, pos, after, guard⟩ s).w = .heap :: dst.toList.map Loc.tmp := by simp only [foot, hR, if_true]
      have hF3 : (foot c f ops ⟨dst, .makeSlice t l k, type, pos, after, guard⟩ s).al = none := by simp only [foot, hR, if_true]
      refine loc_heap (fun h => (elemOf? c.P t).bind fun e => (szOf c.P e).bind fun w => (zeroOf c.P e).bind fun z => (evalV c s l).bind fun u => (evalV c s k).bind fun v => match u, v with
        | .s (.int .i64 n), .s (.int .i64 m) =>
          if n < 0 ∨ m ≠ n ∨ w = 0 ∨ ((c.P.info? e).map (·.bytes)).getD 0 = 0 ∨ n.toNat * ((c.P.info? e).map (·.bytes)).getD 0 > mostLen ∨ (cellsOf z).length ≠ w then none else
          if n = 0 then some (vs .full w [], h) else some (.msl h.length 0 n.toNat w, h ++ [.cells ((List.replicate n.toNat z).flatMap cellsOf)])
        | _, _ => none) ?_ ?_ (hh hF1) (fun u hu => ?_) (fun p _ => .inl (by rw [hF2]; simp)) hF3 h
      · simp only [opV, hR, if_true, Option.bind_eq_bind]
        cases elemOf? c.P t <;> try rfl
        rename_i e
        simp only [Option.bind_some]
        cases szOf c.P e <;> try rfl
        simp only [Option.bind_some]
        cases zeroOf c.P e <;> try rfl
        simp only [Option.bind_some]
        cases evalV c s l <;> try rfl
        simp only [Option.bind_some]
        cases evalV c s k <;> try rfl
        simp only [Option.bind_some]
        split
        · dsimp only
          split
          · rfl
          · split <;> rfl
        · simp_all
      · simp only [opV, hR, if_true, Option.bind_eq_bind, evalV, e1, e2]
        cases elemOf? c.P t <;> try rfl
        rename_i e
        simp only [Option.bind_some]
        cases szOf c.P e <;> try rfl
        simp only [Option.bind_some]
        cases zeroOf c.P e <;> try rfl
        simp only [Option.bind_some]
        cases (evalE c s l).val <;> try rfl
        simp only [Option.bind_some]
        cases (evalE c s k).val <;> try rfl
        simp only [Option.bind_some]
        split
        · dsimp only
          split
          · rfl
          · split <;> rfl
        · simp_all
      · rw [hF2] at hu; cases dst <;> simp at hu
    · have hF2 : (foot c f ops ⟨dst, .makeSlice t l k, type, pos, after, guard⟩ s).w = dst.toList.map Loc.tmp := by simp only [foot, if_neg hR]
      have hF3 : (foot c f ops ⟨dst, .makeSlice t l k, type, pos, after, guard⟩ s).al = none := by simp only [foot, if_neg hR]
      refine loc_val ((elemOf? c.P t).bind fun e => (szOf c.P e).bind fun w => (zeroOf c.P e).bind fun z => (evalV c s l).bind fun u => (evalV c s k).bind fun v => match u, v with
        | .s (.int .i64 n), .s (.int .i64 m) =>
          if n < 0 ∨ m ≠ n ∨ w = 0 ∨ ((c.P.info? e).map (·.bytes)).getD 0 = 0 ∨ n.toNat * ((c.P.info? e).map (·.bytes)).getD 0 > mostLen ∨ (cellsOf z).length ≠ w then none else
          if n = 0 then some (vs .full w []) else some (vs .full w (List.replicate n.toNat z))
        | _, _ => none) ?_ ?_ (by rw [hF2]; exact fun t => noLb t) (by rw [hF2]; exact fun h => absurd h noHeap) hF3 h
      · simp only [opV, if_neg hR, Option.bind_eq_bind]
        cases elemOf? c.P t <;> try rfl
        rename_i e
        simp only [Option.bind_some]
        cases szOf c.P e <;> try rfl
        simp only [Option.bind_some]
        cases zeroOf c.P e <;> try rfl
        simp only [Option.bind_some]
        cases evalV c s l <;> try rfl
        simp only [Option.bind_some]
        cases evalV c s k <;> try rfl
        simp only [Option.bind_some]
        split
        · dsimp only
          split
          · rfl
          · split <;> rfl
        · simp_all
      · simp only [opV, if_neg hR, Option.bind_eq_bind, evalV, e1, e2]
        cases elemOf? c.P t <;> try rfl
        rename_i e
        simp only [Option.bind_some]
        cases szOf c.P e <;> try rfl
        simp only [Option.bind_some]
        cases zeroOf c.P e <;> try rfl
        simp only [Option.bind_some]
        cases (evalE c s l).val <;> try rfl
        simp only [Option.bind_some]
        cases (evalE c s k).val <;> try rfl
        simp only [Option.bind_some]
        split
        · dsimp only
          split
          · rfl
          · split <;> rfl
        · simp_all
  | call k =>
    obtain ⟨callee, args, argTypes⟩ := k
    have el : evalL c r args.toList = evalL c s args.toList := evL_ag fun y hy => ev y (by simp only [Op.operands, Call.operands, Array.toList_append, List.mem_append]; exact .inr hy)
    have ea : ∀ y ∈ args.toList, evalV c r y = evalV c s y := fun y hy => by unfold evalV; rw [ev y (by simp only [Op.operands, Call.operands, Array.toList_append, List.mem_append]; exact .inr hy)]
    cases callee with
    | builtin b =>
      cases b with
      | min => exact loc_val ((evalL c s args.toList).bind (minmax false)) (by simp only [opV]; cases evalL c s args.toList <;> rfl) (by simp only [opV, el]; cases evalL c s args.toList <;> rfl) (fun t => noLb t) (fun h => absurd h noHeap) rfl h
      | max => exact loc_val ((evalL c s args.toList).bind (minmax true)) (by simp only [opV]; cases evalL c s args.toList <;> rfl) (by simp only [opV, el]; cases evalL c s args.toList <;> rfl) (fun t => noLb t) (fun h => absurd h noHeap) rfl h
      | len =>
        have hr : r.h = s.h := hh (by simp [foot])
        have hx : ∃ y t, args.toList = [y] ∧ argTypes[0]? = some t := by
          simp only [opV] at h
          split at h
          · exact ⟨_, _, by assumption, by assumption⟩
          · cases h
        obtain ⟨y, t, h1, h2⟩ := hx
        have e := ea y (by rw [h1]; simp)
        refine loc_val ((evalV c s y).bind (lenV c t s.h)) ?_ ?_ (fun t => noLb t) (fun h => absurd h noHeap) rfl h
        · simp only [opV, h1, h2]; cases evalV c s y <;> rfl
        · simp only [opV, h1, h2, e, hr]; cases evalV c s y <;> rfl
      | append =>
        have hr : r.h = s.h := hh (by simp [foot])
        have hx : ∃ y z t, args.toList = [y, z] ∧ argTypes[0]? = some t := by
          simp only [opV] at h
          split at h
          · exact ⟨_, _, _, by assumption, by assumption⟩
          · cases h
        obtain ⟨y, z, t, h1, h2⟩ := hx
        have e1 := ea y (by rw [h1]; simp)
        have e2 := ea z (by rw [h1]; simp)
        refine loc_heap (fun h => if !plainArg c (argTypes[1]?) then none else (evalV c s y).bind fun a => (evalV c s z).bind fun b => (appendV c lo ⟨[], [], h⟩ (isRow c f dst) t a b).map fun p => (p.1, p.2.h)) ?_ ?_ hr (fun u hu => by cases dst <;> simp [foot] at hu) (fun p _ => .inl (by simp [foot])) (by simp [foot]) h
        · simp only [opV, h1, h2]
          split
          · rfl
          · cases evalV c s y <;> try rfl
            cases evalV c s z <;> try rfl
            simp only [Option.bind_eq_bind, Option.bind_some]
            rw [appendV_form s]
            cases appendV c lo ⟨[], [], s.h⟩ (isRow c f dst) t _ _ <;> rfl
        · simp only [opV, h1, h2, e1, e2]
          split
          · rfl
          · cases evalV c s y <;> try rfl
            cases evalV c s z <;> try rfl
            simp only [Option.bind_eq_bind, Option.bind_some]
            rw [appendV_form r]
            cases appendV c lo ⟨[], [], r.h⟩ (isRow c f dst) t _ _ <;> rfl
      | _ => simp [opV] at h
    | value g =>
      have eg : evalV c r g = evalV c s g := by unfold evalV; rw [ev g (by simp [Op.operands, Call.operands])]
      have hr : r.h = s.h := hh (by cases g <;> simp only [foot] <;> (try split) <;> simp)
      refine loc_heap (fun h => (evalV c s g).bind fun u => (evalL c s args.toList).bind fun l => (target u l).bind fun q => call lo q.1 q.2 h) ?_ ?_ hr ?_ (fun p hp' => ?_) ?_ h
      · simp only [opV]
        cases evalV c s g <;> try rfl
        cases evalL c s args.toList <;> try rfl
        simp only [Option.bind_eq_bind, Option.bind_some]
        cases target _ _ <;> try rfl
        simp only [Option.bind_some]
        cases call lo _ _ s.h <;> rfl
      · simp only [opV, eg, el]
        cases evalV c s g <;> try rfl
        cases evalL c s args.toList <;> try rfl
        simp only [Option.bind_eq_bind, Option.bind_some]
        cases target _ _ <;> try rfl
        simp only [Option.bind_some]
        cases call lo _ _ r.h <;> rfl
      · intro u hu
        cases g <;> simp only [foot] at hu <;> (try split at hu) <;> cases dst <;> simp at hu
      · cases g with
        | func g =>
          by_cases hg : c.pur g = true
          · obtain ⟨u, hu, hp'⟩ := Option.bind_eq_some_iff.1 hp'
            obtain ⟨l, hl, hp'⟩ := Option.bind_eq_some_iff.1 hp'
            obtain ⟨q, hq, hp'⟩ := Option.bind_eq_some_iff.1 hp'
            cases hu
            cases hq
            obtain ⟨p1, p2⟩ := p
            exact .inr (hp _ _ _ _ _ _ hp' hg)
          · exact .inl (by simp [foot, hg])
        | _ => exact .inl (by simp [foot])
      · cases g <;> simp only [foot] <;> (try split) <;> rfl
    | invoke q m =>
      have eg : evalV c r q = evalV c s q := by unfold evalV; rw [ev q (by simp [Op.operands, Call.operands])]
      have hr : r.h = s.h := hh (by simp [foot])
      refine loc_heap (fun h => (evalV c s q).bind fun u => match u with
        | .ifc t v => (methodOf c.P t m).bind fun g => (evalL c s args.toList).bind fun l => call lo g (v :: l) h
        | _ => none) ?_ ?_ hr (fun u hu => by cases dst <;> simp [foot] at hu) (fun p _ => .inl (by simp [foot])) (by simp [foot]) h
      · simp only [opV]
        cases evalV c s q with
        | none => rfl
        | some u =>
          cases u <;> try rfl
          rename_i t v
          simp only [Option.bind_eq_bind, Option.bind_some]
          cases methodOf c.P t m <;> try rfl
          cases evalL c s args.toList <;> try rfl
          simp only [Option.bind_some]
          cases call lo _ _ s.h <;> rfl
      · simp only [opV, eg, el]
        cases evalV c s q with
        | none => rfl
        | some u =>
          cases u <;> try rfl
          rename_i t v
          simp only [Option.bind_eq_bind, Option.bind_some]
          cases methodOf c.P t m <;> try rfl
          cases evalL c s args.toList <;> try rfl
          simp only [Option.bind_some]
          cases call lo _ _ r.h <;> rfl
  | _ => simp [opV] at h
end
end Go.AM
namespace Go.AM
section
variable {c : Cx} {call : Nat → FuncId → List V → H → Option (V × H)} {f lo : Nat} {ops : Array Oper}

/-- Two states have the same at a place. -/
def At (l : Loc) (s r : St) : Prop := match l with
  | .tmp t => getE s.env t = getE r.env t
  | .lb t => getB s.lb t = getB r.lb t
  | .heap => s.h = r.h
theorem At.rfl' {l : Loc} {s : St} : At l s s := by cases l <;> rfl
theorem At.symm {l : Loc} {s r : St} (h : At l s r) : At l r s := by cases l <;> exact Eq.symm h
theorem At.trans {l : Loc} {s r u : St} (h : At l s r) (h2 : At l r u) : At l s u := by cases l <;> exact Eq.trans h h2

def gReads (ops : Array Oper) (g : Option (Nat × Bool)) : List Loc := match g with | some (j, _) => ((ops[j]?).bind (·.dst)).toList.map Loc.tmp | none => []

/-- One operation, with its guard. -/
def Stp (c : Cx) (call : Nat → FuncId → List V → H → Option (V × H)) (f lo : Nat) (ops : Array Oper) (o : Oper) (s : St) (F : Ft) (x : Ent) (s1 : St) : Prop :=
  (guardV ops s o.guard = some true ∧ ∃ s', opV c call f lo o.dst s o.op = some (x, s') ∧ F = foot c f ops o s ∧ s1 = put s' o.dst x) ∨
  (guardV ops s o.guard = some false ∧ x = .v (.tup []) ∧ F = ⟨gReads ops o.guard, o.dst.toList.map Loc.tmp, none, none⟩ ∧ s1 = put s o.dst x)

theorem trace : ∀ (l : List Oper) (st st' : St), opsV c call f lo ops l st = some st' → ∃ (ss : Nat → St) (xs : Nat → Ent) (Fs : Nat → Ft), ss 0 = st ∧ ss l.length = st' ∧
    footV c call f lo ops l st = (List.range l.length).map Fs ∧ ∀ (i : Nat) o, l[i]? = some o → Stp c call f lo ops o (ss i) (Fs i) (xs i) (ss (i + 1))
  | [], st, st', h => by cases h; exact ⟨fun _ => st, fun _ => default, fun _ => ⟨[], [], none, none⟩, rfl, rfl, rfl, fun i o h => by simp at h⟩
  | o :: l, st, st', h => by
    have key : ∀ (x : Ent) (s1 : St) (F : Ft), Stp c call f lo ops o st F x s1 → opsV c call f lo ops l s1 = some st' → footV c call f lo ops (o :: l) st = F :: footV c call f lo ops l s1 →
        ∃ (ss : Nat → St) (xs : Nat → Ent) (Fs : Nat → Ft), ss 0 = st ∧ ss (o :: l).length = st' ∧
        footV c call f lo ops (o :: l) st = (List.range (o :: l).length).map Fs ∧ ∀ (i : Nat) p, (o :: l)[i]? = some p → Stp c call f lo ops p (ss i) (Fs i) (xs i) (ss (i + 1)) := by
      intro x s1 F hs h1 hf
      obtain ⟨ss, xs, Fs, e1, e2, e3, e4⟩ := trace l s1 st' h1
      refine ⟨fun i => match i with | 0 => st | i + 1 => ss i, fun i => match i with | 0 => x | i + 1 => xs i, fun i => match i with | 0 => F | i + 1 => Fs i, rfl, e2, ?_, fun i p hi => ?_⟩
      · rw [hf, e3, List.length_cons, List.range_succ_eq_map, List.map_cons, List.map_map]; rfl
      · cases i with
        | zero => simp at hi; subst hi; simpa [e1] using hs
        | succ i => exact e4 i p (by simpa using hi)
    simp only [opsV] at h
    split at h
    · rename_i hg
      split at h
      · rename_i x s' ho
        exact key x _ _ (.inl ⟨hg, s', ho, rfl, rfl⟩) h (by simp only [footV, hg, ho])
      · cases h
    · rename_i hg
      refine key _ _ _ (.inr ⟨hg, rfl, rfl, rfl⟩) h ?_
      simp only [footV, hg, gReads]
      rfl
    · cases h

theorem foot_g {o : Oper} {s : St} {l : Loc} (h : l ∈ gReads ops o.guard) : l ∈ (foot c f ops o s).r := by
  unfold gReads at h
  unfold foot
  split <;> first
    | (repeat' split) <;> simp_all
theorem foot_w {o : Oper} {s : St} {t : Nat} : Loc.tmp t ∈ (foot c f ops o s).w ↔ o.dst = some t := by
  have k : Loc.tmp t ∈ o.dst.toList.map Loc.tmp ↔ o.dst = some t := by cases o.dst <;> simp [eq_comm]
  unfold foot
  split <;> first
    | (repeat' split) <;> simp_all

theorem guard_ag {s r : St} {g : Option (Nat × Bool)} (h : ∀ l ∈ gReads ops g, At l s r) : guardV ops r g = guardV ops s g := by
  unfold guardV
  cases g with
  | none => rfl
  | some p =>
    obtain ⟨j, w⟩ := p
    simp only
    cases ht : (ops[j]?).bind (·.dst) with
    | none => rfl
    | some t =>
      have : getE s.env t = getE r.env t := h (.tmp t) (by simp [gReads, ht])
      simp only [this]

theorem put_lb {s : St} {d : Option Nat} {x : Ent} : (put s d x).lb = s.lb := by cases d <;> rfl
theorem put_h {s : St} {d : Option Nat} {x : Ent} : (put s d x).h = s.h := by cases d <;> rfl

theorem Stp.loc {o : Oper} {s r s1 : St} {F : Ft} {x : Ent} (hp : PurOk c call) (h : Stp c call f lo ops o s F x s1) (hr : ∀ l ∈ F.r, At l s r) (hf : ∀ t, F.al = some t → fresh t r.env = true) :
    ∃ F' r1, Stp c call f lo ops o r F' x r1 ∧ (∀ l ∈ F.w, At l s1 r1) ∧ (∀ l, l ∉ F.w → At l r r1) ∧ (∀ t off, x = .lp t off → F.lp = some t ∨ F.al = some t) ∧ (∀ t, F.al = some t → o.dst = some t) ∧
      (∀ u, getE s1.env u = if o.dst = some u then x else getE s.env u) := by
  rcases h with ⟨hg, s', ho, rfl, rfl⟩ | ⟨hg, rfl, rfl, rfl⟩
  · obtain ⟨r', h1, k, h3, h4⟩ := opV_loc hp (fun t ht => (hr _ ht).symm) (fun t ht => (hr _ ht).symm) (fun ht => (hr _ ht).symm) hf ho
    refine ⟨_, _, .inl ⟨by rw [guard_ag fun l hl => hr l (foot_g hl)]; exact hg, r', h1, rfl, rfl⟩, fun l hl => ?_, fun l hl => ?_, h3, h4, fun u => by rw [getE_put, k.env0]⟩
    · cases l with
      | tmp t => rw [foot_w] at hl; simp only [At, getE_put, if_pos hl]
      | lb t => simp only [At, put_lb]; exact (k.lbw t hl).symm
      | heap => simp only [At, put_h]; exact (k.hw hl).symm
    · cases l with
      | tmp t => rw [foot_w] at hl; simp only [At, getE_put, if_neg hl, k.env]
      | lb t => simp only [At, put_lb]; exact (k.lbk t hl).symm
      | heap => simp only [At, put_h]; exact (k.hk hl).symm
  · refine ⟨_, _, .inr ⟨by rw [guard_ag hr]; exact hg, rfl, rfl, rfl⟩, fun l hl => ?_, fun l hl => ?_, fun t off e => (by cases e), fun t ht => (by cases ht), fun u => getE_put⟩
    · cases l with
      | tmp t =>
        have : o.dst = some t := by
          cases hd : o.dst <;> rw [hd] at hl <;> simp at hl
          rw [hl]
        simp only [At, getE_put, if_pos this]
      | lb t => exact absurd hl (noLb t)
      | heap => exact absurd hl noHeap
    · cases l with
      | tmp t =>
        have : o.dst ≠ some t := by
          intro hd; rw [hd] at hl; simp at hl
        simp only [At, getE_put, if_neg this]
      | lb t => simp only [At, put_lb]
      | heap => simp only [At, put_h]

/-- What an operation waits for, whatever the road, is done if all that it waits for is, and whatever is done had waited. -/
theorem before_done {L : Nat → Prop} (hL : ∀ (j : Nat) o, ops[j]? = some o → L j → ∀ e ∈ o.after, Region.binds .any e = true → L e.on) :
    ∀ (j : Nat) o, ops[j]? = some o → (∀ e ∈ o.after, Region.binds .any e = true → L e.on) → ∀ i, ((Region.before ops).getD j 0).testBit i = true → L i := by
  have inner : ∀ (acc : Array Nat) (l : List Edge) (s i : Nat), (l.foldl (fun s e => if Region.binds .any e then s ||| 2 ^ e.on ||| acc.getD e.on 0 else s) s).testBit i = true →
      s.testBit i = true ∨ ∃ e ∈ l, Region.binds .any e = true ∧ (e.on = i ∨ (acc.getD e.on 0).testBit i = true) := by
    intro acc l
    induction l with
    | nil => intro s i h; exact .inl h
    | cons e l ih =>
      intro s i h
      rw [List.foldl_cons] at h
      rcases ih _ i h with h | ⟨e', h1, h2⟩
      · split at h
        · rename_i hb
          rw [Nat.testBit_or, Nat.testBit_or, Bool.or_eq_true, Bool.or_eq_true, Nat.testBit_two_pow] at h
          rcases h with (h | h) | h
          · exact .inl h
          · exact .inr ⟨e, by simp, hb, .inl (by simpa using h)⟩
          · exact .inr ⟨e, by simp, hb, .inr h⟩
        · exact .inl h
      · exact .inr ⟨e', by simp [h1], h2⟩
  have gen : ∀ (l r : List Oper), ops.toList = l.reverse ++ r → ∀ (j : Nat), j < l.length → ∀ o, ops[j]? = some o → (∀ e ∈ o.after, Region.binds .any e = true → L e.on) → ∀ i,
      ((l.reverse.foldl (fun acc o => acc.push (o.after.foldl (fun s e => if Region.binds .any e then s ||| 2 ^ e.on ||| acc.getD e.on 0 else s) 0)) (#[] : Array Nat)).getD j 0).testBit i = true → L i := by
    have sz : ∀ (l : List Oper) (a : Array Nat), (l.foldl (fun acc o => acc.push (o.after.foldl (fun s e => if Region.binds .any e then s ||| 2 ^ e.on ||| acc.getD e.on 0 else s) 0)) a).size = a.size + l.length := by
      intro l
      induction l with
      | nil => intro a; rfl
      | cons o l ih => intro a; rw [List.foldl_cons, ih]; simp; omega
    intro l
    induction l with
    | nil => intro r _ j hj; simp at hj
    | cons p l ih =>
      intro r hr j hj o ho he i hi
      rw [List.reverse_cons, List.append_assoc] at hr
      rw [List.reverse_cons, List.foldl_append] at hi
      simp only [List.foldl_cons, List.foldl_nil] at hi
      generalize hacc : l.reverse.foldl (fun acc o => acc.push (o.after.foldl (fun s e => if Region.binds .any e then s ||| 2 ^ e.on ||| acc.getD e.on 0 else s) 0)) (#[] : Array Nat) = acc at hi
      have hsz : acc.size = l.length := by rw [← hacc, sz]; simp
      rw [Array.getD_eq_getD_getElem?] at hi
      by_cases hjl : j < l.length
      · rw [Array.getElem?_push_lt (by omega)] at hi
        refine ih _ hr j hjl o ho he i ?_
        rw [hacc, Array.getD_eq_getD_getElem?, Array.getElem?_eq_getElem (by omega)]
        exact hi
      · have hje : j = acc.size := by simp at hj; omega
        rw [hje, Array.getElem?_push_size] at hi
        have hp : p = o := by
          have : ops.toList[j]? = some o := by simpa using ho
          rw [hr, List.getElem?_append_right (by simp; omega)] at this
          simp [hje, hsz] at this
          exact this
        subst hp
        simp only [Option.getD_some, ← Array.foldl_toList] at hi
        rcases inner acc p.after.toList 0 i hi with h | ⟨e, h1, h2, h3⟩
        · simp at h
        · have hon := he e (by simpa using h1) h2
          rcases h3 with rfl | h3
          · exact hon
          · have hlt : e.on < l.length := by
              refine Classical.byContradiction fun hn => ?_
              rw [Array.getD_eq_getD_getElem?, Array.getElem?_eq_none (by omega)] at h3
              simp at h3
            have hge : ∃ oe, ops[e.on]? = some oe := by
              have : e.on < ops.size := by
                have h5 := congrArg List.length hr
                simp at h5; omega
              exact ⟨_, Array.getElem?_eq_getElem this⟩
            obtain ⟨oe, hoe⟩ := hge
            exact ih _ hr e.on hlt oe hoe (hL e.on oe hoe hon) i (by rw [hacc]; exact h3)
  intro j o ho he i hi
  refine gen ops.toList.reverse [] (by simp) j ?_ o ho he i ?_
  · have := (Array.getElem?_eq_some_iff.1 ho).1
    simpa using this
  · rw [List.reverse_reverse]
    unfold Region.before at hi
    rw [← Array.foldl_toList] at hi
    exact hi

end
end Go.AM
namespace Go.AM
section
variable {c : Cx} {call : Nat → FuncId → List V → H → Option (V × H)} {f lo N : Nat} {ops : Array Oper} {S : Snap}

theorem meets_not {a b : List Loc} (h : meets a b = false) {l : Loc} (ha : l ∈ a) : l ∉ b := by
  intro hb
  have : meets a b = true := List.any_eq_true.2 ⟨l, ha, by simpa using hb⟩
  rw [h] at this; cases this

theorem indep_spec {bf : Array Nat} {env : List (Nat × Ent)} {n : Nat} {Fs : Nat → Ft} (h : indep bf env ((List.range n).map Fs) = true) :
    (∀ i j, i < j → j < n → (bf.getD j 0).testBit i = true ∨ ((∀ l ∈ (Fs i).w, l ∉ (Fs j).r) ∧ (∀ l ∈ (Fs i).w, l ∉ (Fs j).w) ∧ (∀ l ∈ (Fs j).w, l ∉ (Fs i).r))) ∧
    (∀ i j t, i < n → j < n → (Fs i).al = some t → (Fs j).lp = some t → (bf.getD j 0).testBit i = true) ∧ (∀ j t, j < n → (Fs j).al = some t → fresh t env = true) := by
  have hz : ∀ i, i < n → (Fs i, i) ∈ ((List.range n).map Fs).zipIdx := by
    intro i hi
    rw [List.mem_zipIdx_iff_getElem?]
    simp [hi]
  unfold indep at h
  rw [List.all_eq_true] at h
  refine ⟨fun i j hij hj => ?_, fun i j t hi hj ha hl => ?_, fun j t hj ha => ?_⟩
  · have h1 := h _ (hz j hj)
    simp only [Bool.and_eq_true, List.all_eq_true] at h1
    have h2 := (h1.1 _ (hz i (by omega))).1
    simp only [hij, decide_true, Bool.not_true, Bool.false_or, Bool.or_eq_true] at h2
    rcases h2 with h2 | h2
    · exact .inl h2
    · unfold free at h2
      simp only [Bool.and_eq_true, Bool.not_eq_true'] at h2
      exact .inr ⟨fun l hl => meets_not h2.1.1 hl, fun l hl => meets_not h2.1.2 hl, fun l hl => meets_not h2.2 hl⟩
  · have h1 := h _ (hz j hj)
    simp only [Bool.and_eq_true, List.all_eq_true] at h1
    have h2 := (h1.1 _ (hz i hi)).2
    simpa [ha, hl] using h2
  · have h1 := h _ (hz j hj)
    simp only [Bool.and_eq_true, List.all_eq_true] at h1
    have h2 := h1.2
    simpa [ha] using h2

theorem Rl.same {β : Nat → Option Nat} {σ : Sg} {W : World} {s r : St} {tmps : Array Value} (R : Rl c N S β σ W r tmps) (h : ∀ l, At l s r) : Rl c N S β σ W s tmps := by
  have hh : s.h = r.h := h .heap
  refine ⟨⟨R.fr.size, fun t => ?_, fun t cs hcs => ?_, by rw [hh]; exact R.fr.own, R.fr.inj⟩, by rw [hh]; exact R.inv, by rw [hh]; exact R.stp, R.glo⟩
  · have : getE s.env t = getE r.env t := h (.tmp t)
    rw [this]; exact R.fr.env t
  · have : getB s.lb t = getB r.lb t := h (.lb t)
    rw [this] at hcs; exact R.fr.lb t cs hcs

theorem countP_lt {p q : Nat → Bool} {i : Nat} : ∀ (l : List Nat), (∀ x, p x = true → q x = true) → i ∈ l → q i = true → p i = false → l.countP p + 1 ≤ l.countP q
  | [], _, h, _, _ => by simp at h
  | x :: l, hpq, hi, h1, h2 => by
    have hle : l.countP p ≤ l.countP q := List.countP_mono_left fun x _ h => hpq x h
    rw [List.countP_cons, List.countP_cons]
    rcases List.mem_cons.1 hi with rfl | hi
    · simp [h1, h2]; exact hle
    · have := countP_lt l hpq hi h1 h2
      cases hp : p x with
      | true => simp [hpq x hp]; exact this
      | false => simp; omega

theorem Rl.drawn {β : Nat → Option Nat} {σ : Sg} {W : World} {s : St} {tmps : Array Value} (R : Rl c N S β σ W s tmps) : Rl c N S β σ { W with drawn := W.drawn + 1 } s tmps :=
  R.step Step.drw R.inv.drw

theorem box_fresh {s s' : St} {x : Ent} {t : Nat} {dst : Option Nat} {cs : List V} {ob : O} (h1 : (match dst with
      | none => none
      | some t => if (c.esc f).contains t then some (Ent.v (.ptr s.h.length 0), push s ob)
        else if fresh t s.env then some (.lp t 0, { s with lb := (t, cs) :: s.lb.filter (fun p => p.1 != t) }) else none) = some (x, s'))
    (h2 : (match dst with | some t => if (c.esc f).contains t then none else some t | none => none) = some t) : fresh t s.env = true := by
  cases dst with
  | none => cases h2
  | some u =>
    simp only at h1 h2
    split at h2
    · cases h2
    · rename_i hc
      cases h2
      rw [if_neg hc] at h1
      split at h1
      · assumption
      · cases h1

theorem al_fresh {s s' : St} {o : Oper} {x : Ent} {t : Nat} (h : opV c call f lo o.dst s o.op = some (x, s')) (ha : (foot c f ops o s).al = some t) : fresh t s.env = true := by
  obtain ⟨dst, op, type, pos, after, guard⟩ := o
  cases op with
  | alloc ty =>
    simp only [opV, Option.bind_eq_bind] at h
    obtain ⟨z, _, h⟩ := Option.bind_eq_some_iff.1 h
    refine box_fresh h ?_
    simp only [foot] at ha
    cases dst with
    | none => cases ha
    | some u =>
      simp only at ha ⊢
      by_cases hc : (c.esc f).contains u = true
      · rw [if_pos hc] at ha; cases ha
      · rw [if_neg hc] at ha ⊢; exact ha
  | box ty y =>
    simp only [opV, Option.bind_eq_bind] at h
    obtain ⟨z, _, h⟩ := Option.bind_eq_some_iff.1 h
    split at h
    · cases h
    refine box_fresh h ?_
    simp only [foot] at ha
    cases dst with
    | none => cases ha
    | some u =>
      simp only at ha ⊢
      by_cases hc : (c.esc f).contains u = true
      · rw [if_pos hc] at ha; cases ha
      · rw [if_neg hc] at ha ⊢; exact ha
  | call k =>
    obtain ⟨callee, args, argTypes⟩ := k
    cases callee with
    | builtin b => cases b <;> cases ha
    | value g =>
      cases g <;> simp only [foot] at ha
      · cases ha
      · cases ha
      · cases ha
      · split at ha <;> cases ha
    | invoke q m => cases ha
  | _ =>
    simp only [foot] at ha
    first
      | (cases ha; done)
      | (split at ha <;> first | (cases ha; done) | (split at ha <;> cases ha))

theorem Stp.fresh {s s1 : St} {o : Oper} {F : Ft} {x : Ent} {t : Nat} (h : Stp c call f lo ops o s F x s1) (ha : F.al = some t) : AM.fresh t s.env = true := by
  rcases h with ⟨_, s', ho, rfl, _⟩ | ⟨_, _, rfl, _⟩
  · exact al_fresh ho ha
  · cases ha

theorem Stp.w {s s1 : St} {o : Oper} {F : Ft} {x : Ent} (h : Stp c call f lo ops o s F x s1) (t : Nat) : Loc.tmp t ∈ F.w ↔ o.dst = some t := by
  rcases h with ⟨_, s', _, rfl, _⟩ | ⟨_, _, rfl, _⟩
  · exact foot_w
  · cases o.dst <;> simp [eq_comm]

theorem getD_set {l : Array Bool} {i j : Nat} (hi : i < l.size) : (l.setIfInBounds i true).getD j false = if j = i then true else l.getD j false := by
  rw [Array.getD_eq_getD_getElem?, Array.getD_eq_getD_getElem?, Array.getElem?_setIfInBounds]
  by_cases h : i = j
  · subst h; simp [hi]
  · rw [if_neg h, if_neg (Ne.symm h)]

theorem draw_ok (hm : c.P.follows .mixedOrders = true) (hc : CallOk c call) (hp : PurOk c call) : DrawOk c call := by
  intro f lo N S ops id st st' β σ W a hw hbk h hi R hd
  refine wp_region_any hm ?_
  obtain ⟨ss, xs, Fs, e1, e2, e3, e4⟩ := trace ops.toList st st' h
  have hn : ops.toList.length = ops.size := by simp
  rw [hn] at e2 e3
  rw [e3] at hi
  obtain ⟨i1, i2, i3⟩ := indep_spec hi
  have op : ∀ i, i < ops.size → ∃ o, ops[i]? = some o ∧ Stp c call f lo ops o (ss i) (Fs i) (xs i) (ss (i + 1)) := by
    intro i hi
    exact ⟨_, Array.getElem?_eq_getElem hi, e4 i _ (by simp [hi])⟩
  have hdst : ∀ (j : Nat) t, (ops[j]?).bind Oper.dst = some t → t < N := by
    intro j t hj
    obtain ⟨oj, h1, h2⟩ := Option.bind_eq_some_iff.1 hj
    exact dst_lt hw h1 t h2
  -- along the text
  have self : ∀ i, i < ops.size → ∃ o, ops[i]? = some o ∧ Stp c call f lo ops o (ss i) (Fs i) (xs i) (ss (i + 1)) ∧ (∀ l, l ∉ (Fs i).w → At l (ss i) (ss (i + 1))) ∧ (∀ t off, xs i = .lp t off → (Fs i).lp = some t ∨ (Fs i).al = some t) ∧ (∀ t, (Fs i).al = some t → o.dst = some t) ∧
      (∀ u, getE (ss (i + 1)).env u = if o.dst = some u then xs i else getE (ss i).env u) := by
    intro i hi
    obtain ⟨o, ho, hs⟩ := op i hi
    obtain ⟨F', r1, k1, k2, k3, k4, k5, k6⟩ := hs.loc hp (r := ss i) (fun l _ => At.rfl') (fun t ht => hs.fresh ht)
    refine ⟨o, ho, hs, fun l hl => ?_, k4, k5, k6⟩
    have : r1 = ss (i + 1) := by
      rcases hs with ⟨hg, s', ho1, _, ho3⟩ | ⟨hg, ho1, _, ho3⟩ <;> rcases k1 with ⟨kg, s2, ko1, _, ko3⟩ | ⟨kg, ko1, _, ko3⟩ <;> rw [hg] at kg
      · rw [ho1] at ko1; cases ko1; rw [ho3, ko3]
      · cases kg
      · cases kg
      · rw [ho3, ko3]
    exact this ▸ k3 l hl
  have still : ∀ (l : Loc) j k, k ≤ j → j ≤ ops.size → (∀ m, k ≤ m → m < j → l ∉ (Fs m).w) → At l (ss k) (ss j) := by
    intro l j
    induction j with
    | zero => intro k hk _ _; rw [Nat.le_zero.1 hk]; exact At.rfl'
    | succ j ih =>
      intro k hk hj hm
      by_cases hkj : k = j + 1
      · subst hkj; exact At.rfl'
      · obtain ⟨_, _, _, h1, _⟩ := self j (by omega)
        exact (ih k (by omega) (by omega) fun m h1 h2 => hm m h1 (by omega)).trans (h1 l (hm j (by omega) (by omega)))
  have from_ : ∀ k, k ≤ ops.size → ∀ u, getE (ss k).env u = getE st.env u ∨ ∃ j, j < k ∧ getE (ss k).env u = xs j ∧ ∃ o, ops[j]? = some o ∧ o.dst = some u := by
    intro k
    induction k with
    | zero => intro _ u; exact .inl (by rw [e1])
    | succ k ih =>
      intro hk u
      obtain ⟨o, ho, _, _, _, _, k6⟩ := self k (by omega)
      by_cases hu : o.dst = some u
      · exact .inr ⟨k, by omega, by rw [k6, if_pos hu], o, ho, hu⟩
      · rw [k6, if_neg hu]
        rcases ih (by omega) u with h | ⟨j, h1, h2⟩
        · exact .inl h
        · exact .inr ⟨j, by omega, h2⟩
  have fin : ∀ (listed : Array Bool) (a : Act) (W : World) (β : Nat → Option Nat) (σ : Sg) (r : St), (∀ j, j < ops.size → listed.getD j false = true) → Rl c N S β σ W r a.tmps → a.defers = [] →
      (∀ l, ∃ k, k ≤ ops.size ∧ At l (ss k) r ∧ ∀ j, j < ops.size → l ∈ (Fs j).w → (listed.getD j false = true ↔ j < k)) → Out c N S .normal st' .normal a W := by
    intro listed a W β σ r hall R hd hv
    refine ⟨trivial, hd, β, σ, R.same fun l => ?_⟩
    obtain ⟨k, hk, h1, h2⟩ := hv l
    rw [← e2]
    refine (still l _ k hk (Nat.le_refl _) fun m hm1 hm2 hl => ?_).symm.trans h1
    have := (h2 m hm2 hl).1 (hall m hm2)
    omega
  have rdy : ∀ (listed : Array Bool), listed.size = ops.size → Region.ready .any ops listed = [] → ∀ j, j < ops.size → listed.getD j false = true := by
    intro listed hsz hr j
    induction j using Nat.strongRecOn with
    | ind j ih =>
      intro hj
      refine Classical.byContradiction fun hn => ?_
      have : j ∈ Region.ready .any ops listed := by
        unfold Region.ready
        rw [List.mem_filter]
        refine ⟨by simpa using hj, ?_⟩
        have h1 : listed.getD j true = false := by
          rw [Array.getD_eq_getD_getElem?, Array.getElem?_eq_getElem (by omega)] at hn ⊢
          simpa using hn
        rw [h1, Array.getElem?_eq_getElem hj]
        simp only [Bool.not_false, Bool.true_and, Option.map_some, Option.getD_some, Array.all_eq_true', Bool.or_eq_true, Bool.not_eq_true']
        intro e he
        cases hb : Region.binds .any e with
        | false => exact .inl rfl
        | true =>
          have hbk' := hbk
          unfold backOk at hbk'
          rw [List.all_eq_true] at hbk'
          have h2 := hbk' (ops[j], j) (by rw [List.mem_zipIdx_iff_getElem?]; simp [hj])
          simp only [Array.all_eq_true', Bool.or_eq_true, Bool.not_eq_true', decide_eq_true_eq] at h2
          have h3 := h2 e he
          rw [hb] at h3
          have hlt : e.on < j := by simpa using h3
          exact .inr (ih e.on hlt (by omega))
      rw [hr] at this
      cases this
  have main : ∀ fuel (listed : Array Bool) (a : Act) (W : World) (β : Nat → Option Nat) (σ : Sg) (r : St), listed.size = ops.size → (List.range ops.size).countP (fun i => !listed.getD i false) ≤ fuel →
      (∀ (j : Nat) o, ops[j]? = some o → listed.getD j false = true → ∀ e ∈ o.after, Region.binds .any e = true → listed.getD e.on false = true) → Rl c N S β σ W r a.tmps → a.defers = [] →
      (∀ l, ∃ k, k ≤ ops.size ∧ At l (ss k) r ∧ ∀ j, j < ops.size → l ∈ (Fs j).w → (listed.getD j false = true ↔ j < k)) → wpAny c.P .any ops (Out c N S .normal st') fuel listed a W := by
    intro fuel
    induction fuel with
    | zero =>
      intro listed a W β σ r hsz hcnt hcl R hd hv
      have hall : ∀ j, j < ops.size → listed.getD j false = true := by
        intro j hj
        have h0 : (List.range ops.size).countP (fun i => !listed.getD i false) = 0 := Nat.le_zero.1 hcnt
        rw [List.countP_eq_zero] at h0
        have := h0 j (by simpa using hj)
        simpa using this
      refine ⟨?_, fin listed a W β σ r hall R hd hv⟩
      unfold Region.ready
      rw [List.filter_eq_nil_iff]
      intro j hj
      have hj' : j < ops.size := by simpa using hj
      have h1 : listed.getD j true = true := by
        have := hall j hj'
        rw [Array.getD_eq_getD_getElem?, Array.getElem?_eq_getElem (by omega)] at this ⊢
        simpa using this
      simp [h1]
    | succ fuel ih =>
      intro listed a W β σ r hsz hcnt hcl R hd hv
      refine ⟨fun hr => fin listed a W β σ r (rdy listed hsz hr) R hd hv, fun i hir => ?_⟩
      unfold Region.ready at hir
      rw [List.mem_filter] at hir
      have hi : i < ops.size := by simpa using hir.1
      obtain ⟨o, ho, hs, _, k4, k5, k6⟩ := self i hi
      have hir2 := hir.2
      rw [ho] at hir2
      simp only [Bool.and_eq_true, Bool.not_eq_true', Option.map_some, Option.getD_some, Array.all_eq_true', Bool.or_eq_true] at hir2
      have hnl : listed.getD i false = false := by
        have := hir2.1
        rw [Array.getD_eq_getD_getElem?, Array.getElem?_eq_getElem (by omega)] at this ⊢
        simpa using this
      have hed : ∀ e ∈ o.after, Region.binds .any e = true → listed.getD e.on false = true := by
        intro e he hb
        rcases hir2.2 e he with h | h
        · rw [hb] at h; cases h
        · exact h
      have hA : ∀ j, ((Region.before ops).getD i 0).testBit j = true → listed.getD j false = true := before_done (L := fun j => listed.getD j false = true) hcl i o ho hed
      have hB : ∀ j, j < ops.size → listed.getD j false = true → ((Region.before ops).getD j 0).testBit i = true → False := by
        intro j hj hl hb
        obtain ⟨oj, hoj, _⟩ := op j hj
        have := before_done (L := fun j => listed.getD j false = true) hcl j oj hoj (hcl j oj hoj hl) i hb
        rw [hnl] at this; cases this
      have hrd : ∀ l ∈ (Fs i).r, At l (ss i) r := by
        intro l hl
        obtain ⟨k, hk, h1, h2⟩ := hv l
        by_cases hki : k ≤ i
        · refine (still l i k hki (by omega) fun m hm1 hm2 hlm => ?_).symm.trans h1
          rcases i1 m i hm2 hi with hb | ⟨c1, _, _⟩
          · have := (h2 m (by omega) hlm).1 (hA m hb); omega
          · exact c1 l hlm hl
        · refine (still l k i (by omega) hk fun m hm1 hm2 hlm => ?_).trans h1
          have hlm' := (h2 m (by omega) hlm).2 hm2
          have hne : i ≠ m := by rintro rfl; rw [hnl] at hlm'; cases hlm'
          rcases i1 i m (by omega) (by omega) with hb | ⟨_, _, c3⟩
          · exact hB m (by omega) hlm' hb
          · exact c3 l hlm hl
      have hfr : ∀ t, (Fs i).al = some t → fresh t r.env = true := by
        intro t ht
        rw [fresh_iff]
        intro u hu
        refine Classical.byContradiction fun hne => ?_
        obtain ⟨k, hk, h1, h2⟩ := hv (.tmp u)
        have h1 : getE (ss k).env u = getE r.env u := h1
        rw [← h1] at hne
        rcases from_ k hk u with h3 | ⟨j, hj, h3, oj, hoj, hdj⟩
        · rw [h3] at hne
          exact hne (fresh_iff.1 (i3 i t hi ht) u hu)
        · rw [h3] at hne
          obtain ⟨oj', hoj', hsj, _, q4, q5, _⟩ := self j (by omega)
          rw [hoj] at hoj'; cases hoj'
          have hlj := (h2 j (by omega) ((hsj.w u).2 hdj)).2 hj
          cases hx : xs j with
          | v v => rw [hx] at hne; exact hne rfl
          | lp t' off =>
            rw [hx] at hne
            have : t' = t := by simpa [Ent.isLp] using hne
            subst this
            rcases q4 t' off hx with q | q
            · exact hB j (by omega) hlj (i2 i j t' hi (by omega) ht q)
            · have := q5 t' q
              rw [hdj] at this; cases this; exact hu rfl
      obtain ⟨F', r1, q1, q2, q3, _, _, _⟩ := hs.loc hp hrd hfr
      have hnext : ∀ (a' : Act) (W' : World) (β' : Nat → Option Nat) (σ' : Sg), Rl c N S β' σ' W' r1 a'.tmps → a'.defers = [] → wpAny c.P .any ops (Out c N S .normal st') fuel (listed.setIfInBounds i true) a' W' := by
        intro a' W' β' σ' R' hd'
        have hgd : ∀ j, (listed.setIfInBounds i true).getD j false = if j = i then true else listed.getD j false := fun j => getD_set (by omega)
        refine ih _ a' W' β' σ' r1 (by simpa using hsz) ?_ ?_ R' hd' ?_
        · have := countP_lt (p := fun j => !(listed.setIfInBounds i true).getD j false) (q := fun j => !listed.getD j false) (i := i) (List.range ops.size) (fun j h => by
            rw [hgd] at h; split at h
            · cases h
            · exact h) (by simpa using hi) (by simp [hnl]) (by rw [hgd]; simp)
          omega
        · intro j oj hoj hlj e he hb
          rw [hgd] at hlj ⊢
          by_cases hej : e.on = i
          · rw [if_pos hej]
          · rw [if_neg hej]
            split at hlj
            · rename_i hji; subst hji; rw [ho] at hoj; cases hoj; exact hed e he hb
            · exact hcl j oj hoj hlj e he hb
        · intro l
          by_cases hl : l ∈ (Fs i).w
          · refine ⟨i + 1, by omega, q2 l hl, fun j hj hlj => ?_⟩
            rw [hgd]
            rcases Nat.lt_trichotomy j i with hlt | heq | hgt
            · rw [if_neg (by omega)]
              rcases i1 j i hlt hi with hb | ⟨_, c2, _⟩
              · exact ⟨fun _ => by omega, fun _ => hA j hb⟩
              · exact absurd hl (c2 l hlj)
            · rw [if_pos heq]; exact ⟨fun _ => by omega, fun _ => rfl⟩
            · rw [if_neg (by omega)]
              refine ⟨fun hlj' => ?_, fun h => by omega⟩
              rcases i1 i j hgt hj with hb | ⟨_, c2, _⟩
              · exact (hB j hj hlj' hb).elim
              · exact absurd hlj (c2 l hl)
          · obtain ⟨k, hk, h1, h2⟩ := hv l
            refine ⟨k, hk, h1.trans (q3 l hl), fun j hj hlj => ?_⟩
            have hji : j ≠ i := by rintro rfl; exact hl hlj
            rw [hgd, if_neg hji]
            exact h2 j hj hlj
      unfold wpOp
      rw [ho]
      simp only
      have hdo := dst_lt hw ho
      rcases q1 with ⟨hg, s', hv1, _, rfl⟩ | ⟨hg, hxi, _, rfl⟩
      · rw [yielded_of R hg hdst rfl]
        simp only [if_true]
        refine .inl (Oper.wp_mono (K := OpPost c N S (xs i) s' o.dst a) ?_ (op_sound hc R o hdo hv1))
        rintro a1 W1 ⟨β1, σ1, y, rfl, R1⟩
        exact hnext _ W1 β1 σ1 R1 (by cases o.dst <;> exact hd)
      · rw [yielded_of R hg hdst rfl]
        simp only [Bool.false_eq_true, if_false]
        have R1 := R.put (a := a) (dst := o.dst) (x := xs i) (y := Go.undef) (by rw [hxi]; exact VRel.tup_iff.2 ⟨#[], rfl, by simp [L2]⟩) hdo
        exact hnext _ W β σ R1 (by cases o.dst <;> exact hd)
  refine main _ _ _ _ β σ st (by simp) ?_ ?_ R.drawn hd ?_
  · have := List.countP_le_length (p := fun i => !(Array.replicate ops.size false).getD i false) (l := List.range ops.size)
    simp only [List.length_range] at this
    exact this
  · intro j o ho hj
    rw [Array.getD_eq_getD_getElem?, Array.getElem?_replicate] at hj
    split at hj <;> simp at hj
  · intro l
    refine ⟨0, Nat.zero_le _, by rw [e1]; exact At.rfl', fun j hj hl => ?_⟩
    rw [Array.getD_eq_getD_getElem?, Array.getElem?_replicate]
    split <;> simp
end
end Go.AM
namespace Go.AM
open Classical in
/-- What is known behind a pure call: objects from n on are gone; their boxes are rows that nobody writes to. -/
noncomputable def Sg.sld (σ : Sg) (h : H) (n : Nat) (W : World) : Sg :=
  { loc := fun id => if id < n then σ.loc id else none
    reg := fun c => if (∃ id cs d, n ≤ id ∧ h[id]? = some (O.cells cs) ∧ σ.loc id = some (c, d)) then some (bsize W c) else σ.reg c }

section
variable {c : Cx} {σ : Sg} {W : World} {h : H} {n : Nat}

theorem seal_reg_box {id k d : Nat} {cs : List V} (hn : n ≤ id) (hid : h[id]? = some (.cells cs)) (hl : σ.loc id = some (k, d)) : (σ.sld h n W).reg k = some (bsize W k) := by
  unfold Sg.sld
  simp only
  rw [if_pos ⟨id, cs, d, hn, hid, hl⟩]
theorem seal_reg (I : Inv σ h W) {k r : Nat} (hr : σ.reg k = some r) : (σ.sld h n W).reg k = some r := by
  unfold Sg.sld
  simp only
  rw [if_neg]
  · exact hr
  · rintro ⟨id, cs, d, _, hid, hl⟩
    obtain ⟨_, _, _, _, _, a⟩ := I.box id cs k d hid hl
    rw [a] at hr; cases hr

theorem Cl.get {R : V → Value → Prop} {k o i : Nat} {cs : List V} {v : V} (h : Cl R W k o cs) (hv : cs[i]? = some v) : ∃ y, cellAt W k (o + i) = some y ∧ R v y := h i v hv

theorem seal_rel (I : Inv σ h W) : ∀ {k : Nat} {v v' : V} {x : Value}, sealV h n k v = some v' → VRel σ W v x → VRel (σ.sld h n W) W v' x
  | 0, _, _, _, e, _ => by simp [sealV] at e
  | k + 1, v, v', x, e, hx => by
    have ih : ∀ {k' : Nat} {v v' : V} {x : Value}, k' ≤ k → sealV h n k' v = some v' → VRel σ W v x → VRel (σ.sld h n W) W v' x := fun _ e hx => seal_rel I e hx
    have ihk : ∀ {k' : Nat} {v v' : V} {x : Value}, k' ≤ k → sealV h n k' v = some v' → Ck (VRel σ W) v x → Ck (VRel (σ.sld h n W) W) v' x := fun hk e hx => ⟨seal_okc e hx.1, seal_rel I e hx.2⟩
    have lists : ∀ {l l' : List V} {xs : List Value}, sealL (sealV h n k) l = some l' → L2 (VRel σ W) l xs → L2 (VRel (σ.sld h n W) W) l' xs := by
      intro l l' xs hl hx
      obtain ⟨h1, h2⟩ := sealL_get hl
      refine ⟨by rw [h1, hx.1], fun i a b ha hb => ?_⟩
      obtain ⟨u, hu, hs⟩ := h2 i a ha
      exact ih (Nat.le_refl _) hs (hx.2 i u b hu hb)
    have listsK : ∀ {l l' : List V} {xs : List Value}, sealL (sealV h n k) l = some l' → L2 (Ck (VRel σ W)) l xs → L2 (Ck (VRel (σ.sld h n W) W)) l' xs := by
      intro l l' xs hl hx
      obtain ⟨h1, h2⟩ := sealL_get hl
      refine ⟨by rw [h1, hx.1], fun i a b ha hb => ?_⟩
      obtain ⟨u, hu, hs⟩ := h2 i a ha
      exact ihk (Nat.le_refl _) hs (hx.2 i u b hu hb)
    have cls : ∀ {l l' : List V} {cc o : Nat}, sealL (sealV h n k) l = some l' → Cl (Ck (VRel σ W)) W cc o l → Cl (Ck (VRel (σ.sld h n W) W)) W cc o l' := by
      intro l l' cc o hl hx i a ha
      obtain ⟨h1, h2⟩ := sealL_get hl
      obtain ⟨u, hu, hs⟩ := h2 i a ha
      obtain ⟨y, hy, r⟩ := hx i u hu
      exact ⟨y, hy, ihk (Nat.le_refl _) hs r⟩
    simp only [sealV] at e
    cases v with
    | s a => cases e; exact VRel.s_iff.2 (VRel.s_iff.1 hx)
    | undef => cases e; exact .undef
    | agg cs => obtain ⟨l, hl, rfl⟩ := Option.map_eq_some_iff.1 e; obtain ⟨xs, ex, r⟩ := VRel.agg_iff.1 hx; exact VRel.agg_iff.2 ⟨xs, ex, listsK hl r⟩
    | tup cs => obtain ⟨l, hl, rfl⟩ := Option.map_eq_some_iff.1 e; obtain ⟨xs, ex, r⟩ := VRel.tup_iff.1 hx; exact VRel.tup_iff.2 ⟨xs, ex, lists hl r⟩
    | ptr b off =>
      simp only at e
      obtain ⟨cc, d, hl, ex⟩ := VRel.ptr_iff.1 hx
      split at e
      · rename_i hb
        cases e
        exact VRel.ptr_iff.2 ⟨cc, d, by simp [Sg.sld, hb, hl], ex⟩
      · rename_i hb
        simp only [Option.bind_eq_bind] at e
        obtain ⟨cs0, hcs0, e⟩ := Option.bind_eq_some_iff.1 e
        split at e
        · cases e
        rename_i hoff
        obtain ⟨cs, hcs, e⟩ := Option.bind_eq_some_iff.1 e
        cases e
        have hid : h[b]? = some (.cells cs0) := by
          unfold cellsAt at hcs0
          split at hcs0
          · rename_i q hq; cases hcs0; exact hq
          · cases hcs0
        obtain ⟨arr, e', a1, a2, a3, a4⟩ := I.box b cs0 cc d hid hl
        have hlen := (sealL_get hcs).1
        refine VRel.vptr_iff.2 ⟨cc, d + off, bsize W cc, ex, seal_reg_box (by omega) hid hl, ?_, ?_⟩
        · rw [bsize_of a1]; simp [hlen]; omega
        · have : Cl (Ck (VRel σ W)) W cc d cs0 := fun i v hv => let ⟨y, hy, r⟩ := a3 i v hv; ⟨y, by rw [cellAt_of a1]; exact hy, r⟩
          intro i a ha
          rw [List.getElem?_drop] at ha
          obtain ⟨y, hy, r⟩ := cls hcs this (off + i) a ha
          exact ⟨y, by rw [Nat.add_assoc]; exact hy, r⟩
    | vptr cs =>
      obtain ⟨l, hl, rfl⟩ := Option.map_eq_some_iff.1 e
      obtain ⟨cc, o, r, ex, h1, h2, h3⟩ := VRel.vptr_iff.1 hx
      exact VRel.vptr_iff.2 ⟨cc, o, r, ex, seal_reg I h1, by rw [(sealL_get hl).1]; exact h2, cls hl h3⟩
    | vsl t w l =>
      simp only [Option.bind_eq_bind] at e
      obtain ⟨l', hl, e⟩ := Option.bind_eq_some_iff.1 e
      cases e
      obtain ⟨h1, h2⟩ := sealL_get hl
      obtain ⟨base, cap, ex, z0, z1, c1, c2, c3, c4⟩ := VRel.vsl_iff.1 hx
      have hnil : ∀ t : Tk, (match t with | .tip id => if id < n then t else .dead | t => t) = .nil → t = .nil := by
        intro t ht; cases t <;> simp at ht <;> first | rfl | (split at ht <;> cases ht)
      have hfull : ∀ t : Tk, (match t with | .tip id => if id < n then t else .dead | t => t) = .full → t = .full := by
        intro t ht; cases t <;> simp at ht <;> first | rfl | (split at ht <;> cases ht)
      have htip : ∀ (t : Tk) id, (match t with | .tip id => if id < n then t else .dead | t => t) = .tip id → t = .tip id ∧ id < n := by
        intro t id ht
        cases t with
        | dead => simp at ht
        | full => simp at ht
        | nil => simp at ht
        | tip j => simp only at ht; split at ht
                   · rename_i hj; cases ht; exact ⟨rfl, hj⟩
                   · cases ht
      refine VRel.vsl_iff.2 ⟨base, cap, by rw [h1]; exact ex, z0, fun ht => z1 (hnil t ht), by rw [h1]; exact c1, fun ht => by rw [h1]; exact c2 (hfull t ht), fun h0 id hid => ?_, fun h0 => ?_⟩
      · have : l = [] := List.length_eq_zero_iff.1 (by rw [← h1, h0]; rfl)
        obtain ⟨e1, e2⟩ := htip t id hid
        obtain ⟨cc, o, b1, b2, b3, b4⟩ := c3 this id e1
        exact ⟨cc, o, b1, b2, by simp [Sg.sld, e2, b3], b4⟩
      · have hl0 : l ≠ [] := by rintro rfl; exact h0 (List.length_eq_zero_iff.1 (by rw [h1]; rfl))
        obtain ⟨cc, o, r, hs, w0, w1, w2, w3, w4, w5⟩ := c4 hl0
        obtain ⟨f1, f2⟩ := flat_seal hl w1
        refine ⟨cc, o, r, hs, w0, f1, seal_reg I w2, by rw [h1]; exact w3, ?_, fun id hid => ?_⟩
        · intro i a ha
          obtain ⟨u, k', hu, hk', hsu⟩ := f2 i a ha
          obtain ⟨y, hy, ry⟩ := w4 i u hu
          exact ⟨y, hy, ihk hk' hsu ry⟩
        · obtain ⟨e1, e2⟩ := htip t id hid
          obtain ⟨p1, p2⟩ := w5 id e1
          exact ⟨by rw [h1]; simp [Sg.sld, e2, p1], p2⟩
    | msl b off len w =>
      simp only at e
      obtain ⟨cc, d, cap, hl, ex, c1, c2, c3, c4⟩ := VRel.msl_iff.1 hx
      split at e
      · rename_i hb
        cases e
        exact VRel.msl_iff.2 ⟨cc, d, cap, by simp [Sg.sld, hb, hl], ex, c1, c2, c3, c4⟩
      · rename_i hb
        simp only [Option.bind_eq_bind] at e
        obtain ⟨cs0, hcs0, e⟩ := Option.bind_eq_some_iff.1 e
        split at e
        · cases e
        rename_i hoff
        obtain ⟨cs, hcs, e⟩ := Option.bind_eq_some_iff.1 e
        cases e
        have hid : h[b]? = some (.cells cs0) := by
          unfold cellsAt at hcs0
          split at hcs0
          · rename_i q hq; cases hcs0; exact hq
          · cases hcs0
        obtain ⟨arr, e', a1, a2, a3, a4⟩ := I.box b cs0 cc d hid hl
        obtain ⟨g1, g2⟩ := sealL_get hcs
        have g1' : cs.length = len * w := by rw [g1]; simp; omega
        have hcl : Cl (Ck (VRel σ W)) W cc (d + off) ((cs0.drop off).take (len * w)) := by
          intro i v hv
          rw [List.getElem?_take] at hv
          split at hv
          · rw [List.getElem?_drop] at hv
            obtain ⟨y, hy, r⟩ := a3 _ v hv
            exact ⟨y, by rw [cellAt_of a1, Nat.add_assoc]; exact hy, r⟩
          · cases hv
        have hcs2 := cls hcs hcl
        have hok : ∀ v ∈ cs, okc v = true := by
          intro v hv
          obtain ⟨i, hi, he⟩ := List.mem_iff_getElem.1 hv
          obtain ⟨_, _, r⟩ := hcs2 i v (by rw [List.getElem?_eq_getElem hi, he])
          exact r.1
        obtain ⟨f1, f2, f3⟩ := flat_chunks c2 len cs (by omega) hok
        refine VRel.vsl_iff.2 ⟨some ⟨cc, d + off, none⟩, cap, by rw [f3]; exact ex, fun h => (by cases h), fun h => (by cases h), by rw [f3]; exact c1, ?_, ?_, fun h0 => ⟨cc, d + off, bsize W cc, rfl, c2, f1, seal_reg_box (by omega) hid hl, ?_, ?_, ?_⟩⟩
        · intro ht; cases ht
        · intro _ id hid; cases hid
        · rw [f3]
          have : len * w ≤ cap * w := Nat.mul_le_mul_right _ c1
          omega
        · rw [f2, List.take_of_length_le (by omega)]
          exact hcs2
        · intro id hid; cases hid
    | map r =>
      simp only at e
      split at e
      · rename_i hb
        cases e
        obtain ⟨cc, hl, ex⟩ := VRel.map_iff.1 hx
        exact VRel.map_iff.2 ⟨cc, by simp [Sg.sld, hb, hl], ex⟩
      · cases e
    | fn f a b =>
      simp only [Option.bind_eq_bind] at e
      obtain ⟨a', ha, e⟩ := Option.bind_eq_some_iff.1 e
      obtain ⟨b', hb, e⟩ := Option.bind_eq_some_iff.1 e
      cases e
      obtain ⟨xs, ys, ex, r1, r2⟩ := VRel.fn_iff.1 hx
      exact VRel.fn_iff.2 ⟨xs, ys, ex, lists ha r1, lists hb r2⟩
    | ifc t u =>
      obtain ⟨u', hu, rfl⟩ := Option.map_eq_some_iff.1 e
      obtain ⟨y, ex, r⟩ := VRel.ifc_iff.1 hx
      exact VRel.ifc_iff.2 ⟨y, ex, ih (Nat.le_refl _) hu r⟩

/-- Behind a pure call all is as it was. -/
theorem seal_inv {σ0 : Sg} {h0 : H} {W0 : World} (I0 : Inv σ0 h0 W0) (I : Inv σ h W) (s : Step σ0 h0 W0 σ h W) (hk : Kp h0.length h0 h) : Inv (σ.sld h h0.length W) h0 W ∧ Step σ0 h0 W0 (σ.sld h h0.length W) h0 W := by
  have hd : ∀ id p, σ0.loc id = some p → id < h0.length := fun id p hp => (I0.lsz id p.1 p.2 hp).2
  have hl : ∀ id, id < h0.length → (σ.sld h h0.length W).loc id = σ.loc id := fun id hid => by simp [Sg.sld, hid]
  have hr : ∀ k r, σ.reg k = some r → ∃ r', (σ.sld h h0.length W).reg k = some r' ∧ r ≤ r' := fun k r h => ⟨r, seal_reg I h, Nat.le_refl _⟩
  have old : ∀ (id : Nat) (o : O), h0[id]? = some o → h[id]? = some o := fun id o ho => by rw [hk.2 id (List.getElem?_eq_some_iff.1 ho).1]; exact ho
  have loc0 : ∀ id p, (σ.sld h h0.length W).loc id = some p → id < h0.length ∧ σ.loc id = some p := by
    intro id p hp
    by_cases hid : id < h0.length
    · exact ⟨hid, by rw [hl id hid] at hp; exact hp⟩
    · simp [Sg.sld, hid] at hp
  have regn : ∀ (id : Nat) (o : O) k d, h0[id]? = some o → o.live = true → σ.loc id = some (k, d) → (σ.sld h h0.length W).reg k = σ.reg k := by
    intro id o k d ho hlv hl'
    unfold Sg.sld
    simp only
    rw [if_neg]
    rintro ⟨id2, cs, d2, hn, hid2, hl2⟩
    have := I.inj id id2 o _ k d d2 (old id o ho) hlv hid2 rfl hl' hl2
    have := (List.getElem?_eq_some_iff.1 ho).1
    omega
  refine ⟨?_, ?_⟩
  · constructor
    · intro id cs k d hid hl'
      obtain ⟨_, l1⟩ := loc0 id _ hl'
      obtain ⟨arr, e, a1, a2, a3, a4⟩ := I.box id cs k d (old id _ hid) l1
      have l0 := s.old id _ l1 (List.getElem?_eq_some_iff.1 hid).1
      obtain ⟨arr0, e0, b1, b2, b3, b4⟩ := I0.box id cs k d hid l0
      refine ⟨arr, e, a1, a2, fun i v hv => ?_, by rw [regn id _ k d hid rfl l1]; exact a4⟩
      obtain ⟨y, hy, r⟩ := a3 i v hv
      obtain ⟨y0, _, r0⟩ := b3 i v hv
      exact ⟨y, hy, r.1, VRel.restrict hd hl hr r0.2 r.2⟩
    · intro id k d hid hl'
      obtain ⟨_, l1⟩ := loc0 id _ hl'
      obtain ⟨a1, a2⟩ := I.tip id k d (old id _ hid) l1
      exact ⟨by rw [regn id _ k d hid rfl l1]; exact a1, a2⟩
    · intro id es k d hid hq hl'
      obtain ⟨_, l1⟩ := loc0 id _ hl'
      obtain ⟨a1, ob, a2, a3⟩ := I.map id es k d (old id _ hid) hq l1
      have l0 := s.old id _ l1 (List.getElem?_eq_some_iff.1 hid).1
      obtain ⟨b1, ob0, b2, b3⟩ := I0.map id es k d hid hq l0
      exact ⟨by rw [regn id _ k d hid (O.opq_live hq) l1]; exact a1, ob, a2, OpR.restrict hd hl hr b3 a3⟩
    · intro id id' o o' k d d' g1 g2 g3 g4 g5 g6
      exact I.inj id id' o o' k d d' (old id o g1) g2 (old id' o' g3) g4 (loc0 _ _ g5).2 (loc0 _ _ g6).2
    · intro k r hk'
      by_cases hb : ∃ id cs d, h0.length ≤ id ∧ h[id]? = some (O.cells cs) ∧ σ.loc id = some (k, d)
      · obtain ⟨id, cs, d, g1, g2, g3⟩ := hb
        obtain ⟨arr, e, a1, _⟩ := I.box id cs k d g2 g3
        rw [seal_reg_box g1 g2 g3] at hk'
        cases hk'
        exact ⟨arr, e, (0, 0), a1, by rw [bsize_of a1]; exact Nat.le_refl _⟩
      · have : (σ.sld h h0.length W).reg k = σ.reg k := by unfold Sg.sld; simp only; rw [if_neg hb]
        rw [this] at hk'
        exact I.rsz k r hk'
    · intro id k d hl'
      obtain ⟨l0, l1⟩ := loc0 id _ hl'
      exact ⟨(I.lsz id k d l1).1, l0⟩
  · refine ⟨⟨fun id p hp => by rw [hl id (hd id p hp)]; exact s.mo.loc id p hp, fun k r hk' => ?_, s.mo.cel, s.mo.bsz, s.mo.bse⟩, s.os, s.tape, s.output, s.wsz, Nat.le_refl _, fun k hk' hu => ?_, fun k hk' hh => ?_, fun id p hp hid => s.old id p (loc0 id p hp).2 hid⟩
    · obtain ⟨r', e1, e2⟩ := s.mo.reg k r hk'
      exact ⟨r', seal_reg I e1, e2⟩
    · obtain ⟨e1, e2⟩ := s.frm k hk' hu
      refine ⟨e1, ?_⟩
      unfold Sg.sld
      simp only
      rw [if_neg]
      · exact e2
      · rintro ⟨id, cs, d, _, g2, g3⟩
        exact hu (s.hos k hk' ⟨id, _, d, g2, rfl, g3⟩)
    · obtain ⟨id, o, d, g1, g2, g3⟩ := hh
      obtain ⟨l0, l1⟩ := loc0 id _ g3
      exact ⟨id, o, d, g1, g2, s.old id _ l1 l0⟩

/-- What is asked of the program and of what stands beside it. -/
structure Good (c : Cx) : Prop where
  mixed : c.P.follows .mixedOrders = true
  wf : ∀ (f : Nat) (fn : Func) (code : Code), c.P.funcs[f]? = some fn → fn.body = some code → wfC fn.ntmps code = true ∧ fn.name ≠ "runtime.NumGoroutine"
  prim : ∀ f g, c.prim f = some g → (∀ xs W, (callFunc f xs).run c.P W = .ok (.enter f xs) W) ∧ ∀ args v, g args = some v → ∀ (h : H) σ W (xs : Array Value), L2 (VRel σ W) args xs.toList → Inv σ h W → GlobOk c σ W →
    Calls c.P f xs W (fun e W' => ∃ z σ', e = .returned z ∧ VRel σ' W' v z ∧ Inv σ' h W' ∧ Step σ h W σ' h W')
  hprim : ∀ f g, c.hprim f = some g → (∀ xs W, (callFunc f xs).run c.P W = .ok (.enter f xs) W) ∧ ∀ args h v s n, g args h = some (v, s, n) → ∀ σ W (xs : Array Value), L2 (VRel σ W) args xs.toList → Inv σ h W → GlobOk c σ W →
    Calls c.P f xs W (fun e W' => ∃ z σ', e = .returned z ∧ VRel σ' W' v z ∧ Inv σ' ((s.foldl (fun h p => h.set p.1 p.2) h) ++ n) W' ∧ Step σ h W σ' ((s.foldl (fun h p => h.set p.1 p.2) h) ++ n) W')

theorem getE_args (args : List V) (t : Nat) : getE (argsE args) t = match args[t]? with | some v => .v v | none => .v .undef := by
  have : ∀ (l : List V) (k : Nat), getE (l.mapIdx fun i v => (i + k, Ent.v v)) t = if t < k then .v .undef else match l[t - k]? with | some v => .v v | none => .v .undef := by
    intro l
    induction l with
    | nil => intro k; simp [getE]
    | cons v l ih =>
      intro k
      rw [List.mapIdx_cons]
      simp only [getE, Nat.zero_add]
      have e : (List.mapIdx (fun i v => (i + 1 + k, Ent.v v)) l) = List.mapIdx (fun i v => (i + (k + 1), Ent.v v)) l := by congr 1; funext i v; congr 1; omega
      rw [e, ih (k + 1)]
      by_cases h : k = t
      · subst h; simp
      · rw [if_neg h]
        by_cases h2 : t < k
        · rw [if_pos (by omega), if_pos h2]
        · rw [if_neg (by omega), if_neg h2]
          rw [show t - k = (t - (k + 1)) + 1 by omega, List.getElem?_cons_succ]
  have := this args 0
  simpa [argsE] using this

theorem resV_run {N : Nat} {S : Snap} {β : Nat → Option Nat} {st : St} {a : Act} (R : Rl c N S β σ W st a.tmps) {r : ResultVar} {v : V} (h : resV c st r = some v) :
    ∃ z, (match r with | .tmp t => pure (a.tmps.getD t Go.undef) | .cell p t => do loadVar t (← asAddr (a.tmps.getD p Go.undef)) : Sem Value).run c.P W = .ok z W ∧ VRel σ W v z := by
  cases r with
  | tmp t => exact ⟨_, rfl, (evalV_rel R (o := .tmp t) h).1⟩
  | cell p t =>
    simp only [resV] at h
    obtain ⟨z, hz, r⟩ := loadAt_run R (R.fr.env p) h
    refine ⟨z, ?_, r⟩
    simp only [Instr.loadAt, Sem.run_bind] at hz
    have key : ∀ y : Value, (Sem.run c.P (Instr.sureAddr y) W).andThen (fun b w => Sem.run c.P (loadVar t b) w) = .ok z W → (Sem.run c.P (asAddr y) W).andThen (fun b w => Sem.run c.P (loadVar t b) w) = .ok z W := by
      intro y hz
      cases y with
      | pointer q =>
        cases q with
        | some q => simp only [Instr.sureAddr, Sem.run_pure, Result.andThen_ok] at hz; simp only [asAddr, Sem.run_pure, Result.andThen_ok]; exact hz
        | none => simp [Instr.sureAddr] at hz
      | _ => simp [Instr.sureAddr] at hz
    simp only [Sem.run_bind]
    exact key _ hz

theorem resL_run {N : Nat} {S : Snap} {β : Nat → Option Nat} {st : St} {a : Act} (R : Rl c N S β σ W st a.tmps) : ∀ {rs : List ResultVar} {l : List V}, resL c st rs = some l →
    ∃ zs : List Value, (rs.mapM (fun r => (match r with | .tmp t => pure (a.tmps.getD t Go.undef) | .cell p t => do loadVar t (← asAddr (a.tmps.getD p Go.undef)) : Sem Value))).run c.P W = .ok zs W ∧ L2 (VRel σ W) l zs
  | [], l, h => by cases h; exact ⟨[], rfl, by simp [L2]⟩
  | r :: rs, l, h => by
    simp only [resL, Option.bind_eq_bind] at h
    obtain ⟨v, hv, h⟩ := Option.bind_eq_some_iff.1 h
    obtain ⟨l', hl, h⟩ := Option.bind_eq_some_iff.1 h
    cases h
    obtain ⟨z, hz, rz⟩ := resV_run R hv
    obtain ⟨zs, hzs, rzs⟩ := resL_run R hl
    refine ⟨z :: zs, by simp only [List.mapM_cons, Sem.run_bind, hz, hzs, Result.andThen_ok, Sem.run_pure], by simp [rzs.1], fun i p q hp hq => ?_⟩
    cases i with
    | zero => simp at hp hq; subst hp; subst hq; exact rz
    | succ i => exact rzs.2 i p q (by simpa using hp) (by simpa using hq)

theorem results_run {N : Nat} {S : Snap} {β : Nat → Option Nat} {st : St} {a : Act} {fn : Func} {v : V} (R : Rl c N S β σ W st a.tmps) (h : resultsV c st fn.results.toList = some v) : ∃ z, (results fn a.tmps).run c.P W = .ok z W ∧ VRel σ W v z := by
  have gen : ∀ {l : List V}, resL c st fn.results.toList = some l → ∃ zs : List Value, zs.length = fn.results.toList.length ∧ L2 (VRel σ W) l zs ∧ (results fn a.tmps).run c.P W = .ok (if h : zs.toArray.size = 1 then zs.toArray[0] else .tuple zs.toArray) W := by
    intro l hl
    obtain ⟨zs, hz, r⟩ := resL_run R hl
    refine ⟨zs, ?_, r, ?_⟩
    · rw [← r.1]
      have : ∀ {rs : List ResultVar} {l : List V}, resL c st rs = some l → l.length = rs.length := by
        intro rs
        induction rs with
        | nil => intro l h; cases h; rfl
        | cons r rs ih =>
          intro l h
          simp only [resL, Option.bind_eq_bind] at h
          obtain ⟨v, hv, h⟩ := Option.bind_eq_some_iff.1 h
          obtain ⟨l', hl, h⟩ := Option.bind_eq_some_iff.1 h
          cases h; simp [ih hl]
      exact this hl
    · unfold results
      simp only [Array.mapM_eq_mapM_toList, Sem.run_bind, Sem.run_map, Sem.run_pure]
      exact congrArg (fun r : Result (List Value) => (r.andThen fun a w' => Result.ok a.toArray w').andThen fun a w' => .ok (if h : a.size = 1 then a[0] else Value.tuple a) w') hz
  unfold resultsV at h
  split at h
  · rename_i r hr
    have hl : resL c st fn.results.toList = some [v] := by rw [hr]; simp [resL, h]
    obtain ⟨zs, h1, h2, h3⟩ := gen hl
    rw [hr] at h1
    obtain ⟨z, rfl⟩ : ∃ z, zs = [z] := by
      match zs, h1 with
      | [z], _ => exact ⟨z, rfl⟩
    exact ⟨z, h3, h2.2 0 v z rfl rfl⟩
  · rename_i hne
    obtain ⟨l, hl, rfl⟩ := Option.map_eq_some_iff.1 h
    obtain ⟨zs, h1, h2, h3⟩ := gen hl
    refine ⟨.tuple zs.toArray, ?_, VRel.tup_iff.2 ⟨zs.toArray, rfl, h2⟩⟩
    rw [h3, dif_neg]
    intro e
    have : fn.results.toList.length = 1 := by rw [← h1]; simpa using e
    match hq : fn.results.toList, this with
    | [r], _ => exact hne r hq

theorem bodyV_pure {c : Cx} {k lo g : Nat} {args : List V} {h h' : H} {v : V} (e : bodyV c (fun lo f code st => exec c (denK c k) f lo k 0 code st) lo g args h = some (v, h')) (hp : c.pur g = true) : h' = h := by
    unfold bodyV at e
    split at e
    · obtain ⟨v', hv, e⟩ := Option.map_eq_some_iff.1 e
      cases e; rfl
    split at e
    · unfold hpV at e; rw [if_pos hp] at e; cases e
    · split at e
      case h_2 => cases e
      split at e
      case h_2 => cases e
      split at e
      · cases e
      split at e
      · cases e
      · cases e
      · simp only [hp, if_true, Option.bind_eq_bind] at e
        obtain ⟨v0, hv0, e⟩ := Option.bind_eq_some_iff.1 e
        obtain ⟨v1, hv1, e⟩ := Option.bind_eq_some_iff.1 e
        cases e; rfl
theorem denK_pure {c : Cx} : ∀ k, PurOk c (denK c k)
  | 0, lo, g, args, h, v, h', e, _ => by cases e
  | k + 1, lo, g, args, h, v, h', e, hp => by
    simp only [denK, frzV] at e
    split at e
    · split at e
      · split at e
        · split at e
          · cases e; rfl
          · cases e
        · cases e
      · cases e
    · exact bodyV_pure e hp

/-- What a body tells, the machine does. -/
theorem body_sound {c : Cx} (G : Good c) {k : Nat} (ih : CallOk c (denK c k)) {lo g : Nat} {args : List V} {h h' : H} {v : V} (e : bodyV c (fun lo f code st => exec c (denK c k) f lo k 0 code st) lo g args h = some (v, h')) :
    (∀ xs W, (callFunc g xs).run c.P W = .ok (.enter g xs) W) ∧ ∀ σ W (xs : Array Value), L2 (VRel σ W) args xs.toList → Inv σ h W → GlobOk c σ W →
    Calls c.P g xs W (fun e W' => ∃ z σ', e = .returned z ∧ VRel σ' W' v z ∧ Inv σ' h' W' ∧ Step σ h W σ' h' W') := by
    unfold bodyV at e
    split at e
    · rename_i p hp
      obtain ⟨v', hv, e⟩ := Option.map_eq_some_iff.1 e
      cases e
      obtain ⟨p1, p2⟩ := G.prim g p hp
      exact ⟨p1, fun σ W xs hx I hg => p2 _ v hv h σ W xs (fg_lists (fun _ _ h => h.fg) hx) I hg⟩
    split at e
    · rename_i p hp
      unfold hpV at e
      split at e
      · cases e
      split at e
      · rename_i u s n he
        split at e
        · cases e
          obtain ⟨p1, p2⟩ := G.hprim g p hp
          exact ⟨p1, p2 _ _ _ _ _ he⟩
        · cases e
      · cases e
    · split at e
      case h_2 => cases e
      rename_i fn hfn
      split at e
      case h_2 => cases e
      rename_i code hcode
      obtain ⟨hw, hnm⟩ := G.wf g fn code hfn hcode
      split at e
      · cases e
      rename_i hlen
      have hen : ∀ xs W, (callFunc g xs).run c.P W = .ok (.enter g xs) W := by
        intro xs W
        simp only [callFunc, Sem.run_bind, run_program, Result.andThen_ok, hfn]
        rw [if_neg (by simpa using hnm)]
        simp [hcode]
      refine ⟨hen, fun σ W xs hx I hg => ?_⟩
      have hx : L2 (VRel σ W) (if c.pur g = true then fgL args else args) xs.toList := by
        split
        · exact fg_lists (fun _ _ h => h.fg) hx
        · exact hx
      have hlen : ¬ (if c.pur g = true then fgL args else args).length > fn.ntmps := by
        split
        · rw [fgL_len]; exact hlen
        · exact hlen
      generalize (if c.pur g = true then fgL args else args) = args at e hx hlen
      have hxl : args.length = xs.size := by have := hx.1; simpa using this
      have R0 : Rl c fn.ntmps ⟨σ, h, W⟩ (fun _ => none) σ W { env := argsE args, lb := [], h := h } (xs ++ Array.replicate (fn.ntmps - xs.size) Go.undef) := by
        refine ⟨⟨by simp; omega, fun t => ?_, fun t cs hcs => (by cases hcs), fun t k hk => (by cases hk), fun t t' k hk => (by cases hk)⟩, I, Step.refl _ _ _, hg⟩
        show ER _ σ W (getE (argsE args) t) _
        rw [getE_args]
        cases ht : args[t]? with
        | none => exact VRel.undef
        | some u =>
          have hlt := (List.getElem?_eq_some_iff.1 ht).1
          have hx2 : xs[t]? = some xs[t] := Array.getElem?_eq_getElem (by omega)
          have : (xs ++ Array.replicate (fn.ntmps - xs.size) Go.undef).getD t Go.undef = xs[t] := by
            rw [Array.getD_eq_getD_getElem?, Array.getElem?_append_left (by omega), hx2]; rfl
          rw [this]
          exact hx.2 t u _ ht (by simpa using hx2)
      -- the body
      have fin : ∀ {x : X} {st : St} {lo' : Nat}, exec c (denK c k) g lo' k 0 code { env := argsE args, lb := [], h := h } = some (x, st) → (x = .normal ∨ x = .ret) →
          ∀ (Rr : Ending → World → Prop), (∀ a' W' β' σ', Rl c fn.ntmps ⟨σ, h, W⟩ β' σ' W' st (Act.tmps a') → ∃ z, (results fn a'.tmps).run c.P W' = .ok z W' ∧ Rr (.returned z) W') → Calls c.P g xs W Rr := by
        intro x st lo' hex hx' Rr hR
        refine calls_of_wp hfn hcode ?_
        refine wp_mono (exec_sound (a := ⟨xs ++ Array.replicate (fn.ntmps - xs.size) Go.undef, []⟩) (ih) (draw_ok G.mixed (ih) (denK_pure k)) k code 0 _ x st _ σ W hw hex R0 rfl) ?_
        rintro ex a' W' ⟨hm, hd, β', σ', R'⟩
        obtain ⟨z, hz, hr⟩ := hR a' W' β' σ' R'
        rcases hx' with rfl | rfl <;> cases ex <;> simp [XM] at hm <;> exact ⟨hd, z, hz, hr⟩
      split at e
      · cases e
      · cases e
      · rename_i x st hnx hex
        have hx' : x = .normal ∨ x = .ret := by
          cases x with
          | normal => exact .inl rfl
          | ret => exact .inr rfl
          | exit i => exact absurd rfl (hnx i)
        split at e
        · -- a pure one
          rename_i hp
          rw [if_pos hp] at hex
          simp only [Option.bind_eq_bind] at e
          obtain ⟨v0, hv0, e⟩ := Option.bind_eq_some_iff.1 e
          obtain ⟨v1, hv1, e⟩ := Option.bind_eq_some_iff.1 e
          cases e
          have hkp := exec_keep (denK_keep c k) k code 0 _ x st hex (Nat.le_refl _)
          refine fin hex hx' _ (fun a' W' β' σ' R' => ?_)
          obtain ⟨z, hz, rz⟩ := results_run R' hv0
          obtain ⟨I', s'⟩ := seal_inv I R'.inv R'.stp hkp
          exact ⟨z, hz, z, _, rfl, (seal_rel R'.inv hv1 rz).fg, I', s'⟩
        · simp only [Option.bind_eq_bind] at e
          obtain ⟨v0, hv0, e⟩ := Option.bind_eq_some_iff.1 e
          cases e
          refine fin hex hx' _ (fun a' W' β' σ' R' => ?_)
          obtain ⟨z, hz, rz⟩ := results_run R' hv0
          exact ⟨z, hz, z, σ', rfl, rz, R'.inv, R'.stp⟩
theorem flat_rel {σ σ' : Sg} {W W' : World} : ∀ {k : Nat} {v : V} {x : Value}, flat k v = true → VRel σ W v x → VRel σ' W' v x
  | 0, _, _, e, _ => by simp [flat] at e
  | k + 1, v, x, e, hx => by
    cases v with
    | s a => exact VRel.s_iff.2 (VRel.s_iff.1 hx)
    | agg cs =>
      simp only [flat] at e
      obtain ⟨xs, h1, h2⟩ := VRel.agg_iff.1 hx
      exact VRel.agg_iff.2 ⟨xs, h1, h2.1, fun i a b ha hb => ⟨(h2.2 i a b ha hb).1, flat_rel (List.all_eq_true.1 e a (List.mem_of_getElem? ha)) (h2.2 i a b ha hb).2⟩⟩
    | tup cs =>
      simp only [flat] at e
      obtain ⟨xs, h1, h2⟩ := VRel.tup_iff.1 hx
      exact VRel.tup_iff.2 ⟨xs, h1, h2.1, fun i a b ha hb => flat_rel (List.all_eq_true.1 e a (List.mem_of_getElem? ha)) (h2.2 i a b ha hb)⟩
    | _ => simp [flat] at e
/-- All objects' boxes are rows that nobody writes to. -/
noncomputable def Sg.fz (σ : Sg) (h : H) (W : World) : Sg := { loc := σ.loc, reg := (σ.sld h 0 W).reg }
theorem dead_get {n id : Nat} {o : O} (h : (List.replicate n O.dead)[id]? = some o) : o = .dead := by
  rw [List.getElem?_replicate] at h; split at h
  · cases h; rfl
  · cases h
/-- All is closed: there are no objects any more. -/
theorem frz_inv {σ : Sg} {W : World} {h : H} (I : Inv σ h W) : Inv (σ.fz h W) (List.replicate h.length .dead) W := by
  refine ⟨fun id _ _ _ hid _ => (by have := dead_get hid; cases this), fun id _ _ hid _ => (by have := dead_get hid; cases this), fun id o _ _ hid hq _ => (by rw [dead_get hid] at hq; cases hq), fun id _ o _ _ _ _ hid hl => (by rw [dead_get hid] at hl; cases hl), fun k r hk' => ?_, fun id k d hl' => ⟨(I.lsz id k d hl').1, by simpa using (I.lsz id k d hl').2⟩⟩
  replace hk' : (σ.sld h 0 W).reg k = some r := hk'
  by_cases hb : ∃ id cs d, 0 ≤ id ∧ h[id]? = some (O.cells cs) ∧ σ.loc id = some (k, d)
  · obtain ⟨id, cs, d, g1, g2, g3⟩ := hb
    obtain ⟨arr, e, a1, _⟩ := I.box id cs k d g2 g3
    rw [seal_reg_box g1 g2 g3] at hk'
    cases hk'
    exact ⟨arr, e, (0, 0), a1, by rw [bsize_of a1]; exact Nat.le_refl _⟩
  · have : (σ.sld h 0 W).reg k = σ.reg k := by unfold Sg.sld; simp only; rw [if_neg hb]
    rw [this] at hk'
    exact I.rsz k r hk'
/-- A world in which all that was there is as it was. -/
theorem inv_more {σ : Sg} {h : H} {W W' : World} (I : Inv σ h W) (hr : ∀ k n, σ.reg k = some n → k < W.heap.size) (hs : W.heap.size ≤ W'.heap.size) (he : ∀ k, k < W.heap.size → W'.heap[k]? = W.heap[k]?) (h1 : W'.os = W.os) (h2 : W'.tape = W.tape) (h3 : W'.output = W.output) (hb : ∀ k, bsize W k ≤ bsize W' k) : Inv σ h W' ∧ Step σ h W σ h W' := by
  have hce : ∀ k n o, σ.reg k = some n → o < n → cellAt W' k o = cellAt W k o := fun k n o hk _ => by
    unfold cellAt World.cell?; simp only [he k (hr k n hk)]
  have M : Mo σ W σ W' := ⟨fun _ _ h => h, fun _ n h => ⟨n, h, Nat.le_refl _⟩, hce, hb, fun k n hk => by unfold bsize; rw [he k (hr k n hk)]⟩
  refine ⟨⟨fun id cs k d hid hl => ?_, fun id k d hid hl => ?_, fun id o k d hid hq hl => ?_, I.inj, fun k n hk => ?_, fun id k d hl => ?_⟩, ⟨M, h1, h2, h3, hs, Nat.le_refl _, fun k hk _ => ⟨he k hk, rfl⟩, fun _ _ h => h, fun _ _ h _ => h⟩⟩
  · obtain ⟨arr, e, a1, a2, a3, a4⟩ := I.box id cs k d hid hl
    exact ⟨arr, e, by rw [he k (I.lsz id k d hl).1]; exact a1, a2, fun i v hv => let ⟨y, hy, r⟩ := a3 i v hv; ⟨y, hy, r.mono M⟩, a4⟩
  · obtain ⟨a1, arr, e, fz, a2, a3⟩ := I.tip id k d hid hl
    exact ⟨a1, arr, e, fz, by rw [he k (I.lsz id k d hl).1]; exact a2, a3⟩
  · obtain ⟨a1, ob, a2, a3⟩ := I.map id o k d hid hq hl
    exact ⟨a1, ob, by rw [he k (I.lsz id k d hl).1]; exact a2, a3.mono M⟩
  · obtain ⟨arr, e, fz, a1, a2⟩ := I.rsz k n hk
    exact ⟨arr, e, fz, by rw [he k (hr k n hk)]; exact a1, a2⟩
  · exact ⟨Nat.lt_of_lt_of_le (I.lsz id k d hl).1 hs, (I.lsz id k d hl).2⟩

/-- THE ABSTRACT MACHINE TELLS WHAT THE MACHINE DOES. -/
theorem den_sound {c : Cx} (G : Good c) : ∀ k, CallOk c (denK c k)
  | 0, lo, g, args, h, v, h', e => by cases e
  | k + 1, lo, g, args, h, v, h', e => by
    simp only [denK, frzV] at e
    split at e
    · split at e
      case h_2 => cases e
      rename_i as has
      split at e
      case h_2 => cases e
      rename_i u g' hb
      split at e
      case isFalse => cases e
      rename_i hf
      cases e
      obtain ⟨b1, b2⟩ := body_sound G (den_sound G k) hb
      refine ⟨b1, fun σ W xs hx I hg => ?_⟩
      have M1 : Mo (σ.sld h 0 W) W (σ.fz h W) W := ⟨fun id p hp => (by simp [Sg.sld] at hp), fun _ n h => ⟨n, h, Nat.le_refl _⟩, fun _ _ _ _ _ => rfl, fun _ => Nat.le_refl _, fun _ _ _ => rfl⟩
      have M2 : Mo σ W (σ.fz h W) W := ⟨fun _ _ h => h, fun _ n h => ⟨n, seal_reg I h, Nat.le_refl _⟩, fun _ _ _ _ _ => rfl, fun _ => Nat.le_refl _, fun _ _ _ => rfl⟩
      have hx1 : L2 (VRel (σ.fz h W) W) as xs.toList := by
        have hx2 := fg_lists (fun _ _ h => h.fg) hx
        obtain ⟨h1, h2⟩ := sealL_get has
        refine ⟨by rw [h1, hx2.1], fun i a b ha hb => ?_⟩
        obtain ⟨u, hu, hs⟩ := h2 i a ha
        exact (seal_rel I hs (hx2.2 i u b hu hb)).mono M1
      have hg1 : GlobOk c (σ.fz h W) W := hg.mono M2
      refine Calls.mono (b2 _ W xs hx1 (frz_inv I) hg1) ?_
      rintro e W' ⟨z, σ', rfl, hz, I', s'⟩
      have he : ∀ k, k < W.heap.size → W'.heap[k]? = W.heap[k]? := fun k hk => (s'.frm k hk (by rintro ⟨id, o, d, hid, hlv, _⟩; rw [dead_get hid] at hlv; cases hlv)).1
      have hr : ∀ k n, σ.reg k = some n → k < W.heap.size := fun k n hk => by
        obtain ⟨arr, e, fz, a, _⟩ := I.rsz k n hk
        exact (Array.getElem?_eq_some_iff.1 a).1
      obtain ⟨I2, s2⟩ := inv_more I hr s'.wsz he s'.os s'.tape s'.output s'.mo.bsz
      exact ⟨z, σ, rfl, flat_rel hf hz, I2, s2⟩
    · exact body_sound G (den_sound G k) e
end
end Go.AM
namespace Go.AM
open Go.RowKit
theorem Mo.below {σ : Sg} {h : H} {W W' : World} (I : Inv σ h W) (b : Below W.heap.size W W') : Mo σ W σ W' where
  loc _ _ e := e
  reg _ n e := ⟨n, e, Nat.le_refl _⟩
  cel c n o e _ := by
    obtain ⟨arr, t, fz, h1, _⟩ := I.rsz c n e
    have hc : c < W.heap.size := (Array.getElem?_eq_some_iff.1 h1).1
    unfold cellAt World.cell?
    rw [b.block c hc]
  bsz c := by
    unfold bsize
    by_cases hc : c < W.heap.size
    · rw [b.block c hc]; exact Nat.le_refl _
    · rw [Array.getElem?_eq_none (by omega)]; exact Nat.zero_le _
  bse c n e := by
    obtain ⟨arr, t, fz, h1, _⟩ := I.rsz c n e
    unfold bsize
    rw [b.block c (Array.getElem?_eq_some_iff.1 h1).1]
theorem Inv.below {σ : Sg} {h : H} {W W' : World} (I : Inv σ h W) (b : Below W.heap.size W W') : Inv σ h W' where
  box id cs c d h1 h2 := by
    obtain ⟨arr, e, a1, a2, a3, a4⟩ := I.box id cs c d h1 h2
    exact ⟨arr, e, by rw [b.block c (I.lsz id c d h2).1]; exact a1, a2, fun i v hv => let ⟨y, hy, r⟩ := a3 i v hv; ⟨y, hy, r.1, r.2.mono (Mo.below I b)⟩, a4⟩
  tip id c d h1 h2 := by
    obtain ⟨a1, arr, e, fz, a2, a3⟩ := I.tip id c d h1 h2
    exact ⟨a1, arr, e, fz, by rw [b.block c (I.lsz id c d h2).1]; exact a2, a3⟩
  map id es c d h1 hq h2 := by
    obtain ⟨a1, ob, a2, a3⟩ := I.map id es c d h1 hq h2
    exact ⟨a1, ob, by rw [b.block c (I.lsz id c d h2).1]; exact a2, a3.mono (Mo.below I b)⟩
  inj := I.inj
  rsz c n e := by
    obtain ⟨arr, t, fz, h1, h2⟩ := I.rsz c n e
    exact ⟨arr, t, fz, by rw [b.block c (Array.getElem?_eq_some_iff.1 h1).1]; exact h1, h2⟩
  lsz id c d e := ⟨Nat.lt_of_lt_of_le (I.lsz id c d e).1 b.size, (I.lsz id c d e).2⟩
theorem Step.below {σ : Sg} {h : H} {W W' : World} (I : Inv σ h W) (b : Below W.heap.size W W') : Step σ h W σ h W' where
  mo := Mo.below I b
  os := b.os
  tape := b.tape
  output := b.output
  wsz := b.size
  hsz := Nat.le_refl _
  frm c hc _ := ⟨b.block c hc, rfl⟩
  hos c _ h := h
  old _ _ e _ := e
end Go.AM

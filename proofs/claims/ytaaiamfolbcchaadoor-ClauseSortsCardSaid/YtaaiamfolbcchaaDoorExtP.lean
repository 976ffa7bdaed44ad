/- The contract of clause.Sort: findings in order, each once. -/
import Derived.Test.YtaaiamfolbcchaaDoorExtO
namespace Go.Proofs.YtaaiamfolbcchaaDoor.Ext
set_option linter.unusedVariables false
set_option linter.unusedSimpArgs false
open Go.Lib (keeps compactUpTo compactUpTo_succ)
open Go.RowKit Go.Proofs.YtaaiamfolbcchaaDoorW.PrintWords Go.Proofs.YtaaiamfolbcchaaDoorW.PrintLast Go.Proofs.YtaaiamfolbcchaaDoor.X5

theorem ltF_irr (x : SF) : ¬ ltF x x := by unfold ltF; omega
theorem ltF_trans {x y z : SF} (h1 : ltF x y) (h2 : ltF y z) : ltF x z := by unfold ltF at *; omega
theorem ltF_tri {x y : SF} (h1 : ¬ ltF x y) (h2 : ¬ ltF y x) : x = y := by
  have : x.f0 = y.f0 ∧ x.f1 = y.f1 ∧ x.f2 = y.f2 := by unfold ltF at *; omega
  cases x; cases y; simp_all
def ltB (x y : SF) : Bool := ltOf cfI x y
theorem ltB_iff {x y : SF} : ltB x y = true ↔ ltF x y := lt_iff x y
/-- Into a list that ascends, if it isn't there. -/
def insU (x : SF) : List SF → List SF
  | [] => [x]
  | y :: r => if ltB x y = true then x :: y :: r else if ltB y x = true then y :: insU x r else y :: r
def sortU (l : List SF) : List SF := l.foldr insU []
def Str (l : List SF) : Prop := l.Pairwise ltF
theorem insU_mem (x z : SF) : ∀ l, z ∈ insU x l ↔ z = x ∨ z ∈ l
  | [] => by simp [insU]
  | y :: r => by
    unfold insU
    split
    · simp
    · split
      · rw [List.mem_cons, insU_mem x z r, List.mem_cons]
        exact ⟨fun h => by rcases h with h | h | h <;> simp [h], fun h => by rcases h with h | h | h <;> simp [h]⟩
      · rename_i h1 h2
        have e : x = y := ltF_tri (fun h => h1 (ltB_iff.2 h)) (fun h => h2 (ltB_iff.2 h))
        subst e
        simp
theorem insU_str (x : SF) : ∀ l, Str l → Str (insU x l)
  | [], _ => by simp [insU, Str]
  | y :: r, h => by
    obtain ⟨h1, h2⟩ := List.pairwise_cons.1 h
    unfold insU
    split
    · rename_i hxy
      refine List.pairwise_cons.2 ⟨fun z hz => ?_, h⟩
      rcases List.mem_cons.1 hz with rfl | hz
      · exact ltB_iff.1 hxy
      · exact ltF_trans (ltB_iff.1 hxy) (h1 z hz)
    · split
      · rename_i hyx
        refine List.pairwise_cons.2 ⟨fun z hz => ?_, insU_str x r h2⟩
        rcases (insU_mem x z r).1 hz with rfl | hz
        · exact ltB_iff.1 hyx
        · exact h1 z hz
      · exact h
theorem sortU_mem (z : SF) : ∀ l, z ∈ sortU l ↔ z ∈ l
  | [] => by simp [sortU]
  | x :: l => by
    show z ∈ insU x (sortU l) ↔ _
    rw [insU_mem, sortU_mem z l, List.mem_cons]
theorem sortU_str : ∀ l, Str (sortU l)
  | [] => by simp [sortU, Str]
  | x :: l => insU_str x _ (sortU_str l)
/-- A list that ascends is told by its members. -/
theorem str_uniq : ∀ (a b : List SF), Str a → Str b → (∀ z, z ∈ a ↔ z ∈ b) → a = b
  | [], [], _, _, _ => rfl
  | [], y :: b, _, _, h => absurd ((h y).2 (by simp)) (by simp)
  | x :: a, [], _, _, h => absurd ((h x).1 (by simp)) (by simp)
  | x :: a, y :: b, ha, hb, h => by
    obtain ⟨a1, a2⟩ := List.pairwise_cons.1 ha
    obtain ⟨b1, b2⟩ := List.pairwise_cons.1 hb
    have e : x = y := by
      rcases List.mem_cons.1 ((h x).1 (by simp)) with e | hx
      · exact e
      · rcases List.mem_cons.1 ((h y).2 (by simp)) with e | hy
        · exact e.symm
        · exact absurd (ltF_trans (b1 x hx) (a1 y hy)) (ltF_irr y)
    subst e
    rw [str_uniq a b a2 b2 (fun z => ⟨fun hz => ?_, fun hz => ?_⟩)]
    · rcases List.mem_cons.1 ((h z).1 (by simp [hz])) with e | h'
      · subst e; exact absurd (a1 z hz) (ltF_irr z)
      · exact h'
    · rcases List.mem_cons.1 ((h z).2 (by simp [hz])) with e | h'
      · subst e; exact absurd (b1 z hz) (ltF_irr z)
      · exact h'
theorem compact_mem (d : Array SF) : ∀ m, m ≤ d.size → ∀ z, z ∈ compactUpTo d m ↔ ∃ i, i < m ∧ d[i]! = z
  | 0, _, z => by simp [compactUpTo]
  | m + 1, hm, z => by
    rw [compactUpTo_succ, List.mem_append, compact_mem d m (by omega) z]
    constructor
    · rintro (⟨i, hi, e⟩ | h)
      · exact ⟨i, by omega, e⟩
      · split at h
        · exact ⟨m, by omega, (List.mem_singleton.1 h).symm⟩
        · cases h
    · rintro ⟨i, hi, e⟩
      by_cases him : i < m
      · exact .inl ⟨i, him, e⟩
      · have : i = m := by omega
        subst this
        cases hk : keeps d i with
        | true => exact .inr (by rw [if_pos rfl]; simp [e])
        | false =>
          have : ¬ (i = 0 ∨ d[i]! ≠ d[i - 1]!) := by simpa [keeps] using hk
          have h0 : i ≠ 0 := fun h => this (.inl h)
          have h1 : d[i]! = d[i - 1]! := by
            by_cases h : d[i]! = d[i - 1]!
            · exact h
            · exact absurd (.inr h) this
          exact .inl ⟨i - 1, by omega, h1.symm.trans e⟩
theorem compact_str (d : Array SF) (h : Asc d.toList) : Str (compactUpTo d d.size) := by
  have asc : ∀ i j, i < j → j < d.size → ¬ ltF d[j]! d[i]! := fun i j hij hj => by
    have := List.pairwise_iff_getElem.1 h i j (by simp; omega) (by simpa using hj) hij
    rw [getElem!_pos d i (by omega), getElem!_pos d j hj]
    simpa using this
  unfold compactUpTo Str
  rw [List.pairwise_map]
  refine List.Pairwise.imp_of_mem ?_ ((List.pairwise_lt_range (n := d.size)).filter (keeps d))
  intro i j hi hj hij
  obtain ⟨hj1, hj2⟩ := List.mem_filter.1 hj
  have hj3 : j < d.size := List.mem_range.1 hj1
  have hk : j = 0 ∨ d[j]! ≠ d[j - 1]! := by simpa [keeps] using hj2
  have hne : d[j]! ≠ d[j - 1]! := hk.resolve_left (by omega)
  have h1 : ltF d[j - 1]! d[j]! := by
    by_cases hl : ltF d[j - 1]! d[j]!
    · exact hl
    · exact absurd (ltF_tri (asc (j - 1) j (by omega) hj3) hl) hne
  by_cases hij' : i = j - 1
  · rw [hij']; exact h1
  · have h2 := asc i (j - 1) (by omega) (by omega)
    by_cases hl : ltF d[i]! d[j - 1]!
    · exact ltF_trans hl h1
    · rw [ltF_tri hl h2]; exact h1
theorem compact_sortU {d : Array SF} {xs : List SF} (hp : d.toList.Perm xs) (h : Asc d.toList) : compactUpTo d d.size = sortU xs := by
  refine str_uniq _ _ (compact_str d h) (sortU_str xs) (fun z => ?_)
  rw [compact_mem d d.size (Nat.le_refl _) z, sortU_mem, ← hp.mem_iff, Array.mem_toList_iff]
  constructor
  · rintro ⟨i, hi, rfl⟩
    rw [getElem!_pos d i hi]
    exact Array.getElem_mem hi
  · intro hz
    obtain ⟨i, hi, e⟩ := Array.mem_iff_getElem.1 hz
    exact ⟨i, hi, by rw [getElem!_pos d i hi]; exact e⟩
def clause_Sort.f (l : List SF) : Option (List SF) := if 0 < l.length ∧ l.length ≤ 1000000 then some (sortU l) else none
set_option maxHeartbeats 4000000 in
set_option maxRecDepth 100000 in
theorem clause_Sort.calls (A0 : Option Addr) (c0 : Nat) (l0 : List SF) (r : List SF) (w : World) (hr0 : Kd.C k62 w A0 l0.length l0) (hc0 : l0.length ≤ c0) (h : clause_Sort.f l0 = some r) :
    Calls Tryd.prog 49 #[.slice A0 l0.length c0] w fun e w' => ∃ v0_ : Value, e = .returned v0_ ∧ Kd.R k62 62 w' w.heap.size (fun _ => True) v0_ r ∧ Below w.heap.size w w' := by
  unfold clause_Sort.f at h
  by_cases hl : 0 < l0.length ∧ l0.length ≤ 1000000
  case neg => rw [if_neg hl] at h; exact absurd h (by simp)
  rw [if_pos hl] at h
  obtain rfl := Option.some.inj h
  have HR := Aside0.mk hr0
  have HL := Aside0.mk hl
  clear hr0 hc0 hl h
  go_enter Tryd.func49, Tryd.ntmps49
  go_wp2_with (first
    | ((with_reducible refine gate_callee (f := 86) rfl ?_); go_loud (refine goesL_ _ rfl rfl Tryd.func86 (by kernel_rfl) rfl #[.slice A0 l0.length c0] rfl (by (try simp only [List.map_toArray, List.map_cons, List.map_nil]); first | done | rfl) ?_; refine (clone_calls _ A0 c0 l0 HL.out.1 HL.out.2 HR.out).mono ?_; rintro e w1 ⟨g, cap, rfl, hg, hm, hrow, hb⟩; refine ⟨_, rfl, ?_⟩; have HB := Aside0.mk hb; have HG := Aside0.mk hg; have HM := Aside0.mk hm; have HW := Aside0.mk hrow; clear hb hg hm hrow))
    | ((with_reducible refine gate_callee (f := 87) rfl ?_); go_loud (refine goesL_ _ rfl rfl Tryd.func87 (by kernel_rfl) rfl #[.slice (some ⟨g, 0, none⟩) l0.length cap, .func (.func 88) #[] #[]] rfl (by (try simp only [List.map_toArray, List.map_cons, List.map_nil]); first | done | rfl) ?_; refine (sortFunc_calls _ g l0.length cap l0 HW.out (by have := HL.out.2; omega)).mono ?_; rintro e w2 ⟨rfl, ys, hp, ha, hrow, hu⟩; refine ⟨_, rfl, ?_⟩; have n0_ := Aside0.mk (HB.out.trans (hu w.heap.size HG.out HB.out.size)); have HP := Aside0.mk hp; have HA := Aside0.mk ha; clear HB HW; have HB := n0_; have HW := Aside0.mk hrow; clear n0_ hp ha hrow hu))
    | ((with_reducible refine gate_callee (f := 89) rfl ?_); go_loud (refine goesL_ _ rfl rfl Tryd.func89 (by kernel_rfl) rfl #[.slice (some ⟨g, 0, none⟩) l0.length cap] rfl (by (try simp only [List.map_toArray, List.map_cons, List.map_nil]); first | done | rfl) ?_; have hsz : ys.toArray.size = l0.length := (by simpa using HP.out.length_eq); have hcc := compact_calls _ g cap ys.toArray (by rw [hsz]; exact HW.out) (by rw [hsz]; exact HL.out.2); rw [hsz] at hcc; refine hcc.mono ?_; rintro e w3 ⟨rfl, hrow, hu⟩; refine ⟨_, rfl, ?_⟩; have e1 := (congrArg (compactUpTo ys.toArray) hsz.symm).trans (compact_sortU (d := ys.toArray) HP.out HA.out); rw [e1] at hrow; have n0_ := Aside0.mk (HB.out.trans (hu w.heap.size HG.out HB.out.size)); clear HB HW; have HB := n0_; have HW := Aside0.mk hrow; clear n0_ hrow hu hcc))
    | fail)
  go_ret
  exact ⟨.slice (some ⟨g, 0, none⟩) (sortU l0).length cap, rfl, HW.out.own HG.out HM.out, HB.out⟩
end Go.Proofs.YtaaiamfolbcchaaDoor.Ext

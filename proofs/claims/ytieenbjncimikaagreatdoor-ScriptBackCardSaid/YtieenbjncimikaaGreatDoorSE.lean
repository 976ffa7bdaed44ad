/- What functions of the program tell (commands read). No condition. -/
import Derived.Test.YtieenbjncimikaaGreatDoorSD
set_option linter.all false
open Go Go.AM Go.Proofs Go.AM.Pl
set_option maxRecDepth 100000
set_option maxHeartbeats 4000000
namespace ZD
@[simp] theorem fg_wdv (x : Wd) : fg (wdv x) = wdv x := rfl
/-- A word that is a letter, as its kind. -/
def kindL (a : List UInt8) : Int × Bool := match a with
  | [c] => kindR c
  | _ => (0, false)
/-- Records out of pairs of words. -/
def pairsR : List (List UInt8) → List Rec → List Rec × Int
  | a :: b :: r, out => if (kindL a).2 = true then (if (spanR b).2.2 = 0 then pairsR r (out ++ [⟨(kindL a).1, (spanR b).1, (spanR b).2.1⟩]) else ([], (spanR b).2.2)) else ([], 2)
  | [_], out => (out, 0)
  | [], out => (out, 0)
def C3 (id : Int) (l : List Rec) : Cmd := ⟨3, zo, id, l, 0, 0, 0, 0, []⟩
def recR : List (List UInt8) → Cmd × Int
  | _ :: w1 :: r => if r.length % 2 = 0 then (if (numR w1 M9).2 = 0 then (if (pairsR r []).2 = 0 then (C3 (numR w1 M9).1 (pairsR r []).1, 0) else (zc, (pairsR r []).2)) else (zc, (numR w1 M9).2)) else (zc, 7)
  | _ => (zc, 7)
theorem s45 {lo : Nat} {ws : List Wd} {h : H} (h1 : ws.length ≤ 10000000) (h2 : ∀ x ∈ ws, x.2.length ≤ 4294967280) : den cx lo 45 [AM.vs .dead 2 (wds ws)] h = some (cmdV (recR (ws.map (·.2))), h) := by
  refine den_pure (fn := Tryz.f45) (by rfl) (by rfl) (by rfl) (by rfl) (by simp [Tryz.f45]) (by simp) ?_
  by_cases hl : ws.length < 2
  · have e : recR (ws.map (·.2)) = (zc, 7) := by
      match ws, hl with
      | [], _ | [_], _ => rfl
    have hl' : (ws.length : Int) < 2 := by omega
    rw [e]
    simp (disch := first | omega | (simp; done) | (simp; omega) | assumption) [Tryz.f45, argsE, hl, hl', isC, boxV, boxO, fresh_no, List.filter_cons, setB, aggN, op_build, List.set, Cl1_tup, Cl1_agg, Cl1_vs, cmdV, Cmd.v, zc_cs]
  obtain ⟨w0, w1, r, rfl⟩ : ∃ w0 w1 r, ws = w0 :: w1 :: r := by
    match ws, hl with
    | [], h | [_], h => exact absurd (by simp) h
    | w0 :: w1 :: r, _ => exact ⟨w0, w1, r, rfl⟩
  have ewd : wds (w0 :: w1 :: r) = wdv w0 :: wdv w1 :: wds r := rfl
  have hl' : ¬ ((r.length : Int) + 1 + 1 < 2) := by omega
  have htm : ((r.length : Int) + 1 + 1).tmod 2 = (r.length : Int) % 2 := by rw [Int.tmod_eq_emod_of_nonneg (by omega)]; omega
  simp only [List.map_cons, recR, List.length_map]
  by_cases hev : r.length % 2 = 0
  case neg =>
    rw [if_neg hev]
    have : ¬ ((r.length : Int) % 2 = 0) := by omega
    simp (disch := first | omega | (simp; done) | (simp; omega) | assumption) [Tryz.f45, argsE, ewd, hl', isC, boxV, boxO, fresh_no, List.filter_cons, setB, aggN, op_build, List.set, Cl1_tup, Cl1_agg, Cl1_vs, cmdV, Cmd.v, zc_cs, rem_int, htm, this, hev]
  rw [if_pos hev]
  have hev' : (r.length : Int) % 2 = 0 := by omega
  have hw1 := h2 w1 (by simp)
  have e105 := fun lo g => s105 (lo := lo) (ws := [w1]) (h := g) (by simp) (by simpa using hw1)
  simp only [List.map_cons, List.map_nil, numsR, one9_no, List.nil_append] at e105
  have ew1 : wds [w1] = [wdv w1] := rfl
  rw [ew1] at e105
  have h12 : (2 : Int) ≤ (r.length : Int) + 1 + 1 := by omega
  by_cases k1 : (numR w1.2 M9).2 = 0
  case neg =>
    rw [if_neg k1]
    simp only [k1, if_false, numV] at e105
    simp (disch := first | omega | (simp; done) | (simp; omega) | assumption) [Tryz.f45, argsE, ewd, hl', isC, boxV, boxO, fresh_no, List.filter_cons, setB, aggN, op_build, List.set, Cl1_tup, Cl1_agg, Cl1_vs, cmdV, Cmd.v, zc_cs, rem_int, htm, hev', hev, h12, e105, k1]
  rw [if_pos k1]
  simp only [k1, if_true, numV, ints, List.map_cons, List.map_nil] at e105
  generalize (numR w1.2 M9).1 = id at *
  have h2r : ∀ x ∈ r, x.2.length ≤ 4294967280 := fun x hx => h2 x (by simp [hx])
  clear h2 k1 hw1
  simp (disch := first | omega | (simp; done) | (simp; omega) | assumption) [Tryz.f45, argsE, ewd, hl', isC, boxV, boxO, fresh_no, List.filter_cons, setB, aggN, op_build, List.set, rem_int, htm, hev', hev, h12, e105]
  clear e105
  obtain ⟨I, hI⟩ : ∃ I : Nat → List Ent → List (Nat × List V) → H → Prop, I = (fun n vs lb g => ∃ (q : Nat) (t : Tk) (out : List Rec), 2 * (n + q) = r.length ∧ out.length ≤ q ∧ Apd h.length g t ∧ h.length ≤ g.length ∧ pairsR (r.map (·.2)) [] = pairsR ((r.drop (2 * q)).map (·.2)) out ∧ vs = [.v (.i (2 * (q : Int) + 2))] ∧
    lb = [(6, [.i 3, .i 0, .i 0, .i 0, .i 0, AM.vs .nil 0 [], .i id, AM.vs t 3 (recs out), .i 0, .i 0, .i 0, .i 0, AM.vs .nil 0 []]), (2, [.i 0, .i 0, .i 0, .i 0, .i 0, AM.vs .nil 0 [], .i 0, AM.vs .nil 0 [], .i 0, .i 0, .i 0, .i 0, AM.vs .nil 0 []])]) := ⟨_, rfl⟩
  refine Wp.loopQ I (n := r.length / 2) (by rw [hI]; exact ⟨0, .nil, [], by omega, by simp, by simp, by simp, by simp, by simp, by simp [recs]⟩) ?_
  intro n vs lb g hi Q hQ; rw [hI] at hi; obtain ⟨q, t, out, hj, ho, ha, hg, he, rfl, rfl⟩ := hi
  have hrl : r.length ≤ 10000000 := by simp at h1; omega
  by_cases hlt : 2 * q < r.length
  · have hlt1 : 2 * q + 1 < r.length := by omega
    have hli : 2 * (q : Int) + 2 < (r.length : Int) + 1 + 1 := by omega
    have t1 : (2 * (q : Int) + 2).toNat = 2 * q + 2 := by omega
    have t2 : (2 * (q : Int) + 2 + 1).toNat = 2 * q + 3 := by omega
    have l1 : (2 * (q : Int) + 2 + 1) < (r.length : Int) + 1 + 1 := by omega
    have hda : r.drop (2 * q) = r[2 * q] :: r[2 * q + 1] :: r.drop (2 * (q + 1)) := by
      rw [List.drop_eq_getElem_cons hlt, List.drop_eq_getElem_cons hlt1]; rfl
    have hwa := h2r _ (List.getElem_mem hlt)
    have hwb := h2r _ (List.getElem_mem hlt1)
    rw [hda] at he
    simp only [List.map_cons, pairsR] at he
    generalize ea : r[2 * q] = wa at *
    generalize eb : r[2 * q + 1] = wb at *
    have fin : ∀ e : Int, pairsR (r.map (·.2)) [] = ([], e) → e ≠ 0 → ∀ s : St, getE s.env 2 = .lp 2 0 → getE s.env 3 = .v (.i e) → getB s.lb 2 = some [.i 0, .i 0, .i 0, .i 0, .i 0, AM.vs .nil 0 [], .i 0, AM.vs .nil 0 [], .i 0, .i 0, .i 0, .i 0, AM.vs .nil 0 []] → Q .ret s := by
      intro e he h0 s k2 k3 k4
      refine hQ _ _ ?_
      rw [he, if_neg h0]
      simp (disch := first | omega | (simp; done) | (simp; omega) | assumption) [k2, k3, k4, boxV, boxO, fresh_no, List.filter_cons, setB, aggN, op_build, List.set, Cl1_tup, Cl1_agg, Cl1_vs, cmdV, Cmd.v, zc_cs]
    by_cases hone : ∃ c, wa.2 = [c]
    case neg =>
      have hk : kindL wa.2 = (0, false) := by
        unfold kindL; split
        · rename_i c hc; exact absurd ⟨c, hc⟩ hone
        · rfl
      rw [hk] at he
      have fin := fin 2 he (by decide)
      have hlen : ¬ (wa.2.length = 1) := fun e => hone (by obtain ⟨c, hc⟩ := List.length_eq_one_iff.1 e; exact ⟨c, hc⟩)
      have hlen' : ¬ ((wa.2.length : Int) = 1) := by omega
      clear hI he hQ
      simp (disch := first | omega | (simp; done) | (simp; omega) | assumption) [isC, boxV, boxO, fresh_no, List.filter_cons, setB, aggN, op_build, List.set, ewd, hlt, hli, t1, ea, wdv, hlen, hlen']
      exact fin _ rfl rfl rfl
    obtain ⟨c, hc⟩ := hone
    have hk : kindL wa.2 = kindR c := by rw [hc]; rfl
    rw [hk] at he
    by_cases k2 : (kindR c).2 = true
    case neg =>
      rw [if_neg k2] at he
      have fin := fin 2 he (by decide)
      clear hI he hQ
      simp (disch := first | omega | (simp; done) | (simp; omega) | assumption) [isC, boxV, boxO, fresh_no, List.filter_cons, setB, aggN, op_build, List.set, ewd, hlt, hli, t1, ea, wdv, hc, s106, k2]
      exact fin _ rfl rfl rfl
    rw [if_pos k2] at he
    by_cases k3 : (spanR wb.2).2.2 = 0
    case neg =>
      rw [if_neg k3] at he
      have fin := fin _ he k3
      clear hI he hQ
      simp (disch := first | omega | (simp; done) | (simp; omega) | assumption) [isC, boxV, boxO, fresh_no, List.filter_cons, setB, aggN, op_build, List.set, ewd, hlt, hli, t1, t2, l1, ea, eb, wdv, hc, s106, k2, wrap64, s107, k3]
      exact fin _ rfl rfl rfl
    rw [if_pos k3] at he
    have go : I (n - 1) [.v (.i (2 * (q : Int) + 2 + 2))] [(6, [.i 3, .i 0, .i 0, .i 0, .i 0, AM.vs .nil 0 [], .i id, AM.vs (.tip g.length) 3 (recs out ++ [Rec.v ⟨(kindR c).1, (spanR wb.2).1, (spanR wb.2).2.1⟩]), .i 0, .i 0, .i 0, .i 0, AM.vs .nil 0 []]), (2, [.i 0, .i 0, .i 0, .i 0, .i 0, AM.vs .nil 0 [], .i 0, AM.vs .nil 0 [], .i 0, .i 0, .i 0, .i 0, AM.vs .nil 0 []])] (apH g t) := by
      rw [hI]; exact ⟨q + 1, .tip g.length, out ++ [⟨(kindR c).1, (spanR wb.2).1, (spanR wb.2).2.1⟩], by omega, by simp; omega, Apd_ap hg, by simp; omega, he, by simp; omega, by rw [recs_snoc]⟩
    clear hI he hQ fin
    simp (disch := first | omega | (simp; done) | (simp; omega) | assumption) [isC, boxV, boxO, fresh_no, List.filter_cons, setB, aggN, op_build, List.set, ewd, hlt, hli, t1, t2, l1, ea, eb, wdv, hc, s106, k2, wrap64, s107, k3, elemsV]
    exact ⟨n - 1, by omega, go⟩
  · have hli : ¬ (2 * (q : Int) + 2 < (r.length : Int) + 1 + 1) := by omega
    rw [List.drop_of_length_le (by omega)] at he
    simp only [List.map_nil, pairsR] at he
    clear hI
    simp (disch := first | omega | (simp; done) | (simp; omega) | assumption) [ewd, hli]
    refine hQ _ _ ?_
    rw [he]
    simp (disch := first | omega | (simp; done) | (simp; omega) | assumption) [boxV, boxO, fresh_no, List.filter_cons, setB, aggN, op_build, List.set, Cl1_tup, Cl1_agg, Cl1_vs, cmdV, C3, zo, Cmd.v, Cmd.cs, spns, ints]
end ZD
open Go Go.AM Go.Proofs Go.AM.Pl
set_option maxRecDepth 100000
set_option maxHeartbeats 4000000
namespace ZD
def C1 (x : OrdR) : Cmd := ⟨1, OrdR.o x, 0, [], 0, 0, 0, 0, []⟩
/-- The command of a line. -/
def readC (l : List UInt8) : Cmd × Int := match splR l with
  | .error _ => (zc, 7)
  | .ok ws => match ws with
    | [] => (zc, 7)
    | w0 :: _ => if w0.2 = ordW then (if OrdR.e (readO l) = 0 then (C1 (readO l), 0) else (zc, OrdR.e (readO l)))
      else if w0.2 = cancelW then cntR ws 1 false C2 else if w0.2 = recW then recR (ws.map (·.2)) else if w0.2 = tickW then cntR ws 1 false C4
      else if w0.2 = replanW then cntR ws 3 true C5 else if w0.2 = showW then cntR ws 0 false C6 else (zc, 7)
theorem s15 {lo : Nat} {l : List UInt8} {h : H} (h1 : l.length ≤ 300000) : den cx lo 15 [.t l] h = some (cmdV (readC l), h) := by
  have e29 := fun lo => s29 (lo := lo) (l := l) (h := h) h1
  have e42 := fun lo => s42 (lo := lo) (l := l) (h := h) (by omega)
  refine den_pure (fn := Tryz.f15) (by rfl) (by rfl) (by rfl) (by rfl) (by simp [Tryz.f15]) (by simp) ?_
  cases hs : splR l with
  | error p =>
    have e : readC l = (zc, 7) := by unfold readC; rw [hs]
    rw [e]
    rw [hs] at e42
    simp only [resV] at e42
    simp (disch := first | omega | (simp; done) | (simp; omega) | assumption) [Tryz.f15, argsE, e42, boxV, boxO, fresh_no, List.filter_cons, setB, aggN, op_build, List.set, isC, Cl1_tup, Cl1_agg, Cl1_vs, cmdV, Cmd.v, zc_cs]
  | ok ws =>
    rw [hs] at e42
    have hc := splR_count hs
    have hw := splR_wl hs
    cases ws with
    | nil =>
      have e : readC l = (zc, 7) := by unfold readC; rw [hs]
      rw [e]
      simp only [resV] at e42
      simp (disch := first | omega | (simp; done) | (simp; omega) | assumption) [Tryz.f15, argsE, e42, boxV, boxO, fresh_no, List.filter_cons, setB, aggN, op_build, List.set, isC, Cl1_tup, Cl1_agg, Cl1_vs, cmdV, Cmd.v, zc_cs, wds]
    | cons w0 r =>
      have hl : (w0 :: r).length ≤ 10000000 := by omega
      have hwl : ∀ x ∈ w0 :: r, x.2.length ≤ 4294967280 := fun x hx => by have := hw x hx; omega
      have c2 : ∀ lo g, den cx lo 43 [AM.vs .dead 2 (wds (w0 :: r)), .i 1, .b false, .fn (.func 44) [] []] g = some (cmdV (cntR (w0 :: r) 1 false C2), g) := fun lo g => s43 (lo := lo) (f := 44) (n := 1) (ws := w0 :: r) (op := false) (C := C2) (h := g) (by rfl) (by omega) (by simp) (by omega) hwl (fun lo g x hx hn => s44 (by simp at hn hx; omega))
      have c4 : ∀ lo g, den cx lo 43 [AM.vs .dead 2 (wds (w0 :: r)), .i 1, .b false, .fn (.func 46) [] []] g = some (cmdV (cntR (w0 :: r) 1 false C4), g) := fun lo g => s43 (lo := lo) (f := 46) (n := 1) (ws := w0 :: r) (op := false) (C := C4) (h := g) (by rfl) (by omega) (by simp) (by omega) hwl (fun lo g x hx hn => s46 (by simp at hn hx; omega))
      have c5 : ∀ lo g, den cx lo 43 [AM.vs .dead 2 (wds (w0 :: r)), .i 3, .b true, .fn (.func 47) [] []] g = some (cmdV (cntR (w0 :: r) 3 true C5), g) := fun lo g => s43 (lo := lo) (f := 47) (n := 3) (ws := w0 :: r) (op := true) (C := C5) (h := g) (by rfl) (by omega) (by simp) (by omega) hwl (fun lo g x hx hn => s47 (by simp at hn hx; omega))
      have c6 : ∀ lo g, den cx lo 43 [AM.vs .dead 2 (wds (w0 :: r)), .i 0, .b false, .fn (.func 48) [] []] g = some (cmdV (cntR (w0 :: r) 0 false C6), g) := fun lo g => s43 (lo := lo) (f := 48) (n := 0) (ws := w0 :: r) (op := false) (C := C6) (h := g) (by rfl) (by omega) (by simp) (by omega) hwl (fun lo g x hx hn => s48)
      have e45 := fun lo g => s45 (lo := lo) (ws := w0 :: r) (h := g) hl hwl
      have ewd : wds (w0 :: r) = wdv w0 :: wds r := rfl
      have e : readC l = if w0.2 = ordW then (if OrdR.e (readO l) = 0 then (C1 (readO l), 0) else (zc, OrdR.e (readO l)))
        else if w0.2 = cancelW then cntR (w0 :: r) 1 false C2 else if w0.2 = recW then recR ((w0 :: r).map (·.2)) else if w0.2 = tickW then cntR (w0 :: r) 1 false C4
        else if w0.2 = replanW then cntR (w0 :: r) 3 true C5 else if w0.2 = showW then cntR (w0 :: r) 0 false C6 else (zc, 7) := by unfold readC; rw [hs]
      rw [e]
      clear e
      simp only [resV, ewd] at e42 c2 c4 c5 c6 e45
      simp only [cmdV, Cmd.v, Cmd.cs] at c2 c4 c5 c6 e45
      generalize cntR (w0 :: r) 1 false C2 = X2 at *
      generalize cntR (w0 :: r) 1 false C4 = X4 at *
      generalize cntR (w0 :: r) 3 true C5 = X5 at *
      generalize cntR (w0 :: r) 0 false C6 = X6 at *
      generalize recR ((w0 :: r).map (·.2)) = X3 at *
      have hne : ¬ ((r.length : Int) + 1 = 0) := by omega
      by_cases k1 : w0.2 = ordW
      · rw [if_pos k1]
        have k1' : w0.2 = [111, 114, 100, 101, 114] := k1
        simp only [ordV, Ord.v, Ord.cs] at e29
        by_cases q : OrdR.e (readO l) = 0
        · rw [if_pos q]
          simp (disch := first | omega | (simp; done) | (simp; omega) | assumption) [Tryz.f15, argsE, e42, wdv, boxV, boxO, fresh_no, List.filter_cons, setB, aggN, op_build, List.set, isC, hne, k1', e29, q, Cl1_tup, Cl1_agg, Cl1_vs, cmdV, Cmd.v, Cmd.cs, C1, recs, ints]
        · rw [if_neg q]
          simp (disch := first | omega | (simp; done) | (simp; omega) | assumption) [Tryz.f15, argsE, e42, wdv, boxV, boxO, fresh_no, List.filter_cons, setB, aggN, op_build, List.set, isC, hne, k1', e29, q, Cl1_tup, Cl1_agg, Cl1_vs, cmdV, Cmd.v, zc_cs]
      rw [if_neg k1]
      have k1' : ¬ w0.2 = [111, 114, 100, 101, 114] := k1
      by_cases k2 : w0.2 = cancelW
      · rw [if_pos k2]
        have k2' : w0.2 = [99, 97, 110, 99, 101, 108] := k2
        simp only [wdv, k2'] at c2
        simp (disch := first | omega | (simp; done) | (simp; omega) | assumption) [Tryz.f15, argsE, e42, wdv, boxV, boxO, fresh_no, List.filter_cons, setB, aggN, op_build, List.set, isC, hne, k2', c2, Cl1_tup, Cl1_agg, Cl1_vs, cmdV, Cmd.v, Cmd.cs]
      rw [if_neg k2]
      have k2' : ¬ w0.2 = [99, 97, 110, 99, 101, 108] := k2
      by_cases k3 : w0.2 = recW
      · rw [if_pos k3]
        have k3' : w0.2 = [114, 101, 99, 111, 114, 100] := k3
        simp only [wdv, k3'] at e45
        simp (disch := first | omega | (simp; done) | (simp; omega) | assumption) [Tryz.f15, argsE, e42, wdv, boxV, boxO, fresh_no, List.filter_cons, setB, aggN, op_build, List.set, isC, hne, k3', e45, Cl1_tup, Cl1_agg, Cl1_vs, cmdV, Cmd.v, Cmd.cs]
      rw [if_neg k3]
      have k3' : ¬ w0.2 = [114, 101, 99, 111, 114, 100] := k3
      by_cases k4 : w0.2 = tickW
      · rw [if_pos k4]
        have k4' : w0.2 = [116, 105, 99, 107] := k4
        simp only [wdv, k4'] at c4
        simp (disch := first | omega | (simp; done) | (simp; omega) | assumption) [Tryz.f15, argsE, e42, wdv, boxV, boxO, fresh_no, List.filter_cons, setB, aggN, op_build, List.set, isC, hne, k4', c4, Cl1_tup, Cl1_agg, Cl1_vs, cmdV, Cmd.v, Cmd.cs]
      rw [if_neg k4]
      have k4' : ¬ w0.2 = [116, 105, 99, 107] := k4
      by_cases k5 : w0.2 = replanW
      · rw [if_pos k5]
        have k5' : w0.2 = [114, 101, 112, 108, 97, 110] := k5
        simp only [wdv, k5'] at c5
        simp (disch := first | omega | (simp; done) | (simp; omega) | assumption) [Tryz.f15, argsE, e42, wdv, boxV, boxO, fresh_no, List.filter_cons, setB, aggN, op_build, List.set, isC, hne, k5', c5, Cl1_tup, Cl1_agg, Cl1_vs, cmdV, Cmd.v, Cmd.cs]
      rw [if_neg k5]
      have k5' : ¬ w0.2 = [114, 101, 112, 108, 97, 110] := k5
      by_cases k6 : w0.2 = showW
      · rw [if_pos k6]
        have k6' : w0.2 = [115, 104, 111, 119] := k6
        simp only [wdv, k6'] at c6
        simp (disch := first | omega | (simp; done) | (simp; omega) | assumption) [Tryz.f15, argsE, e42, wdv, boxV, boxO, fresh_no, List.filter_cons, setB, aggN, op_build, List.set, isC, hne, k6', c6, Cl1_tup, Cl1_agg, Cl1_vs, cmdV, Cmd.v, Cmd.cs]
      rw [if_neg k6]
      have k6' : ¬ w0.2 = [115, 104, 111, 119] := k6
      simp (disch := first | omega | (simp; done) | (simp; omega) | assumption) [Tryz.f15, argsE, e42, wdv, boxV, boxO, fresh_no, List.filter_cons, setB, aggN, op_build, List.set, isC, hne, k1', k2', k3', k4', k5', k6', Cl1_tup, Cl1_agg, Cl1_vs, cmdV, Cmd.v, zc_cs]
end ZD
open Go Go.AM Go.Proofs Go.AM.Pl
set_option maxRecDepth 100000
set_option maxHeartbeats 4000000
namespace ZD
theorem s51 {lo : Nat} {ls : List (List UInt8)} {h : H} (h1 : ls.length ≤ 10000000) (h2 : ∀ x ∈ ls, x.length ≤ 4294967280) : den cx lo 51 [AM.vs .dead 1 (strs ls)] h = some (cmdV (recR ls), h) := by
  refine den_pure (fn := Tryz.f51) (by rfl) (by rfl) (by rfl) (by rfl) (by simp [Tryz.f51]) (by simp) ?_
  by_cases hl : ls.length < 2
  · have e : recR ls = (zc, 7) := by
      match ls, hl with
      | [], _ | [_], _ => rfl
    have hl' : (ls.length : Int) < 2 := by omega
    rw [e]
    simp (disch := first | omega | (simp; done) | (simp; omega) | assumption) [Tryz.f51, argsE, hl, hl', isC, boxV, boxO, fresh_no, List.filter_cons, setB, aggN, op_build, List.set, Cl1_tup, Cl1_agg, Cl1_vs, cmdV, Cmd.v, zc_cs]
  obtain ⟨w0, w1, r, rfl⟩ : ∃ w0 w1 r, ls = w0 :: w1 :: r := by
    match ls, hl with
    | [], h | [_], h => exact absurd (by simp) h
    | w0 :: w1 :: r, _ => exact ⟨w0, w1, r, rfl⟩
  have ewd : strs (w0 :: w1 :: r) = .t w0 :: .t w1 :: strs r := rfl
  have hl' : ¬ ((r.length : Int) + 1 + 1 < 2) := by omega
  have htm : ((r.length : Int) + 1 + 1).tmod 2 = (r.length : Int) % 2 := by rw [Int.tmod_eq_emod_of_nonneg (by omega)]; omega
  simp only [recR]
  by_cases hev : r.length % 2 = 0
  case neg =>
    rw [if_neg hev]
    have : ¬ ((r.length : Int) % 2 = 0) := by omega
    simp (disch := first | omega | (simp; done) | (simp; omega) | assumption) [Tryz.f51, argsE, ewd, hl', isC, boxV, boxO, fresh_no, List.filter_cons, setB, aggN, op_build, List.set, Cl1_tup, Cl1_agg, Cl1_vs, cmdV, Cmd.v, zc_cs, rem_int, htm, this, hev]
  rw [if_pos hev]
  have hev' : (r.length : Int) % 2 = 0 := by omega
  have hw1 := h2 w1 (by simp)
  have hw1' : w1.length ≤ 140737488355328 := by omega
  have h12 : (1 : Int) < (r.length : Int) + 1 + 1 := by omega
  have e110 := fun lo g => s110 (lo := lo) (l := w1) (m := 1000000000) (h := g) hw1' (by omega)
  have hM : numR w1 1000000000 = numR w1 M9 := rfl
  rw [hM] at e110
  clear hM
  by_cases k1 : (numR w1 M9).2 = 0
  case neg =>
    rw [if_neg k1]
    simp (disch := first | omega | (simp; done) | (simp; omega) | assumption) [Tryz.f51, argsE, ewd, hl', isC, boxV, boxO, fresh_no, List.filter_cons, setB, aggN, op_build, List.set, Cl1_tup, Cl1_agg, Cl1_vs, cmdV, Cmd.v, zc_cs, rem_int, htm, hev', hev, h12, e110, k1]
  rw [if_pos k1]
  simp only [k1] at e110
  generalize (numR w1 M9).1 = id at *
  have h2r : ∀ x ∈ r, x.length ≤ 4294967280 := fun x hx => h2 x (by simp [hx])
  clear h2 k1 hw1 hw1'
  simp (disch := first | omega | (simp; done) | (simp; omega) | assumption) [Tryz.f51, argsE, ewd, hl', isC, boxV, boxO, fresh_no, List.filter_cons, setB, aggN, op_build, List.set, rem_int, htm, hev', hev, h12, e110]
  clear e110
  obtain ⟨I, hI⟩ : ∃ I : Nat → List Ent → List (Nat × List V) → H → Prop, I = (fun n vs lb g => ∃ (q : Nat) (t : Tk) (out : List Rec), 2 * (n + q) = r.length ∧ out.length ≤ q ∧ Apd h.length g t ∧ h.length ≤ g.length ∧ pairsR r [] = pairsR (r.drop (2 * q)) out ∧ vs = [.v (.i (2 * (q : Int) + 2))] ∧
    lb = [(6, [.i 3, .i 0, .i 0, .i 0, .i 0, AM.vs .nil 0 [], .i id, AM.vs t 3 (recs out), .i 0, .i 0, .i 0, .i 0, AM.vs .nil 0 []]), (2, [.i 0, .i 0, .i 0, .i 0, .i 0, AM.vs .nil 0 [], .i 0, AM.vs .nil 0 [], .i 0, .i 0, .i 0, .i 0, AM.vs .nil 0 []])]) := ⟨_, rfl⟩
  refine Wp.loopQ I (n := r.length / 2) (by rw [hI]; exact ⟨0, .nil, [], by omega, by simp, by simp, by simp, by simp, by simp, by simp [recs]⟩) ?_
  intro n vs lb g hi Q hQ; rw [hI] at hi; obtain ⟨q, t, out, hj, ho, ha, hg, he, rfl, rfl⟩ := hi
  have hrl : r.length ≤ 10000000 := by simp at h1; omega
  by_cases hlt : 2 * q < r.length
  · have hlt1 : 2 * q + 1 < r.length := by omega
    have hli : 2 * (q : Int) + 2 < (r.length : Int) + 1 + 1 := by omega
    have t1 : (2 * (q : Int) + 2).toNat = 2 * q + 2 := by omega
    have t2 : (2 * (q : Int) + 2 + 1).toNat = 2 * q + 3 := by omega
    have l1 : (2 * (q : Int) + 2 + 1) < (r.length : Int) + 1 + 1 := by omega
    have hda : r.drop (2 * q) = r[2 * q] :: r[2 * q + 1] :: r.drop (2 * (q + 1)) := by
      rw [List.drop_eq_getElem_cons hlt, List.drop_eq_getElem_cons hlt1]; rfl
    have hwa := h2r _ (List.getElem_mem hlt)
    have hwb := h2r _ (List.getElem_mem hlt1)
    rw [hda] at he
    simp only [pairsR] at he
    generalize ea : r[2 * q] = wa at *
    generalize eb : r[2 * q + 1] = wb at *
    have fin : ∀ e : Int, pairsR r [] = ([], e) → e ≠ 0 → ∀ s : St, getE s.env 2 = .lp 2 0 → getE s.env 3 = .v (.i e) → getB s.lb 2 = some [.i 0, .i 0, .i 0, .i 0, .i 0, AM.vs .nil 0 [], .i 0, AM.vs .nil 0 [], .i 0, .i 0, .i 0, .i 0, AM.vs .nil 0 []] → Q .ret s := by
      intro e he h0 s k2 k3 k4
      refine hQ _ _ ?_
      rw [he, if_neg h0]
      simp (disch := first | omega | (simp; done) | (simp; omega) | assumption) [k2, k3, k4, boxV, boxO, fresh_no, List.filter_cons, setB, aggN, op_build, List.set, Cl1_tup, Cl1_agg, Cl1_vs, cmdV, Cmd.v, zc_cs]
    by_cases hone : ∃ c, wa = [c]
    case neg =>
      have hk : kindL wa = (0, false) := by
        unfold kindL; split
        · rename_i c; exact absurd ⟨c, rfl⟩ hone
        · rfl
      rw [hk] at he
      have fin := fin 2 he (by decide)
      have hlen : ¬ (wa.length = 1) := fun e => hone (by obtain ⟨c, hc⟩ := List.length_eq_one_iff.1 e; exact ⟨c, hc⟩)
      have hlen' : ¬ ((wa.length : Int) = 1) := by omega
      clear hI he hQ
      simp (disch := first | omega | (simp; done) | (simp; omega) | assumption) [isC, boxV, boxO, fresh_no, List.filter_cons, setB, aggN, op_build, List.set, ewd, hlt, hli, t1, ea, hlen, hlen']
      exact fin _ rfl rfl rfl
    obtain ⟨c, rfl⟩ := hone
    have hk : kindL [c] = kindR c := rfl
    rw [hk] at he
    by_cases k2 : (kindR c).2 = true
    case neg =>
      rw [if_neg k2] at he
      have fin := fin 2 he (by decide)
      clear hI he hQ
      simp (disch := first | omega | (simp; done) | (simp; omega) | assumption) [isC, boxV, boxO, fresh_no, List.filter_cons, setB, aggN, op_build, List.set, ewd, hlt, hli, t1, ea, s111, k2]
      exact fin _ rfl rfl rfl
    rw [if_pos k2] at he
    have hwb' : wb.length < 4294967281 := by omega
    by_cases k3 : (spanR wb).2.2 = 0
    case neg =>
      rw [if_neg k3] at he
      have fin := fin _ he k3
      clear hI he hQ
      simp (disch := first | omega | (simp; done) | (simp; omega) | assumption) [isC, boxV, boxO, fresh_no, List.filter_cons, setB, aggN, op_build, List.set, ewd, hlt, hli, t1, t2, l1, ea, eb, s111, k2, wrap64, s112, k3, hwb']
      exact fin _ rfl rfl rfl
    rw [if_pos k3] at he
    have go : I (n - 1) [.v (.i (2 * (q : Int) + 2 + 2))] [(6, [.i 3, .i 0, .i 0, .i 0, .i 0, AM.vs .nil 0 [], .i id, AM.vs (.tip g.length) 3 (recs out ++ [Rec.v ⟨(kindR c).1, (spanR wb).1, (spanR wb).2.1⟩]), .i 0, .i 0, .i 0, .i 0, AM.vs .nil 0 []]), (2, [.i 0, .i 0, .i 0, .i 0, .i 0, AM.vs .nil 0 [], .i 0, AM.vs .nil 0 [], .i 0, .i 0, .i 0, .i 0, AM.vs .nil 0 []])] (apH g t) := by
      rw [hI]; exact ⟨q + 1, .tip g.length, out ++ [⟨(kindR c).1, (spanR wb).1, (spanR wb).2.1⟩], by omega, by simp; omega, Apd_ap hg, by simp; omega, he, by simp; omega, by rw [recs_snoc]⟩
    clear hI he hQ fin
    simp (disch := first | omega | (simp; done) | (simp; omega) | assumption) [isC, boxV, boxO, fresh_no, List.filter_cons, setB, aggN, op_build, List.set, ewd, hlt, hli, t1, t2, l1, ea, eb, s111, k2, wrap64, s112, k3, elemsV, hwb']
    exact ⟨n - 1, by omega, go⟩
  · have hli : ¬ (2 * (q : Int) + 2 < (r.length : Int) + 1 + 1) := by omega
    rw [List.drop_of_length_le (by omega)] at he
    simp only [pairsR] at he
    clear hI
    simp (disch := first | omega | (simp; done) | (simp; omega) | assumption) [ewd, hli]
    refine hQ _ _ ?_
    rw [he]
    simp (disch := first | omega | (simp; done) | (simp; omega) | assumption) [boxV, boxO, fresh_no, List.filter_cons, setB, aggN, op_build, List.set, Cl1_tup, Cl1_agg, Cl1_vs, cmdV, C3, zo, Cmd.v, Cmd.cs, spns, ints]
end ZD
open Go Go.AM Go.Proofs Go.AM.Pl
set_option maxRecDepth 100000
set_option maxHeartbeats 4000000
namespace ZD
theorem s16 {lo : Nat} {l : List UInt8} {h : H} (h1 : l.length ≤ 300000) : den cx lo 16 [.t l] h = some (cmdV (readC l), h) := by
  have e50 := fun lo => s50 (lo := lo) (l := l) (h := h) h1
  have e49 := fun lo => s49 (lo := lo) (l := l) (h := h) h1
  refine den_pure (fn := Tryz.f16) (by rfl) (by rfl) (by rfl) (by rfl) (by simp [Tryz.f16]) (by simp) ?_
  cases hs : splR l with
  | error p =>
    have e : readC l = (zc, 7) := by unfold readC; rw [hs]
    have e2 : wordsR l = ([], false) := by unfold wordsR; rw [hs]
    rw [e]
    rw [e2] at e49
    simp only [wrdV] at e49
    simp (disch := first | omega | (simp; done) | (simp; omega) | assumption) [Tryz.f16, argsE, e49, boxV, boxO, fresh_no, List.filter_cons, setB, aggN, op_build, List.set, isC, Cl1_tup, Cl1_agg, Cl1_vs, cmdV, Cmd.v, zc_cs]
  | ok ws =>
    have hc := splR_count hs
    have hw := splR_wl hs
    cases ws with
    | nil =>
      have e : readC l = (zc, 7) := by unfold readC; rw [hs]
      have e2 : wordsR l = ([], false) := by unfold wordsR; rw [hs]; rfl
      rw [e]
      rw [e2] at e49
      simp only [wrdV] at e49
      simp (disch := first | omega | (simp; done) | (simp; omega) | assumption) [Tryz.f16, argsE, e49, boxV, boxO, fresh_no, List.filter_cons, setB, aggN, op_build, List.set, isC, Cl1_tup, Cl1_agg, Cl1_vs, cmdV, Cmd.v, zc_cs]
    | cons w0 r =>
      have e2 : wordsR l = (w0.2 :: r.map (·.2), true) := by unfold wordsR; rw [hs]; simp
      rw [e2] at e49
      have hrl : r.length ≤ 1000000 := by simp at hc; omega
      have hwl : ∀ x ∈ w0.2 :: r.map (·.2), x.length ≤ 4294967280 := fun x hx => by
        rcases List.mem_cons.1 hx with rfl | hx
        · have := hw w0 (by simp); omega
        · obtain ⟨y, hy, rfl⟩ := List.mem_map.1 hx
          have := hw y (by simp [hy]); omega
      have e51 := fun lo g => s51 (lo := lo) (ls := w0.2 :: r.map (·.2)) (h := g) (by simp; omega) hwl
      have e52 := fun lo g => s52 (lo := lo) (ls := r.map (·.2)) (load := -1) (h := g) (by simp; omega) (fun x hx => hwl x (by simp [hx]))
      have hlen := @numsR_len (-1) (r.map (·.2)) 0 []
      have e : readC l = if w0.2 = ordW then (if OrdR.e (readO l) = 0 then (C1 (readO l), 0) else (zc, OrdR.e (readO l)))
        else if w0.2 = cancelW then cntR (w0 :: r) 1 false C2 else if w0.2 = recW then recR (w0.2 :: r.map (·.2)) else if w0.2 = tickW then cntR (w0 :: r) 1 false C4
        else if w0.2 = replanW then cntR (w0 :: r) 3 true C5 else if w0.2 = showW then cntR (w0 :: r) 0 false C6 else (zc, 7) := by unfold readC; rw [hs]; rfl
      rw [e]
      clear e e2
      have ewd : strs (w0.2 :: r.map (·.2)) = .t w0.2 :: strs (r.map (·.2)) := rfl
      simp only [cntR, List.tail_cons, List.length_cons]
      obtain ⟨X, hX⟩ : ∃ X, numsR (-1) 0 (r.map (·.2)) [] = X := ⟨_, rfl⟩
      simp only [hX] at e52 hlen ⊢
      simp only [wrdV, ewd] at e49 e51
      simp only [cmdV, Cmd.v, Cmd.cs] at e51
      simp only [numV] at e52
      have sl : (strs (r.map (·.2))).length = r.length := by simp
      generalize recR (w0.2 :: r.map (·.2)) = X3 at *
      by_cases k1 : w0.2 = ordW
      · rw [if_pos k1]
        have k1' : w0.2 = [111, 114, 100, 101, 114] := k1
        simp only [ordV, Ord.v, Ord.cs] at e50
        by_cases q : OrdR.e (readO l) = 0
        · rw [if_pos q]
          simp (disch := first | omega | (simp; done) | (simp; omega) | assumption) [Tryz.f16, argsE, e49, boxV, boxO, fresh_no, List.filter_cons, setB, aggN, op_build, List.set, isC, k1', e50, q, Cl1_tup, Cl1_agg, Cl1_vs, cmdV, Cmd.v, Cmd.cs, C1, recs, ints]
        · rw [if_neg q]
          simp (disch := first | omega | (simp; done) | (simp; omega) | assumption) [Tryz.f16, argsE, e49, boxV, boxO, fresh_no, List.filter_cons, setB, aggN, op_build, List.set, isC, k1', e50, q, Cl1_tup, Cl1_agg, Cl1_vs, cmdV, Cmd.v, zc_cs]
      rw [if_neg k1]
      have k1' : ¬ w0.2 = [111, 114, 100, 101, 114] := k1
      by_cases k2 : w0.2 = cancelW
      · rw [if_pos k2]
        have k2' : w0.2 = [99, 97, 110, 99, 101, 108] := k2
        by_cases hl : r.length = 1
        · have hl' : (r.length : Int) = 1 := by omega
          rw [if_neg (by omega)]
          by_cases q : X.2 = 0
          · obtain ⟨a, ha⟩ := List.length_eq_one_iff.1 (show X.1.length = 1 by rw [hlen q]; simp [hl])
            rw [if_pos q]
            simp only [ha, ints, List.map_cons, List.map_nil] at e52 ⊢
            simp (disch := first | omega | (simp; done) | (simp; omega) | assumption) [Tryz.f16, argsE, e49, boxV, boxO, fresh_no, List.filter_cons, setB, aggN, op_build, List.set, isC, k2', hl, e52, q, Cl1_tup, Cl1_agg, Cl1_vs, cmdV, Cmd.v, Cmd.cs, C2, zo, spns, recs, ints]
          · rw [if_neg q]
            simp (disch := first | omega | (simp; done) | (simp; omega) | assumption) [Tryz.f16, argsE, e49, boxV, boxO, fresh_no, List.filter_cons, setB, aggN, op_build, List.set, isC, k2', hl, e52, q, Cl1_tup, Cl1_agg, Cl1_vs, cmdV, Cmd.v, zc_cs]
        · have hl' : ¬ ((r.length : Int) + 1 = 2) := by omega
          rw [if_pos (by simp; omega)]
          simp (disch := first | omega | (simp; done) | (simp; omega) | assumption) [Tryz.f16, argsE, e49, boxV, boxO, fresh_no, List.filter_cons, setB, aggN, op_build, List.set, isC, k2', hl', Cl1_tup, Cl1_agg, Cl1_vs, cmdV, Cmd.v, zc_cs]
      rw [if_neg k2]
      have k2' : ¬ w0.2 = [99, 97, 110, 99, 101, 108] := k2
      by_cases k3 : w0.2 = recW
      · rw [if_pos k3]
        have k3' : w0.2 = [114, 101, 99, 111, 114, 100] := k3
        simp only [k3'] at e51
        simp (disch := first | omega | (simp; done) | (simp; omega) | assumption) [Tryz.f16, argsE, e49, boxV, boxO, fresh_no, List.filter_cons, setB, aggN, op_build, List.set, isC, k3', e51, Cl1_tup, Cl1_agg, Cl1_vs, cmdV, Cmd.v, Cmd.cs]
      rw [if_neg k3]
      have k3' : ¬ w0.2 = [114, 101, 99, 111, 114, 100] := k3
      by_cases k4 : w0.2 = tickW
      · rw [if_pos k4]
        have k4' : w0.2 = [116, 105, 99, 107] := k4
        by_cases hl : r.length = 1
        · rw [if_neg (by omega)]
          by_cases q : X.2 = 0
          · obtain ⟨a, ha⟩ := List.length_eq_one_iff.1 (show X.1.length = 1 by rw [hlen q]; simp [hl])
            rw [if_pos q]
            simp only [ha, ints, List.map_cons, List.map_nil] at e52 ⊢
            simp (disch := first | omega | (simp; done) | (simp; omega) | assumption) [Tryz.f16, argsE, e49, boxV, boxO, fresh_no, List.filter_cons, setB, aggN, op_build, List.set, isC, k4', hl, e52, q, Cl1_tup, Cl1_agg, Cl1_vs, cmdV, Cmd.v, Cmd.cs, C4, zo, spns, recs, ints]
          · rw [if_neg q]
            simp (disch := first | omega | (simp; done) | (simp; omega) | assumption) [Tryz.f16, argsE, e49, boxV, boxO, fresh_no, List.filter_cons, setB, aggN, op_build, List.set, isC, k4', hl, e52, q, Cl1_tup, Cl1_agg, Cl1_vs, cmdV, Cmd.v, zc_cs]
        · have hl' : ¬ ((r.length : Int) + 1 = 2) := by omega
          rw [if_pos (by simp; omega)]
          simp (disch := first | omega | (simp; done) | (simp; omega) | assumption) [Tryz.f16, argsE, e49, boxV, boxO, fresh_no, List.filter_cons, setB, aggN, op_build, List.set, isC, k4', hl', Cl1_tup, Cl1_agg, Cl1_vs, cmdV, Cmd.v, zc_cs]
      rw [if_neg k4]
      have k4' : ¬ w0.2 = [116, 105, 99, 107] := k4
      by_cases k5 : w0.2 = replanW
      · rw [if_pos k5]
        have k5' : w0.2 = [114, 101, 112, 108, 97, 110] := k5
        by_cases hl : 3 ≤ r.length
        · have hl' : (4 : Int) ≤ (r.length : Int) + 1 := by omega
          rw [if_neg (by simp; omega)]
          by_cases q : X.2 = 0
          · obtain ⟨a, b, c, rr, ha⟩ : ∃ a b c rr, X.1 = a :: b :: c :: rr := by
              have h3 : 3 ≤ X.1.length := by rw [hlen q]; simp; omega
              match hx : X.1, h3 with
              | a :: b :: c :: rr, _ => exact ⟨a, b, c, rr, rfl⟩
            have h3 : (3 : Int) ≤ (rr.length : Int) + 1 + 1 + 1 := by omega
            have ei : ints (a :: b :: c :: rr) = .i a :: .i b :: .i c :: ints rr := rfl
            rw [if_pos q]
            simp only [ha, ei] at e52 ⊢
            simp (disch := first | omega | (simp; done) | (simp; omega) | assumption) [Tryz.f16, argsE, e49, boxV, boxO, fresh_no, List.filter_cons, setB, aggN, op_build, List.set, isC, k5', hl', e52, q, Cl1_tup, Cl1_agg, Cl1_vs, cmdV, Cmd.v, Cmd.cs, C5, zo, spns, recs, foot, Op.operands, opTmps, h3]
            exact indep_of bf16_23 (by rfl)
          · rw [if_neg q]
            simp (disch := first | omega | (simp; done) | (simp; omega) | assumption) [Tryz.f16, argsE, e49, boxV, boxO, fresh_no, List.filter_cons, setB, aggN, op_build, List.set, isC, k5', hl', e52, q, Cl1_tup, Cl1_agg, Cl1_vs, cmdV, Cmd.v, zc_cs]
        · have hl' : ¬ ((4 : Int) ≤ (r.length : Int) + 1) := by omega
          rw [if_pos (by simp; omega)]
          simp (disch := first | omega | (simp; done) | (simp; omega) | assumption) [Tryz.f16, argsE, e49, boxV, boxO, fresh_no, List.filter_cons, setB, aggN, op_build, List.set, isC, k5', hl', Cl1_tup, Cl1_agg, Cl1_vs, cmdV, Cmd.v, zc_cs]
      rw [if_neg k5]
      have k5' : ¬ w0.2 = [114, 101, 112, 108, 97, 110] := k5
      by_cases k6 : w0.2 = showW
      · rw [if_pos k6]
        have k6' : w0.2 = [115, 104, 111, 119] := k6
        by_cases hl : r = []
        · subst hl
          have hX' : X = ([], 0) := by rw [← hX]; rfl
          subst hX'
          simp (disch := first | omega | (simp; done) | (simp; omega) | assumption) [Tryz.f16, argsE, e49, boxV, boxO, fresh_no, List.filter_cons, setB, aggN, op_build, List.set, isC, k6', Cl1_tup, Cl1_agg, Cl1_vs, cmdV, Cmd.v, Cmd.cs, C6, zo, spns, recs, ints, strs]
        · have h0 : 0 < r.length := List.length_pos_iff.2 hl
          rw [if_pos (by simp; omega)]
          simp (disch := first | omega | (simp; done) | (simp; omega) | assumption) [Tryz.f16, argsE, e49, boxV, boxO, fresh_no, List.filter_cons, setB, aggN, op_build, List.set, isC, k6', hl, Cl1_tup, Cl1_agg, Cl1_vs, cmdV, Cmd.v, zc_cs]
          omega
      rw [if_neg k6]
      have k6' : ¬ w0.2 = [115, 104, 111, 119] := k6
      simp (disch := first | omega | (simp; done) | (simp; omega) | assumption) [Tryz.f16, argsE, e49, boxV, boxO, fresh_no, List.filter_cons, setB, aggN, op_build, List.set, isC, k1', k2', k3', k4', k5', k6', Cl1_tup, Cl1_agg, Cl1_vs, cmdV, Cmd.v, zc_cs]
end ZD

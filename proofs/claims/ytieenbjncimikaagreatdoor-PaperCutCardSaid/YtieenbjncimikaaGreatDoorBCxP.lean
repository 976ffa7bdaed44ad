/- Facts of the types and functions that depots reach. No condition. -/
import Derived.Test.YtieenbjncimikaaGreatDoorBCx
set_option linter.all false
open Go Go.AM Go.Proofs
set_option maxRecDepth 100000
namespace ZD
@[simp] theorem sh55 : shuts cx 55 = true := by rfl
@[simp] theorem c55_0 : cx.carry 55 0 = ([13], [14, 15, 16, 6, 17, 18, 19, 20, 4, 21], []) := by rfl
@[simp] theorem sh56 : shuts cx 56 = true := by rfl
@[simp] theorem c56_0 : cx.carry 56 0 = ([10], [11, 12, 13, 4, 14, 15, 16, 17, 2, 18], [4]) := by rfl
@[simp] theorem len52 {tk : Tk} {w : Nat} {l : List V} {h : H} : lenV cx 52 h (AM.vs tk w l) = some (.i l.length) := len_vs (e := 24) (by rfl)
@[simp] theorem lenm52 {b o n w : Nat} {h : H} : lenV cx 52 h (.msl b o n w) = some (.i n) := len_msl (e := 24) (by rfl)
@[simp] theorem ia52 {tk : Tk} {l : List V} {k : IntKind} {i : Int} (h0 : 0 ≤ i) (h1 : i < l.length) : indexAddrV cx 52 (.v (AM.vs tk 5 l)) (.s (.int k i)) = some (.v (.vptr (cellsOf (l[i.toNat]'(by omega))))) := indexAddr_i (e := 24) (by rfl) (by rfl) h0 h1
@[simp] theorem im52 {b o n : Nat} {k : IntKind} {i : Int} (h0 : 0 ≤ i) (h1 : i < n) : indexAddrV cx 52 (.v (.msl b o n 5)) (.s (.int k i)) = some (.v (.ptr b (o + i.toNat * 5))) := indexAddr_msl (e := 24) (by rfl) (by rfl) h0 h1
@[simp] theorem es56_4 : escB cx 56 4 = false := by rfl
@[simp] theorem sh57 : shuts cx 57 = true := by rfl
@[simp] theorem c57_0 : cx.carry 57 0 = ([10], [11, 12, 13, 4, 14, 15, 16, 17, 2, 18], [4]) := by rfl
@[simp] theorem len53 {tk : Tk} {w : Nat} {l : List V} {h : H} : lenV cx 53 h (AM.vs tk w l) = some (.i l.length) := len_vs (e := 112) (by rfl)
@[simp] theorem lenm53 {b o n w : Nat} {h : H} : lenV cx 53 h (.msl b o n w) = some (.i n) := len_msl (e := 112) (by rfl)
@[simp] theorem ia53 {tk : Tk} {l : List V} {k : IntKind} {i : Int} (h0 : 0 ≤ i) (h1 : i < l.length) : indexAddrV cx 53 (.v (AM.vs tk 6 l)) (.s (.int k i)) = some (.v (.vptr (cellsOf (l[i.toNat]'(by omega))))) := indexAddr_i (e := 112) (by rfl) (by rfl) h0 h1
@[simp] theorem im53 {b o n : Nat} {k : IntKind} {i : Int} (h0 : 0 ≤ i) (h1 : i < n) : indexAddrV cx 53 (.v (.msl b o n 6)) (.s (.int k i)) = some (.v (.ptr b (o + i.toNat * 6))) := indexAddr_msl (e := 112) (by rfl) (by rfl) h0 h1
theorem T112 : AggT cx 112 6 := ⟨by rfl, by rfl⟩
@[simp] theorem ld112a {st : St} {b o : Nat} : loadAt cx st 112 (.lp b o) = (getB st.lb b).bind fun cs => aggN 6 (cs.drop o) := loadN_lp T112
@[simp] theorem ld112b {st : St} {b o : Nat} : loadAt cx st 112 (.v (.ptr b o)) = (cellsAt st.h b).bind fun cs => aggN 6 (cs.drop o) := loadN_ptr T112
@[simp] theorem ld112c {st : St} {cs : List V} : loadAt cx st 112 (.v (.vptr cs)) = aggN 6 cs := loadN_vptr T112
@[simp] theorem es57_4 : escB cx 57 4 = false := by rfl
@[simp] theorem zo112 : zeroOf cx.P 112 = some (.agg [.s (.int .i64 0), .s (.int .i64 0), .s (.int .i64 0), .s (.int .i64 0), .s (.int .i64 0), AM.vs .nil 0 []]) := by rfl
@[simp] theorem st112 {lo : Nat} {st : St} {b o : Nat} {v : V} : storeAt cx lo st 112 (.lp b o) v = if (cellsOf v).length = 6 ∧ okv v = true then (getB st.lb b).bind fun cs => (wr cs o (cellsOf v)).map fun cs => { st with lb := setB st.lb b cs } else none := store_lp (by rfl)
@[simp] theorem fa112_5a {b o : Nat} : fieldAddrV cx 112 5 (.lp b o) = some (.lp b (o + 5)) := fieldAddr_lp (u := 25) (n := 0) (by rfl) (by rfl)
@[simp] theorem sh20 : shuts cx 20 = true := by rfl
@[simp] theorem es20_1 : escB cx 20 1 = false := by rfl
@[simp] theorem fa55_1a {b o : Nat} : fieldAddrV cx 55 1 (.lp b o) = some (.lp b (o + 19)) := fieldAddr_lp (u := 51) (n := 0) (by rfl) (by rfl)
@[simp] theorem fa55_1b {b o : Nat} : fieldAddrV cx 55 1 (.v (.ptr b o)) = some (.v (.ptr b (o + 19))) := fieldAddr_ptr (u := 51) (n := 0) (by rfl) (by rfl)
@[simp] theorem fa55_1c {cs : List V} : fieldAddrV cx 55 1 (.v (.vptr cs)) = if 19 ≤ cs.length then some (.v (.vptr (cs.drop 19))) else none := fieldAddr_vptr (u := 51) (n := 0) (by rfl) (by rfl)
theorem T51 : OneT cx 51 := ⟨by rfl, by rfl⟩
@[simp] theorem ld51a {st : St} {b o : Nat} : loadAt cx st 51 (.lp b o) = (getB st.lb b).bind fun cs => cs[o]? := load1_lp T51
@[simp] theorem ld51b {st : St} {b o : Nat} : loadAt cx st 51 (.v (.ptr b o)) = (cellsAt st.h b).bind fun cs => cs[o]? := load1_ptr T51
@[simp] theorem ld51c {st : St} {cs : List V} : loadAt cx st 51 (.v (.vptr cs)) = cs[0]? := load1_vptr T51
@[simp] theorem fa55_2a {b o : Nat} : fieldAddrV cx 55 2 (.lp b o) = some (.lp b (o + 20)) := fieldAddr_lp (u := 52) (n := 0) (by rfl) (by rfl)
@[simp] theorem fa55_2b {b o : Nat} : fieldAddrV cx 55 2 (.v (.ptr b o)) = some (.v (.ptr b (o + 20))) := fieldAddr_ptr (u := 52) (n := 0) (by rfl) (by rfl)
@[simp] theorem fa55_2c {cs : List V} : fieldAddrV cx 55 2 (.v (.vptr cs)) = if 20 ≤ cs.length then some (.v (.vptr (cs.drop 20))) else none := fieldAddr_vptr (u := 52) (n := 0) (by rfl) (by rfl)
theorem T52 : OneT cx 52 := ⟨by rfl, by rfl⟩
@[simp] theorem ld52a {st : St} {b o : Nat} : loadAt cx st 52 (.lp b o) = (getB st.lb b).bind fun cs => cs[o]? := load1_lp T52
@[simp] theorem ld52b {st : St} {b o : Nat} : loadAt cx st 52 (.v (.ptr b o)) = (cellsAt st.h b).bind fun cs => cs[o]? := load1_ptr T52
@[simp] theorem ld52c {st : St} {cs : List V} : loadAt cx st 52 (.v (.vptr cs)) = cs[0]? := load1_vptr T52
@[simp] theorem fa55_3a {b o : Nat} : fieldAddrV cx 55 3 (.lp b o) = some (.lp b (o + 21)) := fieldAddr_lp (u := 53) (n := 0) (by rfl) (by rfl)
@[simp] theorem fa55_3b {b o : Nat} : fieldAddrV cx 55 3 (.v (.ptr b o)) = some (.v (.ptr b (o + 21))) := fieldAddr_ptr (u := 53) (n := 0) (by rfl) (by rfl)
@[simp] theorem fa55_3c {cs : List V} : fieldAddrV cx 55 3 (.v (.vptr cs)) = if 21 ≤ cs.length then some (.v (.vptr (cs.drop 21))) else none := fieldAddr_vptr (u := 53) (n := 0) (by rfl) (by rfl)
theorem T53 : OneT cx 53 := ⟨by rfl, by rfl⟩
@[simp] theorem ld53a {st : St} {b o : Nat} : loadAt cx st 53 (.lp b o) = (getB st.lb b).bind fun cs => cs[o]? := load1_lp T53
@[simp] theorem ld53b {st : St} {b o : Nat} : loadAt cx st 53 (.v (.ptr b o)) = (cellsAt st.h b).bind fun cs => cs[o]? := load1_ptr T53
@[simp] theorem ld53c {st : St} {cs : List V} : loadAt cx st 53 (.v (.vptr cs)) = cs[0]? := load1_vptr T53
@[simp] theorem sh21 : shuts cx 21 = true := by rfl
@[simp] theorem es21_1 : escB cx 21 1 = false := by rfl
@[simp] theorem eq81 {x0 x1 y0 y1 : Int} : binOpV cx .eql 81 (.agg [.i x0, .i x1]) (.agg [.i y0, .i y1]) = some (.b (decide ([x0, x1] = [y0, y1]))) := eq_ints (fs := _) (xs := [x0, x1]) (ys := [y0, y1]) (by rfl) (by decide +kernel) deep (by rfl) (by rfl) (by rfl)
@[simp] theorem ne81 {x0 x1 y0 y1 : Int} : binOpV cx .neq 81 (.agg [.i x0, .i x1]) (.agg [.i y0, .i y1]) = some (.b (!decide ([x0, x1] = [y0, y1]))) := ne_ints (fs := _) (xs := [x0, x1]) (ys := [y0, y1]) (by rfl) (by decide +kernel) deep (by rfl) (by rfl) (by rfl)
@[simp] theorem sh115 : shuts cx 115 = true := by rfl
@[simp] theorem es115_1 : escB cx 115 1 = false := by rfl
@[simp] theorem es115_2 : escB cx 115 2 = false := by rfl
@[simp] theorem zo165 : zeroOf cx.P 165 = some (.agg [.s (.int .i64 0), .s (.int .i64 0), .s (.int .i64 0), .s (.int .i64 0), .s (.int .i64 0), .s (.int .i64 0), .s (.int .i64 0), .s (.int .i64 0), .s (.int .i64 0), .s (.int .i64 0), .s (.int .i64 0), .s (.int .i64 0), .s (.int .i64 0), .s (.int .i64 0), .s (.int .i64 0), .s (.int .i64 0), .s (.int .i64 0), .s (.int .i64 0), .s (.int .i64 0)]) := by rfl
@[simp] theorem fa50_0a {b o : Nat} : fieldAddrV cx 50 0 (.lp b o) = some (.lp b (o + 0)) := fieldAddr_lp (u := 3) (n := 0) (by rfl) (by rfl)
@[simp] theorem fa50_0b {b o : Nat} : fieldAddrV cx 50 0 (.v (.ptr b o)) = some (.v (.ptr b (o + 0))) := fieldAddr_ptr (u := 3) (n := 0) (by rfl) (by rfl)
@[simp] theorem fa50_0c {cs : List V} : fieldAddrV cx 50 0 (.v (.vptr cs)) = if 0 ≤ cs.length then some (.v (.vptr (cs.drop 0))) else none := fieldAddr_vptr (u := 3) (n := 0) (by rfl) (by rfl)
@[simp] theorem fa50_1a {b o : Nat} : fieldAddrV cx 50 1 (.lp b o) = some (.lp b (o + 1)) := fieldAddr_lp (u := 3) (n := 0) (by rfl) (by rfl)
@[simp] theorem fa50_2a {b o : Nat} : fieldAddrV cx 50 2 (.lp b o) = some (.lp b (o + 2)) := fieldAddr_lp (u := 3) (n := 0) (by rfl) (by rfl)
@[simp] theorem fa50_3a {b o : Nat} : fieldAddrV cx 50 3 (.lp b o) = some (.lp b (o + 3)) := fieldAddr_lp (u := 3) (n := 0) (by rfl) (by rfl)
@[simp] theorem fa50_4a {b o : Nat} : fieldAddrV cx 50 4 (.lp b o) = some (.lp b (o + 4)) := fieldAddr_lp (u := 3) (n := 0) (by rfl) (by rfl)
@[simp] theorem fa50_4b {b o : Nat} : fieldAddrV cx 50 4 (.v (.ptr b o)) = some (.v (.ptr b (o + 4))) := fieldAddr_ptr (u := 3) (n := 0) (by rfl) (by rfl)
@[simp] theorem fa50_4c {cs : List V} : fieldAddrV cx 50 4 (.v (.vptr cs)) = if 4 ≤ cs.length then some (.v (.vptr (cs.drop 4))) else none := fieldAddr_vptr (u := 3) (n := 0) (by rfl) (by rfl)
@[simp] theorem fa50_5a {b o : Nat} : fieldAddrV cx 50 5 (.lp b o) = some (.lp b (o + 5)) := fieldAddr_lp (u := 3) (n := 0) (by rfl) (by rfl)
@[simp] theorem fa50_5b {b o : Nat} : fieldAddrV cx 50 5 (.v (.ptr b o)) = some (.v (.ptr b (o + 5))) := fieldAddr_ptr (u := 3) (n := 0) (by rfl) (by rfl)
@[simp] theorem fa50_5c {cs : List V} : fieldAddrV cx 50 5 (.v (.vptr cs)) = if 5 ≤ cs.length then some (.v (.vptr (cs.drop 5))) else none := fieldAddr_vptr (u := 3) (n := 0) (by rfl) (by rfl)
@[simp] theorem fa50_6a {b o : Nat} : fieldAddrV cx 50 6 (.lp b o) = some (.lp b (o + 6)) := fieldAddr_lp (u := 3) (n := 0) (by rfl) (by rfl)
@[simp] theorem fa50_6b {b o : Nat} : fieldAddrV cx 50 6 (.v (.ptr b o)) = some (.v (.ptr b (o + 6))) := fieldAddr_ptr (u := 3) (n := 0) (by rfl) (by rfl)
@[simp] theorem fa50_6c {cs : List V} : fieldAddrV cx 50 6 (.v (.vptr cs)) = if 6 ≤ cs.length then some (.v (.vptr (cs.drop 6))) else none := fieldAddr_vptr (u := 3) (n := 0) (by rfl) (by rfl)
@[simp] theorem fa50_7a {b o : Nat} : fieldAddrV cx 50 7 (.lp b o) = some (.lp b (o + 7)) := fieldAddr_lp (u := 3) (n := 0) (by rfl) (by rfl)
@[simp] theorem fa50_8a {b o : Nat} : fieldAddrV cx 50 8 (.lp b o) = some (.lp b (o + 8)) := fieldAddr_lp (u := 3) (n := 0) (by rfl) (by rfl)
@[simp] theorem fa50_8b {b o : Nat} : fieldAddrV cx 50 8 (.v (.ptr b o)) = some (.v (.ptr b (o + 8))) := fieldAddr_ptr (u := 3) (n := 0) (by rfl) (by rfl)
@[simp] theorem fa50_8c {cs : List V} : fieldAddrV cx 50 8 (.v (.vptr cs)) = if 8 ≤ cs.length then some (.v (.vptr (cs.drop 8))) else none := fieldAddr_vptr (u := 3) (n := 0) (by rfl) (by rfl)
@[simp] theorem fa50_9a {b o : Nat} : fieldAddrV cx 50 9 (.lp b o) = some (.lp b (o + 9)) := fieldAddr_lp (u := 3) (n := 0) (by rfl) (by rfl)
@[simp] theorem fa50_9b {b o : Nat} : fieldAddrV cx 50 9 (.v (.ptr b o)) = some (.v (.ptr b (o + 9))) := fieldAddr_ptr (u := 3) (n := 0) (by rfl) (by rfl)
@[simp] theorem fa50_9c {cs : List V} : fieldAddrV cx 50 9 (.v (.vptr cs)) = if 9 ≤ cs.length then some (.v (.vptr (cs.drop 9))) else none := fieldAddr_vptr (u := 3) (n := 0) (by rfl) (by rfl)
@[simp] theorem fa50_10a {b o : Nat} : fieldAddrV cx 50 10 (.lp b o) = some (.lp b (o + 10)) := fieldAddr_lp (u := 3) (n := 0) (by rfl) (by rfl)
@[simp] theorem fa50_11a {b o : Nat} : fieldAddrV cx 50 11 (.lp b o) = some (.lp b (o + 11)) := fieldAddr_lp (u := 3) (n := 0) (by rfl) (by rfl)
@[simp] theorem fa50_11b {b o : Nat} : fieldAddrV cx 50 11 (.v (.ptr b o)) = some (.v (.ptr b (o + 11))) := fieldAddr_ptr (u := 3) (n := 0) (by rfl) (by rfl)
@[simp] theorem fa50_11c {cs : List V} : fieldAddrV cx 50 11 (.v (.vptr cs)) = if 11 ≤ cs.length then some (.v (.vptr (cs.drop 11))) else none := fieldAddr_vptr (u := 3) (n := 0) (by rfl) (by rfl)
@[simp] theorem fa50_12a {b o : Nat} : fieldAddrV cx 50 12 (.lp b o) = some (.lp b (o + 12)) := fieldAddr_lp (u := 3) (n := 0) (by rfl) (by rfl)
@[simp] theorem fa50_13a {b o : Nat} : fieldAddrV cx 50 13 (.lp b o) = some (.lp b (o + 13)) := fieldAddr_lp (u := 3) (n := 0) (by rfl) (by rfl)
@[simp] theorem fa50_14a {b o : Nat} : fieldAddrV cx 50 14 (.lp b o) = some (.lp b (o + 14)) := fieldAddr_lp (u := 3) (n := 0) (by rfl) (by rfl)
@[simp] theorem fa50_14b {b o : Nat} : fieldAddrV cx 50 14 (.v (.ptr b o)) = some (.v (.ptr b (o + 14))) := fieldAddr_ptr (u := 3) (n := 0) (by rfl) (by rfl)
@[simp] theorem fa50_14c {cs : List V} : fieldAddrV cx 50 14 (.v (.vptr cs)) = if 14 ≤ cs.length then some (.v (.vptr (cs.drop 14))) else none := fieldAddr_vptr (u := 3) (n := 0) (by rfl) (by rfl)
@[simp] theorem fa50_15a {b o : Nat} : fieldAddrV cx 50 15 (.lp b o) = some (.lp b (o + 15)) := fieldAddr_lp (u := 3) (n := 0) (by rfl) (by rfl)
@[simp] theorem fa50_15b {b o : Nat} : fieldAddrV cx 50 15 (.v (.ptr b o)) = some (.v (.ptr b (o + 15))) := fieldAddr_ptr (u := 3) (n := 0) (by rfl) (by rfl)
@[simp] theorem fa50_15c {cs : List V} : fieldAddrV cx 50 15 (.v (.vptr cs)) = if 15 ≤ cs.length then some (.v (.vptr (cs.drop 15))) else none := fieldAddr_vptr (u := 3) (n := 0) (by rfl) (by rfl)
@[simp] theorem fa50_16a {b o : Nat} : fieldAddrV cx 50 16 (.lp b o) = some (.lp b (o + 16)) := fieldAddr_lp (u := 3) (n := 0) (by rfl) (by rfl)
@[simp] theorem fa50_16b {b o : Nat} : fieldAddrV cx 50 16 (.v (.ptr b o)) = some (.v (.ptr b (o + 16))) := fieldAddr_ptr (u := 3) (n := 0) (by rfl) (by rfl)
@[simp] theorem fa50_16c {cs : List V} : fieldAddrV cx 50 16 (.v (.vptr cs)) = if 16 ≤ cs.length then some (.v (.vptr (cs.drop 16))) else none := fieldAddr_vptr (u := 3) (n := 0) (by rfl) (by rfl)
@[simp] theorem fa50_17a {b o : Nat} : fieldAddrV cx 50 17 (.lp b o) = some (.lp b (o + 17)) := fieldAddr_lp (u := 3) (n := 0) (by rfl) (by rfl)
@[simp] theorem fa50_17b {b o : Nat} : fieldAddrV cx 50 17 (.v (.ptr b o)) = some (.v (.ptr b (o + 17))) := fieldAddr_ptr (u := 3) (n := 0) (by rfl) (by rfl)
@[simp] theorem fa50_17c {cs : List V} : fieldAddrV cx 50 17 (.v (.vptr cs)) = if 17 ≤ cs.length then some (.v (.vptr (cs.drop 17))) else none := fieldAddr_vptr (u := 3) (n := 0) (by rfl) (by rfl)
@[simp] theorem fa50_18a {b o : Nat} : fieldAddrV cx 50 18 (.lp b o) = some (.lp b (o + 18)) := fieldAddr_lp (u := 3) (n := 0) (by rfl) (by rfl)
@[simp] theorem fa50_18b {b o : Nat} : fieldAddrV cx 50 18 (.v (.ptr b o)) = some (.v (.ptr b (o + 18))) := fieldAddr_ptr (u := 3) (n := 0) (by rfl) (by rfl)
@[simp] theorem fa50_18c {cs : List V} : fieldAddrV cx 50 18 (.v (.vptr cs)) = if 18 ≤ cs.length then some (.v (.vptr (cs.drop 18))) else none := fieldAddr_vptr (u := 3) (n := 0) (by rfl) (by rfl)
@[simp] theorem st165 {lo : Nat} {st : St} {b o : Nat} {v : V} : storeAt cx lo st 165 (.lp b o) v = if (cellsOf v).length = 19 ∧ okv v = true then (getB st.lb b).bind fun cs => (wr cs o (cellsOf v)).map fun cs => { st with lb := setB st.lb b cs } else none := store_lp (by rfl)
@[simp] theorem st165p {lo : Nat} {st : St} {b o : Nat} {v : V} : storeAt cx lo st 165 (.v (.ptr b o)) v = if (cellsOf v).length = 19 ∧ okv v = true ∧ lo ≤ b then (cellsAt st.h b).bind fun cs => (wr cs o (cellsOf v)).map fun cs => { st with h := st.h.set b (.cells cs) } else none := store_ptr (by rfl)
@[simp] theorem sh134 : shuts cx 134 = true := by rfl
@[simp] theorem c134_0 : cx.carry 134 0 = ([9], [10, 11, 12, 3, 4, 5, 6, 13, 14, 15, 16, 17, 18, 19, 20, 21, 22, 23, 24, 25, 26, 2, 27], []) := by rfl
@[simp] theorem es134_1 : escB cx 134 1 = false := by rfl
theorem T50 : AggT cx 50 19 := ⟨by rfl, by rfl⟩
@[simp] theorem ld50a {st : St} {b o : Nat} : loadAt cx st 50 (.lp b o) = (getB st.lb b).bind fun cs => aggN 19 (cs.drop o) := loadN_lp T50
@[simp] theorem ld50b {st : St} {b o : Nat} : loadAt cx st 50 (.v (.ptr b o)) = (cellsAt st.h b).bind fun cs => aggN 19 (cs.drop o) := loadN_ptr T50
@[simp] theorem ld50c {st : St} {cs : List V} : loadAt cx st 50 (.v (.vptr cs)) = aggN 19 cs := loadN_vptr T50
@[simp] theorem sh188 : shuts cx 188 = true := by rfl
@[simp] theorem sh164 : shuts cx 164 = true := by rfl
@[simp] theorem sh135 : shuts cx 135 = true := by rfl
theorem bf135_4 : Region.before ⟨rg Tryz.f135 4⟩ = ⟨[0, 0, 3, 7, 0, 0, 32, 112, 240, 511]⟩ := by decide +kernel
@[simp] theorem c135_0 : cx.carry 135 0 = ([3], [7, 8, 11, 12, 13, 14, 15, 16, 17, 18, 19, 20, 2, 9, 10], []) := by rfl
@[simp] theorem sh80 : shuts cx 80 = true := by rfl
@[simp] theorem es80_1 : escB cx 80 1 = false := by rfl
@[simp] theorem r80_21 : isRow cx 80 (some 21) = false := by rfl
@[simp] theorem br80_21 {lo : Nat} {st : St} {call : Nat → FuncId → List V → H → Option (V × H)} {ps : List (Nat × Operand)} : opV cx call 80 lo (some 21) st (.buildSlice 26 7 ⟨ps⟩) = (evalP cx st ps).bind fun l => if (l.all fun p => decide (p.1 < 7) && (cellsOf p.2).length == 1 && okv p.2) = true then some (.v (AM.vs .full 1 (elemsV (List.replicate 7 (.s (.int .i64 0))) l)), st) else none := build_row (e := 3) (by rfl) (by rfl) (by rfl) r80_21 (by decide) (by decide) (by rfl)
@[simp] theorem sh136 : shuts cx 136 = true := by rfl
@[simp] theorem c136_0 : cx.carry 136 0 = ([16], [17, 18, 19, 20, 8, 9, 22, 23, 24, 25, 26, 27, 21, 28, 6, 7, 30, 31, 32, 33, 34, 35, 36, 29, 37, 38], []) := by rfl
@[simp] theorem sh81 : shuts cx 81 = true := by rfl
@[simp] theorem c81_1 : cx.carry 81 1 = ([19], [20, 21, 22, 23, 5, 6, 25, 26, 27, 28, 29, 24, 30, 31, 7, 8, 32, 33, 34, 35, 36, 2, 3, 4, 37], []) := by rfl
@[simp] theorem sh165 : shuts cx 165 = true := by rfl
@[simp] theorem sh190 : shuts cx 190 = true := by rfl
@[simp] theorem es190_1 : escB cx 190 1 = false := by rfl
@[simp] theorem sh189 : shuts cx 189 = true := by rfl
@[simp] theorem es189_1 : escB cx 189 1 = false := by rfl
@[simp] theorem sh191 : shuts cx 191 = true := by rfl
@[simp] theorem es191_1 : escB cx 191 1 = false := by rfl
@[simp] theorem sh192 : shuts cx 192 = true := by rfl
theorem bf192_4 : Region.before ⟨rg Tryz.f192 4⟩ = ⟨[0, 1, 3, 7, 15, 31, 63, 127, 255, 127, 127, 1151, 3711, 7807, 15999, 32767, 65535, 131071]⟩ := by decide +kernel
@[simp] theorem c192_0 : cx.carry 192 0 = ([7], [8, 9, 10, 11, 4, 3, 12, 13, 14, 15, 16, 17, 18, 19, 20, 21, 22, 23, 24, 25, 26, 27, 28, 29, 2, 30], [4]) := by rfl
@[simp] theorem es192_4 : escB cx 192 4 = false := by rfl
@[simp] theorem sh166 : shuts cx 166 = true := by rfl
@[simp] theorem sh137 : shuts cx 137 = true := by rfl
@[simp] theorem es137_2 : escB cx 137 2 = false := by rfl
@[simp] theorem sh82 : shuts cx 82 = true := by rfl
@[simp] theorem c82_0 : cx.carry 82 0 = ([15, 6], [16, 17, 18, 19, 8, 7, 20, 21, 22, 9, 23, 24, 25, 26, 4, 5, 28, 29, 30, 31, 27, 32, 34, 35, 36, 37, 33, 38, 39, 40, 41], [8]) := by rfl
@[simp] theorem es82_8 : escB cx 82 8 = false := by rfl
@[simp] theorem sh167 : shuts cx 167 = true := by rfl
@[simp] theorem sh168 : shuts cx 168 = true := by rfl
@[simp] theorem sh213 : shuts cx 213 = true := by rfl
theorem bf213_6 : Region.before ⟨rg Tryz.f213 6⟩ = ⟨[0, 1, 3, 7, 7, 31, 63, 127, 7, 263, 1023, 2047]⟩ := by decide +kernel
@[simp] theorem c213_0 : cx.carry 213 0 = ([3, 9], [10, 11, 12, 5, 13, 14, 15, 6, 16, 17, 18, 19, 20, 21, 22, 23, 24, 25, 26, 27, 28, 29, 30, 31, 32, 33, 34, 35, 36, 37, 38], [5]) := by rfl
@[simp] theorem es213_5 : escB cx 213 5 = false := by rfl
@[simp] theorem r213_36 : isRow cx 213 (some 36) = false := by rfl
@[simp] theorem br213_36 {lo : Nat} {st : St} {call : Nat → FuncId → List V → H → Option (V × H)} {ps : List (Nat × Operand)} : opV cx call 213 lo (some 36) st (.buildSlice 25 1 ⟨ps⟩) = (evalP cx st ps).bind fun l => if (l.all fun p => decide (p.1 < 1) && (cellsOf p.2).length == 3 && okv p.2) = true then some (.v (AM.vs .full 3 (elemsV (List.replicate 1 (.agg [.s (.int .i64 0), .s (.int .i64 0), .s (.int .i64 0)])) l)), st) else none := build_row (e := 70) (by rfl) (by rfl) (by rfl) r213_36 (by decide) (by decide) (by rfl)
@[simp] theorem r213_37 : isRow cx 213 (some 37) = true := by rfl
@[simp] theorem sh193 : shuts cx 193 = true := by rfl
@[simp] theorem sh194 : shuts cx 194 = true := by rfl
theorem bf194_6 : Region.before ⟨rg Tryz.f194 6⟩ = ⟨[0, 0, 3, 7, 0, 0, 48, 112, 255]⟩ := by decide +kernel
@[simp] theorem c194_0 : cx.carry 194 0 = ([13], [14, 15, 5, 16, 17, 18, 19, 20, 21, 22, 23, 24, 4, 25], []) := by rfl
@[simp] theorem sh169 : shuts cx 169 = true := by rfl
@[simp] theorem sh138 : shuts cx 138 = true := by rfl
@[simp] theorem es138_2 : escB cx 138 2 = false := by rfl
@[simp] theorem fa112_0a {b o : Nat} : fieldAddrV cx 112 0 (.lp b o) = some (.lp b (o + 0)) := fieldAddr_lp (u := 3) (n := 0) (by rfl) (by rfl)
@[simp] theorem fa112_1a {b o : Nat} : fieldAddrV cx 112 1 (.lp b o) = some (.lp b (o + 1)) := fieldAddr_lp (u := 3) (n := 0) (by rfl) (by rfl)
@[simp] theorem fa112_2a {b o : Nat} : fieldAddrV cx 112 2 (.lp b o) = some (.lp b (o + 2)) := fieldAddr_lp (u := 3) (n := 0) (by rfl) (by rfl)
@[simp] theorem fa112_3a {b o : Nat} : fieldAddrV cx 112 3 (.lp b o) = some (.lp b (o + 3)) := fieldAddr_lp (u := 3) (n := 0) (by rfl) (by rfl)
@[simp] theorem fa112_4a {b o : Nat} : fieldAddrV cx 112 4 (.lp b o) = some (.lp b (o + 4)) := fieldAddr_lp (u := 3) (n := 0) (by rfl) (by rfl)
@[simp] theorem sh83 : shuts cx 83 = true := by rfl
@[simp] theorem c83_0 : cx.carry 83 0 = ([15, 6], [16, 17, 18, 19, 8, 7, 20, 21, 22, 9, 24, 25, 23, 26, 27, 4, 5, 29, 30, 31, 32, 28, 33, 35, 36, 37, 38, 34, 39, 40, 41, 42], [8]) := by rfl
@[simp] theorem es83_8 : escB cx 83 8 = false := by rfl
theorem bf214_0 : Region.before ⟨rg Tryz.f214 0⟩ = ⟨[0, 1, 3, 7, 15, 31, 63, 127, 255, 511, 1023, 2047, 127, 4223, 12415, 28799, 61567, 131071, 262143, 524287]⟩ := by decide +kernel
@[simp] theorem fa227_1b {b o : Nat} : fieldAddrV cx 227 1 (.v (.ptr b o)) = some (.v (.ptr b (o + 19))) := fieldAddr_ptr (u := 172) (n := 13) (by rfl) (by rfl)
@[simp] theorem fa227_1c {cs : List V} : fieldAddrV cx 227 1 (.v (.vptr cs)) = if 19 ≤ cs.length then some (.v (.vptr (cs.drop 19))) else none := fieldAddr_vptr (u := 172) (n := 13) (by rfl) (by rfl)
@[simp] theorem fa172_0b {b o : Nat} : fieldAddrV cx 172 0 (.v (.ptr b o)) = some (.v (.ptr b (o + 0))) := fieldAddr_ptr (u := 3) (n := 0) (by rfl) (by rfl)
@[simp] theorem fa172_0c {cs : List V} : fieldAddrV cx 172 0 (.v (.vptr cs)) = if 0 ≤ cs.length then some (.v (.vptr (cs.drop 0))) else none := fieldAddr_vptr (u := 3) (n := 0) (by rfl) (by rfl)
@[simp] theorem fa227_0b {b o : Nat} : fieldAddrV cx 227 0 (.v (.ptr b o)) = some (.v (.ptr b (o + 0))) := fieldAddr_ptr (u := 50) (n := 18) (by rfl) (by rfl)
@[simp] theorem fa227_0c {cs : List V} : fieldAddrV cx 227 0 (.v (.vptr cs)) = if 0 ≤ cs.length then some (.v (.vptr (cs.drop 0))) else none := fieldAddr_vptr (u := 50) (n := 18) (by rfl) (by rfl)
@[simp] theorem fa172_11b {b o : Nat} : fieldAddrV cx 172 11 (.v (.ptr b o)) = some (.v (.ptr b (o + 11))) := fieldAddr_ptr (u := 3) (n := 0) (by rfl) (by rfl)
@[simp] theorem fa172_11c {cs : List V} : fieldAddrV cx 172 11 (.v (.vptr cs)) = if 11 ≤ cs.length then some (.v (.vptr (cs.drop 11))) else none := fieldAddr_vptr (u := 3) (n := 0) (by rfl) (by rfl)
@[simp] theorem fa172_12b {b o : Nat} : fieldAddrV cx 172 12 (.v (.ptr b o)) = some (.v (.ptr b (o + 12))) := fieldAddr_ptr (u := 3) (n := 0) (by rfl) (by rfl)
@[simp] theorem fa172_12c {cs : List V} : fieldAddrV cx 172 12 (.v (.vptr cs)) = if 12 ≤ cs.length then some (.v (.vptr (cs.drop 12))) else none := fieldAddr_vptr (u := 3) (n := 0) (by rfl) (by rfl)
@[simp] theorem fa172_13b {b o : Nat} : fieldAddrV cx 172 13 (.v (.ptr b o)) = some (.v (.ptr b (o + 13))) := fieldAddr_ptr (u := 3) (n := 0) (by rfl) (by rfl)
@[simp] theorem fa172_13c {cs : List V} : fieldAddrV cx 172 13 (.v (.vptr cs)) = if 13 ≤ cs.length then some (.v (.vptr (cs.drop 13))) else none := fieldAddr_vptr (u := 3) (n := 0) (by rfl) (by rfl)
@[simp] theorem fa227_2b {b o : Nat} : fieldAddrV cx 227 2 (.v (.ptr b o)) = some (.v (.ptr b (o + 33))) := fieldAddr_ptr (u := 3) (n := 0) (by rfl) (by rfl)
@[simp] theorem fa227_2c {cs : List V} : fieldAddrV cx 227 2 (.v (.vptr cs)) = if 33 ≤ cs.length then some (.v (.vptr (cs.drop 33))) else none := fieldAddr_vptr (u := 3) (n := 0) (by rfl) (by rfl)
@[simp] theorem sh247 : shuts cx 247 = true := by rfl
@[simp] theorem es247_3 : escB cx 247 3 = false := by rfl
@[simp] theorem es247_4 : escB cx 247 4 = false := by rfl
@[simp] theorem sh244 : shuts cx 244 = true := by rfl
theorem bf244_11 : Region.before ⟨rg Tryz.f244 11⟩ = ⟨[0, 0, 2, 7, 0, 0, 32, 127, 255, 511, 1023, 2047, 2047, 6143, 16383, 32767, 65535, 131071, 0, 524287]⟩ := by decide +kernel
@[simp] theorem es244_5 : escB cx 244 5 = false := by rfl
@[simp] theorem es244_6 : escB cx 244 6 = false := by rfl
@[simp] theorem es244_10 : escB cx 244 10 = false := by rfl
@[simp] theorem zo256 : zeroOf cx.P 256 = some (.agg [.s (.bool false), .s (.bool false), .s (.bool false), .s (.bool false), .s (.bool false), .s (.bool false), .s (.bool false)]) := by rfl
@[simp] theorem bu256 {parts : List (Nat × V)} : buildV cx 256 parts = (fillV (fun i => ([(0, 1), (1, 1), (2, 1), (3, 1), (4, 1), (5, 1), (6, 1)] : List (Nat × Nat))[i]?) (cellsOf (.agg [.s (.bool false), .s (.bool false), .s (.bool false), .s (.bool false), .s (.bool false), .s (.bool false), .s (.bool false)])) parts).map .agg := build_struct (by rfl) (by rfl) (by rfl)
@[simp] theorem st256 {lo : Nat} {st : St} {b o : Nat} {v : V} : storeAt cx lo st 256 (.lp b o) v = if (cellsOf v).length = 7 ∧ okv v = true then (getB st.lb b).bind fun cs => (wr cs o (cellsOf v)).map fun cs => { st with lb := setB st.lb b cs } else none := store_lp (by rfl)
@[simp] theorem es244_13 : escB cx 244 13 = true := by rfl
@[simp] theorem zo3 : zeroOf cx.P 3 = some (.s (.int .i64 0)) := by rfl
@[simp] theorem es244_16 : escB cx 244 16 = false := by rfl
@[simp] theorem fa256_0a {b o : Nat} : fieldAddrV cx 256 0 (.lp b o) = some (.lp b (o + 0)) := fieldAddr_lp (u := 4) (n := 0) (by rfl) (by rfl)
theorem T4 : OneT cx 4 := ⟨by rfl, by rfl⟩
@[simp] theorem ld4a {st : St} {b o : Nat} : loadAt cx st 4 (.lp b o) = (getB st.lb b).bind fun cs => cs[o]? := load1_lp T4
@[simp] theorem ld4b {st : St} {b o : Nat} : loadAt cx st 4 (.v (.ptr b o)) = (cellsAt st.h b).bind fun cs => cs[o]? := load1_ptr T4
@[simp] theorem ld4c {st : St} {cs : List V} : loadAt cx st 4 (.v (.vptr cs)) = cs[0]? := load1_vptr T4
@[simp] theorem fa256_1a {b o : Nat} : fieldAddrV cx 256 1 (.lp b o) = some (.lp b (o + 1)) := fieldAddr_lp (u := 4) (n := 0) (by rfl) (by rfl)
@[simp] theorem st4 {lo : Nat} {st : St} {b o : Nat} {v : V} : storeAt cx lo st 4 (.lp b o) v = if (cellsOf v).length = 1 ∧ okv v = true then (getB st.lb b).bind fun cs => (wr cs o (cellsOf v)).map fun cs => { st with lb := setB st.lb b cs } else none := store_lp (by rfl)
@[simp] theorem st4p {lo : Nat} {st : St} {b o : Nat} {v : V} : storeAt cx lo st 4 (.v (.ptr b o)) v = if (cellsOf v).length = 1 ∧ okv v = true ∧ lo ≤ b then (cellsAt st.h b).bind fun cs => (wr cs o (cellsOf v)).map fun cs => { st with h := st.h.set b (.cells cs) } else none := store_ptr (by rfl)
theorem T256 : AggT cx 256 7 := ⟨by rfl, by rfl⟩
@[simp] theorem ld256a {st : St} {b o : Nat} : loadAt cx st 256 (.lp b o) = (getB st.lb b).bind fun cs => aggN 7 (cs.drop o) := loadN_lp T256
@[simp] theorem sh233 : shuts cx 233 = true := by rfl
theorem bf233_1 : Region.before ⟨rg Tryz.f233 1⟩ = ⟨[0, 1, 3, 7, 15, 0, 32, 96, 224, 480, 1023, 0, 2048, 6144, 14336, 30720, 65535, 0, 262143]⟩ := by decide +kernel
theorem bf233_2 : Region.before ⟨rg Tryz.f233 2⟩ = ⟨[0, 1, 3, 7, 0, 0, 32, 96, 224, 480, 0, 1024, 4064, 0, 8192, 24576, 57344, 122880, 0, 262144, 786432, 1835008, 3932160, 8388607, 16777215, 33554431, 33554431, 0, 201326591, 536870911]⟩ := by decide +kernel
@[simp] theorem es233_2 : escB cx 233 2 = false := by rfl
@[simp] theorem fa172_3b {b o : Nat} : fieldAddrV cx 172 3 (.v (.ptr b o)) = some (.v (.ptr b (o + 3))) := fieldAddr_ptr (u := 3) (n := 0) (by rfl) (by rfl)
@[simp] theorem fa172_3c {cs : List V} : fieldAddrV cx 172 3 (.v (.vptr cs)) = if 3 ≤ cs.length then some (.v (.vptr (cs.drop 3))) else none := fieldAddr_vptr (u := 3) (n := 0) (by rfl) (by rfl)
@[simp] theorem es233_3 : escB cx 233 3 = false := by rfl
@[simp] theorem fa172_4b {b o : Nat} : fieldAddrV cx 172 4 (.v (.ptr b o)) = some (.v (.ptr b (o + 4))) := fieldAddr_ptr (u := 3) (n := 0) (by rfl) (by rfl)
@[simp] theorem fa172_4c {cs : List V} : fieldAddrV cx 172 4 (.v (.vptr cs)) = if 4 ≤ cs.length then some (.v (.vptr (cs.drop 4))) else none := fieldAddr_vptr (u := 3) (n := 0) (by rfl) (by rfl)
@[simp] theorem fa172_2b {b o : Nat} : fieldAddrV cx 172 2 (.v (.ptr b o)) = some (.v (.ptr b (o + 2))) := fieldAddr_ptr (u := 4) (n := 0) (by rfl) (by rfl)
@[simp] theorem fa172_2c {cs : List V} : fieldAddrV cx 172 2 (.v (.vptr cs)) = if 2 ≤ cs.length then some (.v (.vptr (cs.drop 2))) else none := fieldAddr_vptr (u := 4) (n := 0) (by rfl) (by rfl)
@[simp] theorem fa172_7b {b o : Nat} : fieldAddrV cx 172 7 (.v (.ptr b o)) = some (.v (.ptr b (o + 7))) := fieldAddr_ptr (u := 4) (n := 0) (by rfl) (by rfl)
@[simp] theorem fa172_7c {cs : List V} : fieldAddrV cx 172 7 (.v (.vptr cs)) = if 7 ≤ cs.length then some (.v (.vptr (cs.drop 7))) else none := fieldAddr_vptr (u := 4) (n := 0) (by rfl) (by rfl)
@[simp] theorem es233_4 : escB cx 233 4 = false := by rfl
theorem bf215_0 : Region.before ⟨rg Tryz.f215 0⟩ = ⟨[0, 1, 0, 4, 12, 0, 35, 127]⟩ := by decide +kernel
theorem bf215_3 : Region.before ⟨rg Tryz.f215 3⟩ = ⟨[0, 0, 0, 0, 0, 16, 0, 64, 192, 448, 1009, 2033, 4081, 8179, 16371, 32755, 65527, 131063, 262135, 524287, 1048575, 2097151]⟩ := by decide +kernel
theorem bf215_6 : Region.before ⟨rg Tryz.f215 6⟩ = ⟨[0, 0, 2, 6, 14, 0, 32, 96, 224, 480, 1022, 2047]⟩ := by decide +kernel
@[simp] theorem es215_2 : escB cx 215 2 = false := by rfl
@[simp] theorem fa256_5a {b o : Nat} : fieldAddrV cx 256 5 (.lp b o) = some (.lp b (o + 5)) := fieldAddr_lp (u := 4) (n := 0) (by rfl) (by rfl)
@[simp] theorem fa256_6a {b o : Nat} : fieldAddrV cx 256 6 (.lp b o) = some (.lp b (o + 6)) := fieldAddr_lp (u := 4) (n := 0) (by rfl) (by rfl)
@[simp] theorem fa172_10b {b o : Nat} : fieldAddrV cx 172 10 (.v (.ptr b o)) = some (.v (.ptr b (o + 10))) := fieldAddr_ptr (u := 4) (n := 0) (by rfl) (by rfl)
@[simp] theorem fa172_10c {cs : List V} : fieldAddrV cx 172 10 (.v (.vptr cs)) = if 10 ≤ cs.length then some (.v (.vptr (cs.drop 10))) else none := fieldAddr_vptr (u := 4) (n := 0) (by rfl) (by rfl)
@[simp] theorem fa172_9b {b o : Nat} : fieldAddrV cx 172 9 (.v (.ptr b o)) = some (.v (.ptr b (o + 9))) := fieldAddr_ptr (u := 3) (n := 0) (by rfl) (by rfl)
@[simp] theorem fa172_9c {cs : List V} : fieldAddrV cx 172 9 (.v (.vptr cs)) = if 9 ≤ cs.length then some (.v (.vptr (cs.drop 9))) else none := fieldAddr_vptr (u := 3) (n := 0) (by rfl) (by rfl)
@[simp] theorem fa172_6b {b o : Nat} : fieldAddrV cx 172 6 (.v (.ptr b o)) = some (.v (.ptr b (o + 6))) := fieldAddr_ptr (u := 3) (n := 0) (by rfl) (by rfl)
@[simp] theorem fa172_6c {cs : List V} : fieldAddrV cx 172 6 (.v (.vptr cs)) = if 6 ≤ cs.length then some (.v (.vptr (cs.drop 6))) else none := fieldAddr_vptr (u := 3) (n := 0) (by rfl) (by rfl)
@[simp] theorem fa172_8b {b o : Nat} : fieldAddrV cx 172 8 (.v (.ptr b o)) = some (.v (.ptr b (o + 8))) := fieldAddr_ptr (u := 3) (n := 0) (by rfl) (by rfl)
@[simp] theorem fa172_8c {cs : List V} : fieldAddrV cx 172 8 (.v (.vptr cs)) = if 8 ≤ cs.length then some (.v (.vptr (cs.drop 8))) else none := fieldAddr_vptr (u := 3) (n := 0) (by rfl) (by rfl)
@[simp] theorem fa256_4a {b o : Nat} : fieldAddrV cx 256 4 (.lp b o) = some (.lp b (o + 4)) := fieldAddr_lp (u := 4) (n := 0) (by rfl) (by rfl)
@[simp] theorem fa172_1b {b o : Nat} : fieldAddrV cx 172 1 (.v (.ptr b o)) = some (.v (.ptr b (o + 1))) := fieldAddr_ptr (u := 3) (n := 0) (by rfl) (by rfl)
@[simp] theorem fa172_1c {cs : List V} : fieldAddrV cx 172 1 (.v (.vptr cs)) = if 1 ≤ cs.length then some (.v (.vptr (cs.drop 1))) else none := fieldAddr_vptr (u := 3) (n := 0) (by rfl) (by rfl)
@[simp] theorem fa256_2a {b o : Nat} : fieldAddrV cx 256 2 (.lp b o) = some (.lp b (o + 2)) := fieldAddr_lp (u := 4) (n := 0) (by rfl) (by rfl)
@[simp] theorem fa256_3a {b o : Nat} : fieldAddrV cx 256 3 (.lp b o) = some (.lp b (o + 3)) := fieldAddr_lp (u := 4) (n := 0) (by rfl) (by rfl)
@[simp] theorem fa172_5b {b o : Nat} : fieldAddrV cx 172 5 (.v (.ptr b o)) = some (.v (.ptr b (o + 5))) := fieldAddr_ptr (u := 3) (n := 0) (by rfl) (by rfl)
@[simp] theorem fa172_5c {cs : List V} : fieldAddrV cx 172 5 (.v (.vptr cs)) = if 5 ≤ cs.length then some (.v (.vptr (cs.drop 5))) else none := fieldAddr_vptr (u := 3) (n := 0) (by rfl) (by rfl)
theorem bf217_4 : Region.before ⟨rg Tryz.f217 4⟩ = ⟨[0, 1, 3, 7, 0, 16, 48, 112, 240, 496, 1023]⟩ := by decide +kernel
theorem bf217_6 : Region.before ⟨rg Tryz.f217 6⟩ = ⟨[0, 0, 2, 6, 14, 0, 32, 96, 224, 480, 1022, 2047]⟩ := by decide +kernel
theorem bf217_7 : Region.before ⟨rg Tryz.f217 7⟩ = ⟨[0, 0, 2, 6, 14, 0, 32, 96, 224, 480, 1022, 2047]⟩ := by decide +kernel
theorem bf217_8 : Region.before ⟨rg Tryz.f217 8⟩ = ⟨[0, 0, 2, 6, 14, 0, 32, 96, 224, 480, 1022, 2047]⟩ := by decide +kernel
theorem bf217_9 : Region.before ⟨rg Tryz.f217 9⟩ = ⟨[0, 0, 2, 6, 14, 0, 32, 96, 224, 480, 1022, 2047]⟩ := by decide +kernel
theorem bf217_10 : Region.before ⟨rg Tryz.f217 10⟩ = ⟨[0, 0, 2, 6, 14, 0, 32, 96, 224, 510, 0, 1024, 3072, 7168, 15360, 32766, 65535]⟩ := by decide +kernel
theorem bf195_6 : Region.before ⟨rg Tryz.f195 6⟩ = ⟨[0, 0, 2, 6, 14, 30, 0, 64, 192, 448, 960, 2046, 0, 4096, 12288, 28672, 61440, 0, 131072, 393216, 917504, 1966080, 4190208, 8388606, 16777215]⟩ := by decide +kernel
theorem bf195_7 : Region.before ⟨rg Tryz.f195 7⟩ = ⟨[0, 0, 2, 6, 14, 30, 0, 64, 192, 448, 960, 2046, 0, 4096, 12288, 28672, 61440, 131070, 262143]⟩ := by decide +kernel
theorem bf195_12 : Region.before ⟨rg Tryz.f195 12⟩ = ⟨[0, 0, 2, 6, 14, 30, 0, 64, 192, 448, 960, 2046, 4095]⟩ := by decide +kernel
@[simp] theorem sh170 : shuts cx 170 = true := by rfl
theorem bf170_18 : Region.before ⟨rg Tryz.f170 18⟩ = ⟨[0, 1, 3, 7, 0, 16, 48, 112, 15, 511, 1023]⟩ := by decide +kernel
@[simp] theorem c170_0 : cx.carry 170 0 = ([44], [45, 46, 47, 12, 48, 49, 50, 51, 52, 53, 54, 55, 56, 57, 58, 59, 60], [12]) := by rfl
@[simp] theorem c170_2 : cx.carry 170 2 = ([53], [54, 55, 56, 57, 58, 59], []) := by rfl
@[simp] theorem es170_2 : escB cx 170 2 = false := by rfl
@[simp] theorem es170_4 : escB cx 170 4 = false := by rfl
@[simp] theorem zo172 : zeroOf cx.P 172 = some (.agg [.s (.int .i64 0), .s (.int .i64 0), .s (.bool false), .s (.int .i64 0), .s (.int .i64 0), .s (.int .i64 0), .s (.int .i64 0), .s (.bool false), .s (.int .i64 0), .s (.int .i64 0), .s (.bool false), .s (.int .i64 0), .s (.int .i64 0), .s (.int .i64 0)]) := by rfl
@[simp] theorem bu172 {parts : List (Nat × V)} : buildV cx 172 parts = (fillV (fun i => ([(0, 1), (1, 1), (2, 1), (3, 1), (4, 1), (5, 1), (6, 1), (7, 1), (8, 1), (9, 1), (10, 1), (11, 1), (12, 1), (13, 1)] : List (Nat × Nat))[i]?) (cellsOf (.agg [.s (.int .i64 0), .s (.int .i64 0), .s (.bool false), .s (.int .i64 0), .s (.int .i64 0), .s (.int .i64 0), .s (.int .i64 0), .s (.bool false), .s (.int .i64 0), .s (.int .i64 0), .s (.bool false), .s (.int .i64 0), .s (.int .i64 0), .s (.int .i64 0)])) parts).map .agg := build_struct (by rfl) (by rfl) (by rfl)
@[simp] theorem st172 {lo : Nat} {st : St} {b o : Nat} {v : V} : storeAt cx lo st 172 (.lp b o) v = if (cellsOf v).length = 14 ∧ okv v = true then (getB st.lb b).bind fun cs => (wr cs o (cellsOf v)).map fun cs => { st with lb := setB st.lb b cs } else none := store_lp (by rfl)
@[simp] theorem bu227 {parts : List (Nat × V)} : buildV cx 227 parts = (fillV (fun i => ([(0, 19), (19, 14), (33, 1)] : List (Nat × Nat))[i]?) (cellsOf (.agg [.s (.int .i64 0), .s (.int .i64 0), .s (.int .i64 0), .s (.int .i64 0), .s (.int .i64 0), .s (.int .i64 0), .s (.int .i64 0), .s (.int .i64 0), .s (.int .i64 0), .s (.int .i64 0), .s (.int .i64 0), .s (.int .i64 0), .s (.int .i64 0), .s (.int .i64 0), .s (.int .i64 0), .s (.int .i64 0), .s (.int .i64 0), .s (.int .i64 0), .s (.int .i64 0), .s (.int .i64 0), .s (.int .i64 0), .s (.bool false), .s (.int .i64 0), .s (.int .i64 0), .s (.int .i64 0), .s (.int .i64 0), .s (.bool false), .s (.int .i64 0), .s (.int .i64 0), .s (.bool false), .s (.int .i64 0), .s (.int .i64 0), .s (.int .i64 0), .s (.int .i64 0)])) parts).map .agg := build_struct (by rfl) (by rfl) (by rfl)
@[simp] theorem es170_41 : escB cx 170 41 = true := by rfl
@[simp] theorem es170_12 : escB cx 170 12 = false := by rfl
theorem T172 : AggT cx 172 14 := ⟨by rfl, by rfl⟩
@[simp] theorem ld172a {st : St} {b o : Nat} : loadAt cx st 172 (.lp b o) = (getB st.lb b).bind fun cs => aggN 14 (cs.drop o) := loadN_lp T172
@[simp] theorem ld172b {st : St} {b o : Nat} : loadAt cx st 172 (.v (.ptr b o)) = (cellsAt st.h b).bind fun cs => aggN 14 (cs.drop o) := loadN_ptr T172
@[simp] theorem ld172c {st : St} {cs : List V} : loadAt cx st 172 (.v (.vptr cs)) = aggN 14 cs := loadN_vptr T172
@[simp] theorem sh139 : shuts cx 139 = true := by rfl
@[simp] theorem es139_2 : escB cx 139 2 = false := by rfl
@[simp] theorem es139_3 : escB cx 139 3 = false := by rfl
@[simp] theorem es139_4 : escB cx 139 4 = false := by rfl
@[simp] theorem es139_8 : escB cx 139 8 = false := by rfl
@[simp] theorem sh84 : shuts cx 84 = true := by rfl
@[simp] theorem c84_0 : cx.carry 84 0 = ([13, 5], [14, 15, 16, 17, 7, 6, 19, 20, 21, 22, 18, 23, 24, 8, 9, 25, 26, 27, 28, 2, 3, 4, 29, 30, 31, 32, 33], [7, 8]) := by rfl
@[simp] theorem es84_1 : escB cx 84 1 = false := by rfl
@[simp] theorem es84_7 : escB cx 84 7 = false := by rfl
@[simp] theorem fa55_0a {b o : Nat} : fieldAddrV cx 55 0 (.lp b o) = some (.lp b (o + 0)) := fieldAddr_lp (u := 50) (n := 18) (by rfl) (by rfl)
@[simp] theorem fa55_0b {b o : Nat} : fieldAddrV cx 55 0 (.v (.ptr b o)) = some (.v (.ptr b (o + 0))) := fieldAddr_ptr (u := 50) (n := 18) (by rfl) (by rfl)
@[simp] theorem fa55_0c {cs : List V} : fieldAddrV cx 55 0 (.v (.vptr cs)) = if 0 ≤ cs.length then some (.v (.vptr (cs.drop 0))) else none := fieldAddr_vptr (u := 50) (n := 18) (by rfl) (by rfl)
@[simp] theorem es84_8 : escB cx 84 8 = false := by rfl
theorem E134 : ElT cx 134 14 112 := ⟨⟨172, by rfl, by rfl, by rfl, _, by rfl, by rfl⟩, by decide, by decide⟩
@[simp] theorem r84_31 : isRow cx 84 (some 31) = false := by rfl
@[simp] theorem br84_31 {lo : Nat} {st : St} {call : Nat → FuncId → List V → H → Option (V × H)} {ps : List (Nat × Operand)} : opV cx call 84 lo (some 31) st (.buildSlice 134 1 ⟨ps⟩) = (evalP cx st ps).bind fun l => if (l.all fun p => decide (p.1 < 1) && (cellsOf p.2).length == 14 && okv p.2) = true then some (.v (AM.vs .full 14 (elemsV (List.replicate 1 (.agg [.s (.int .i64 0), .s (.int .i64 0), .s (.bool false), .s (.int .i64 0), .s (.int .i64 0), .s (.int .i64 0), .s (.int .i64 0), .s (.bool false), .s (.int .i64 0), .s (.int .i64 0), .s (.bool false), .s (.int .i64 0), .s (.int .i64 0), .s (.int .i64 0)])) l)), st) else none := build_row (e := 172) (by rfl) (by rfl) (by rfl) r84_31 (by decide) (by decide) (by rfl)
@[simp] theorem ap134 {lo : Nat} {st : St} {tk tk' : Tk} {l l' : List V} (ha : Apd lo st.h tk) (hne : l' ≠ []) (hlen : (l.length + l'.length) * 112 ≤ 70368744177664) : appendV cx lo st false 134 (AM.vs tk 14 l) (AM.vs tk' 14 l') = some (AM.vs (.tip st.h.length) 14 (l ++ l'), { st with h := apH st.h tk }) := append_vs E134 ha hne hlen
@[simp] theorem an134 {lo : Nat} {st : St} {tk' : Tk} {l' : List V} (hne : l' ≠ []) (hlen : l'.length * 112 ≤ 70368744177664) : appendV cx lo st false 134 (AM.vs .nil 0 []) (AM.vs tk' 14 l') = some (AM.vs (.tip st.h.length) 14 l', { st with h := apH st.h .nil }) := append_nil E134 hne hlen
@[simp] theorem aq134 {lo w0 : Nat} {st : St} {tk' : Tk} {l' : List V} (hne : l' ≠ []) (hlen : l'.length * 112 ≤ 70368744177664) : appendV cx lo st true 134 (AM.vs .nil w0 []) (AM.vs tk' 14 l') = some (.msl st.h.length 0 l'.length 14, push st (.cells (l'.flatMap cellsOf))) := append_row0 E134 (.inl rfl) hne hlen
@[simp] theorem pa134 : plainArg cx (some 134) = true := by rfl
@[simp] theorem r84_32 : isRow cx 84 (some 32) = false := by rfl
@[simp] theorem sh27 : shuts cx 27 = true := by rfl
@[simp] theorem es27_1 : escB cx 27 1 = false := by rfl
@[simp] theorem sh61 : shuts cx 61 = true := by rfl
@[simp] theorem es61_1 : escB cx 61 1 = false := by rfl
@[simp] theorem es61_3 : escB cx 61 3 = true := by rfl
theorem bf62_6 : Region.before ⟨rg Tryz.f62 6⟩ = ⟨[0, 0, 2, 6, 0, 16, 0, 64, 240, 496, 1022, 2046, 4094, 8191]⟩ := by decide +kernel
@[simp] theorem c62_0 : cx.carry 62 0 = ([26], [27, 28, 29, 5, 31, 32, 33, 30, 34, 35, 6, 7, 36, 37, 38, 39, 40, 41, 42, 43, 44, 45, 46, 47, 48, 49, 50], [5]) := by rfl
@[simp] theorem es62_3 : escB cx 62 3 = false := by rfl
@[simp] theorem r62_19 : isRow cx 62 (some 19) = false := by rfl
@[simp] theorem br62_19 {lo : Nat} {st : St} {call : Nat → FuncId → List V → H → Option (V × H)} {ps : List (Nat × Operand)} : opV cx call 62 lo (some 19) st (.buildSlice 26 5 ⟨ps⟩) = (evalP cx st ps).bind fun l => if (l.all fun p => decide (p.1 < 5) && (cellsOf p.2).length == 1 && okv p.2) = true then some (.v (AM.vs .full 1 (elemsV (List.replicate 5 (.s (.int .i64 0))) l)), st) else none := build_row (e := 3) (by rfl) (by rfl) (by rfl) r62_19 (by decide) (by decide) (by rfl)
@[simp] theorem es62_5 : escB cx 62 5 = false := by rfl
@[simp] theorem r62_38 : isRow cx 62 (some 38) = false := by rfl
@[simp] theorem br62_38 {lo : Nat} {st : St} {call : Nat → FuncId → List V → H → Option (V × H)} {ps : List (Nat × Operand)} : opV cx call 62 lo (some 38) st (.buildSlice 102 1 ⟨ps⟩) = (evalP cx st ps).bind fun l => if (l.all fun p => decide (p.1 < 1) && (cellsOf p.2).length == 1 && okv p.2) = true then some (.v (AM.vs .full 1 (elemsV (List.replicate 1 (.s (.int .u8 0))) l)), st) else none := build_row (e := 5) (by rfl) (by rfl) (by rfl) r62_38 (by decide) (by decide) (by rfl)
@[simp] theorem r62_46 : isRow cx 62 (some 46) = false := by rfl
@[simp] theorem br62_46 {lo : Nat} {st : St} {call : Nat → FuncId → List V → H → Option (V × H)} {ps : List (Nat × Operand)} : opV cx call 62 lo (some 46) st (.buildSlice 90 3 ⟨ps⟩) = (evalP cx st ps).bind fun l => if (l.all fun p => decide (p.1 < 3) && (cellsOf p.2).length == 1 && okv p.2) = true then some (.v (AM.vs .full 1 (elemsV (List.replicate 3 (.s (.string (bs [])))) l)), st) else none := build_row (e := 9) (by rfl) (by rfl) (by rfl) r62_46 (by decide) (by decide) (by rfl)
@[simp] theorem sh22 : shuts cx 22 = true := by rfl
@[simp] theorem c22_0 : cx.carry 22 0 = ([43], [44, 45, 46, 9, 47, 48, 49, 50, 51], []) := by rfl
@[simp] theorem c22_2 : cx.carry 22 2 = ([55], [56, 57, 58, 11, 59, 60, 61, 62, 63], [11]) := by rfl
@[simp] theorem c22_4 : cx.carry 22 4 = ([67], [68, 69, 70, 13, 71, 72, 73], [13]) := by rfl
@[simp] theorem es22_1 : escB cx 22 1 = false := by rfl
@[simp] theorem es22_7 : escB cx 22 7 = true := by rfl
@[simp] theorem zo104 : zeroOf cx.P 104 = some (.agg [.s (.pointer none), AM.vs .nil 0 []]) := by rfl
@[simp] theorem r22_23 : isRow cx 22 (some 23) = false := by rfl
@[simp] theorem br22_23 {lo : Nat} {st : St} {call : Nat → FuncId → List V → H → Option (V × H)} {ps : List (Nat × Operand)} : opV cx call 22 lo (some 23) st (.buildSlice 90 2 ⟨ps⟩) = (evalP cx st ps).bind fun l => if (l.all fun p => decide (p.1 < 2) && (cellsOf p.2).length == 1 && okv p.2) = true then some (.v (AM.vs .full 1 (elemsV (List.replicate 2 (.s (.string (bs [])))) l)), st) else none := build_row (e := 9) (by rfl) (by rfl) (by rfl) r22_23 (by decide) (by decide) (by rfl)
@[simp] theorem r22_36 : isRow cx 22 (some 36) = false := by rfl
@[simp] theorem br22_36 {lo : Nat} {st : St} {call : Nat → FuncId → List V → H → Option (V × H)} {ps : List (Nat × Operand)} : opV cx call 22 lo (some 36) st (.buildSlice 26 1 ⟨ps⟩) = (evalP cx st ps).bind fun l => if (l.all fun p => decide (p.1 < 1) && (cellsOf p.2).length == 1 && okv p.2) = true then some (.v (AM.vs .full 1 (elemsV (List.replicate 1 (.s (.int .i64 0))) l)), st) else none := build_row (e := 3) (by rfl) (by rfl) (by rfl) r22_36 (by decide) (by decide) (by rfl)
@[simp] theorem es22_11 : escB cx 22 11 = false := by rfl
@[simp] theorem es22_13 : escB cx 22 13 = false := by rfl
@[simp] theorem sh122 : shuts cx 122 = true := by rfl
@[simp] theorem sh123 : shuts cx 123 = true := by rfl
@[simp] theorem sh67 : shuts cx 67 = true := by rfl
@[simp] theorem fa119_3b {b o : Nat} : fieldAddrV cx 119 3 (.v (.ptr b o)) = some (.v (.ptr b (o + 3))) := fieldAddr_ptr (u := 33) (n := 0) (by rfl) (by rfl)
@[simp] theorem fa119_3c {cs : List V} : fieldAddrV cx 119 3 (.v (.vptr cs)) = if 3 ≤ cs.length then some (.v (.vptr (cs.drop 3))) else none := fieldAddr_vptr (u := 33) (n := 0) (by rfl) (by rfl)
theorem T33 : OneT cx 33 := ⟨by rfl, by rfl⟩
@[simp] theorem ld33b {st : St} {b o : Nat} : loadAt cx st 33 (.v (.ptr b o)) = (cellsAt st.h b).bind fun cs => cs[o]? := load1_ptr T33
@[simp] theorem ld33c {st : St} {cs : List V} : loadAt cx st 33 (.v (.vptr cs)) = cs[0]? := load1_vptr T33
@[simp] theorem st33p {lo : Nat} {st : St} {b o : Nat} {v : V} : storeAt cx lo st 33 (.v (.ptr b o)) v = if (cellsOf v).length = 1 ∧ okv v = true ∧ lo ≤ b then (cellsAt st.h b).bind fun cs => (wr cs o (cellsOf v)).map fun cs => { st with h := st.h.set b (.cells cs) } else none := store_ptr (by rfl)
theorem bf124_3 : Region.before ⟨rg Tryz.f124 3⟩ = ⟨[0, 1, 3, 7, 0, 16, 48, 112, 240, 511]⟩ := by decide +kernel
theorem bf124_5 : Region.before ⟨rg Tryz.f124 5⟩ = ⟨[0, 1, 3, 7, 0, 16, 48, 112, 255, 511, 1023, 2047, 4095, 4095, 4095, 8191, 49151, 131071]⟩ := by decide +kernel
@[simp] theorem fa119_2b {b o : Nat} : fieldAddrV cx 119 2 (.v (.ptr b o)) = some (.v (.ptr b (o + 2))) := fieldAddr_ptr (u := 3) (n := 0) (by rfl) (by rfl)
@[simp] theorem fa119_2c {cs : List V} : fieldAddrV cx 119 2 (.v (.vptr cs)) = if 2 ≤ cs.length then some (.v (.vptr (cs.drop 2))) else none := fieldAddr_vptr (u := 3) (n := 0) (by rfl) (by rfl)
@[simp] theorem fa119_0b {b o : Nat} : fieldAddrV cx 119 0 (.v (.ptr b o)) = some (.v (.ptr b (o + 0))) := fieldAddr_ptr (u := 90) (n := 0) (by rfl) (by rfl)
@[simp] theorem fa119_0c {cs : List V} : fieldAddrV cx 119 0 (.v (.vptr cs)) = if 0 ≤ cs.length then some (.v (.vptr (cs.drop 0))) else none := fieldAddr_vptr (u := 90) (n := 0) (by rfl) (by rfl)
theorem T90 : OneT cx 90 := ⟨by rfl, by rfl⟩
@[simp] theorem ld90b {st : St} {b o : Nat} : loadAt cx st 90 (.v (.ptr b o)) = (cellsAt st.h b).bind fun cs => cs[o]? := load1_ptr T90
@[simp] theorem ld90c {st : St} {cs : List V} : loadAt cx st 90 (.v (.vptr cs)) = cs[0]? := load1_vptr T90
@[simp] theorem sh161 : shuts cx 161 = true := by rfl
@[simp] theorem c161_0 : cx.carry 161 0 = ([11, 4], [12, 13, 14, 6, 16, 17, 18, 15, 19, 20, 7, 8, 21, 22, 23, 2, 3, 24, 25, 26, 27, 28], [6]) := by rfl
@[simp] theorem es161_6 : escB cx 161 6 = false := by rfl
@[simp] theorem r161_26 : isRow cx 161 (some 26) = false := by rfl
@[simp] theorem br161_26 {lo : Nat} {st : St} {call : Nat → FuncId → List V → H → Option (V × H)} {ps : List (Nat × Operand)} : opV cx call 161 lo (some 26) st (.buildSlice 26 1 ⟨ps⟩) = (evalP cx st ps).bind fun l => if (l.all fun p => decide (p.1 < 1) && (cellsOf p.2).length == 1 && okv p.2) = true then some (.v (AM.vs .full 1 (elemsV (List.replicate 1 (.s (.int .i64 0))) l)), st) else none := build_row (e := 3) (by rfl) (by rfl) (by rfl) r161_26 (by decide) (by decide) (by rfl)
@[simp] theorem r161_27 : isRow cx 161 (some 27) = false := by rfl
theorem bf69_3 : Region.before ⟨rg Tryz.f69 3⟩ = ⟨[0, 0, 2, 6, 0, 16, 48, 0, 128, 384, 0, 1024, 3072, 0, 8192, 24576, 0, 65536, 196608, 0, 524288, 1572864, 0, 4194304, 12582912, 0, 33554432, 100663296, 0, 268435456, 805306368, 0, 2147483648, 6442450944, 0, 17179869184, 51539607552, 0, 137438953472, 412316860416, 0, 1099511627776, 3298534883328, 0, 8796093022208, 26388279066624, 0, 70368744177664, 211106232532992, 0, 562949953421312, 1688849860263936, 0, 4503599627370496, 13510798882111488, 0, 36028797018963968, 108086391056891904, 288230376151711742, 576460752303423487, 1152921504606846975, 2305843009213693951, 4611686018427387903]⟩ := by decide +kernel
@[simp] theorem fa119_5b {b o : Nat} : fieldAddrV cx 119 5 (.v (.ptr b o)) = some (.v (.ptr b (o + 26))) := fieldAddr_ptr (u := 3) (n := 0) (by rfl) (by rfl)
@[simp] theorem fa119_5c {cs : List V} : fieldAddrV cx 119 5 (.v (.vptr cs)) = if 26 ≤ cs.length then some (.v (.vptr (cs.drop 26))) else none := fieldAddr_vptr (u := 3) (n := 0) (by rfl) (by rfl)
@[simp] theorem bu50 {parts : List (Nat × V)} : buildV cx 50 parts = (fillV (fun i => ([(0, 1), (1, 1), (2, 1), (3, 1), (4, 1), (5, 1), (6, 1), (7, 1), (8, 1), (9, 1), (10, 1), (11, 1), (12, 1), (13, 1), (14, 1), (15, 1), (16, 1), (17, 1), (18, 1)] : List (Nat × Nat))[i]?) (cellsOf (.agg [.s (.int .i64 0), .s (.int .i64 0), .s (.int .i64 0), .s (.int .i64 0), .s (.int .i64 0), .s (.int .i64 0), .s (.int .i64 0), .s (.int .i64 0), .s (.int .i64 0), .s (.int .i64 0), .s (.int .i64 0), .s (.int .i64 0), .s (.int .i64 0), .s (.int .i64 0), .s (.int .i64 0), .s (.int .i64 0), .s (.int .i64 0), .s (.int .i64 0), .s (.int .i64 0)])) parts).map .agg := build_struct (by rfl) (by rfl) (by rfl)
@[simp] theorem fa119_4b {b o : Nat} : fieldAddrV cx 119 4 (.v (.ptr b o)) = some (.v (.ptr b (o + 4))) := fieldAddr_ptr (u := 55) (n := 21) (by rfl) (by rfl)
@[simp] theorem fa119_4c {cs : List V} : fieldAddrV cx 119 4 (.v (.vptr cs)) = if 4 ≤ cs.length then some (.v (.vptr (cs.drop 4))) else none := fieldAddr_vptr (u := 55) (n := 21) (by rfl) (by rfl)
@[simp] theorem st50p {lo : Nat} {st : St} {b o : Nat} {v : V} : storeAt cx lo st 50 (.v (.ptr b o)) v = if (cellsOf v).length = 19 ∧ okv v = true ∧ lo ≤ b then (cellsAt st.h b).bind fun cs => (wr cs o (cellsOf v)).map fun cs => { st with h := st.h.set b (.cells cs) } else none := store_ptr (by rfl)
@[simp] theorem c70_0 : cx.carry 70 0 = ([42], [43, 45, 46, 47, 48, 49, 44, 50, 51, 4, 5, 52, 53, 54, 55, 56, 57, 58, 59, 60, 61, 62, 63, 64], []) := by rfl
@[simp] theorem fa119_6b {b o : Nat} : fieldAddrV cx 119 6 (.v (.ptr b o)) = some (.v (.ptr b (o + 27))) := fieldAddr_ptr (u := 3) (n := 0) (by rfl) (by rfl)
@[simp] theorem fa119_6c {cs : List V} : fieldAddrV cx 119 6 (.v (.vptr cs)) = if 27 ≤ cs.length then some (.v (.vptr (cs.drop 27))) else none := fieldAddr_vptr (u := 3) (n := 0) (by rfl) (by rfl)
@[simp] theorem r70_59 : isRow cx 70 (some 59) = false := by rfl
@[simp] theorem br70_59 {lo : Nat} {st : St} {call : Nat → FuncId → List V → H → Option (V × H)} {ps : List (Nat × Operand)} : opV cx call 70 lo (some 59) st (.buildSlice 51 1 ⟨ps⟩) = (evalP cx st ps).bind fun l => if (l.all fun p => decide (p.1 < 1) && (cellsOf p.2).length == 1 && okv p.2) = true then some (.v (AM.vs .full 1 (elemsV (List.replicate 1 (AM.vs .nil 0 [])) l)), st) else none := build_row (e := 26) (by rfl) (by rfl) (by rfl) r70_59 (by decide) (by decide) (by rfl)
@[simp] theorem ap51 {lo : Nat} {st : St} {tk tk' : Tk} {l l' : List V} (ha : Apd lo st.h tk) (hne : l' ≠ []) (hlen : (l.length + l'.length) * 24 ≤ 70368744177664) : appendV cx lo st false 51 (AM.vs tk 1 l) (AM.vs tk' 1 l') = some (AM.vs (.tip st.h.length) 1 (l ++ l'), { st with h := apH st.h tk }) := append_vs E51 ha hne hlen
@[simp] theorem an51 {lo : Nat} {st : St} {tk' : Tk} {l' : List V} (hne : l' ≠ []) (hlen : l'.length * 24 ≤ 70368744177664) : appendV cx lo st false 51 (AM.vs .nil 0 []) (AM.vs tk' 1 l') = some (AM.vs (.tip st.h.length) 1 l', { st with h := apH st.h .nil }) := append_nil E51 hne hlen
@[simp] theorem aq51 {lo w0 : Nat} {st : St} {tk' : Tk} {l' : List V} (hne : l' ≠ []) (hlen : l'.length * 24 ≤ 70368744177664) : appendV cx lo st true 51 (AM.vs .nil w0 []) (AM.vs tk' 1 l') = some (.msl st.h.length 0 l'.length 1, push st (.cells (l'.flatMap cellsOf))) := append_row0 E51 (.inl rfl) hne hlen
@[simp] theorem pa51 : plainArg cx (some 51) = true := by rfl
@[simp] theorem r70_60 : isRow cx 70 (some 60) = false := by rfl
@[simp] theorem st51p {lo : Nat} {st : St} {b o : Nat} {v : V} : storeAt cx lo st 51 (.v (.ptr b o)) v = if (cellsOf v).length = 1 ∧ okv v = true ∧ lo ≤ b then (cellsAt st.h b).bind fun cs => (wr cs o (cellsOf v)).map fun cs => { st with h := st.h.set b (.cells cs) } else none := store_ptr (by rfl)
@[simp] theorem sh127 : shuts cx 127 = true := by rfl
theorem bf127_1 : Region.before ⟨rg Tryz.f127 1⟩ = ⟨[0, 1, 3, 7, 15, 31, 63, 127, 255, 511, 63, 1087, 3135, 7231, 15423, 32767, 65535]⟩ := by decide +kernel
theorem bf127_3 : Region.before ⟨rg Tryz.f127 3⟩ = ⟨[0, 1, 3, 7, 0, 16, 48, 112, 255, 511, 1023, 2047, 4095, 4095, 4095, 8191, 49151, 131071]⟩ := by decide +kernel
theorem bf71_5 : Region.before ⟨rg Tryz.f71 5⟩ = ⟨[0, 0, 2, 6, 14, 30, 0, 64, 254, 511, 1023, 2047, 4095]⟩ := by decide +kernel
@[simp] theorem c71_0 : cx.carry 71 0 = ([], [13, 14, 15, 17, 18, 16, 19, 20, 2, 3, 22, 23, 21, 24, 25, 4, 5, 26, 27, 28, 29, 30, 31, 32, 33, 34, 35, 36, 37, 38, 39, 40, 41, 42, 43, 44, 45, 46, 47, 48], [4]) := by rfl
@[simp] theorem fa119_7b {b o : Nat} : fieldAddrV cx 119 7 (.v (.ptr b o)) = some (.v (.ptr b (o + 28))) := fieldAddr_ptr (u := 3) (n := 0) (by rfl) (by rfl)
@[simp] theorem fa119_7c {cs : List V} : fieldAddrV cx 119 7 (.v (.vptr cs)) = if 28 ≤ cs.length then some (.v (.vptr (cs.drop 28))) else none := fieldAddr_vptr (u := 3) (n := 0) (by rfl) (by rfl)
@[simp] theorem es71_4 : escB cx 71 4 = false := by rfl
theorem E52 : ElT cx 52 5 56 := ⟨⟨24, by rfl, by rfl, by rfl, _, by rfl, by rfl⟩, by decide, by decide⟩
@[simp] theorem r71_37 : isRow cx 71 (some 37) = false := by rfl
@[simp] theorem br71_37 {lo : Nat} {st : St} {call : Nat → FuncId → List V → H → Option (V × H)} {ps : List (Nat × Operand)} : opV cx call 71 lo (some 37) st (.buildSlice 52 1 ⟨ps⟩) = (evalP cx st ps).bind fun l => if (l.all fun p => decide (p.1 < 1) && (cellsOf p.2).length == 5 && okv p.2) = true then some (.v (AM.vs .full 5 (elemsV (List.replicate 1 (.agg [.s (.int .i64 0), .s (.int .i64 0), .s (.int .i64 0), .s (.int .i64 0), AM.vs .nil 0 []])) l)), st) else none := build_row (e := 24) (by rfl) (by rfl) (by rfl) r71_37 (by decide) (by decide) (by rfl)
@[simp] theorem ap52 {lo : Nat} {st : St} {tk tk' : Tk} {l l' : List V} (ha : Apd lo st.h tk) (hne : l' ≠ []) (hlen : (l.length + l'.length) * 56 ≤ 70368744177664) : appendV cx lo st false 52 (AM.vs tk 5 l) (AM.vs tk' 5 l') = some (AM.vs (.tip st.h.length) 5 (l ++ l'), { st with h := apH st.h tk }) := append_vs E52 ha hne hlen
@[simp] theorem an52 {lo : Nat} {st : St} {tk' : Tk} {l' : List V} (hne : l' ≠ []) (hlen : l'.length * 56 ≤ 70368744177664) : appendV cx lo st false 52 (AM.vs .nil 0 []) (AM.vs tk' 5 l') = some (AM.vs (.tip st.h.length) 5 l', { st with h := apH st.h .nil }) := append_nil E52 hne hlen
@[simp] theorem aq52 {lo w0 : Nat} {st : St} {tk' : Tk} {l' : List V} (hne : l' ≠ []) (hlen : l'.length * 56 ≤ 70368744177664) : appendV cx lo st true 52 (AM.vs .nil w0 []) (AM.vs tk' 5 l') = some (.msl st.h.length 0 l'.length 5, push st (.cells (l'.flatMap cellsOf))) := append_row0 E52 (.inl rfl) hne hlen
@[simp] theorem pa52 : plainArg cx (some 52) = true := by rfl
@[simp] theorem r71_38 : isRow cx 71 (some 38) = false := by rfl
@[simp] theorem st52p {lo : Nat} {st : St} {b o : Nat} {v : V} : storeAt cx lo st 52 (.v (.ptr b o)) v = if (cellsOf v).length = 1 ∧ okv v = true ∧ lo ≤ b then (cellsAt st.h b).bind fun cs => (wr cs o (cellsOf v)).map fun cs => { st with h := st.h.set b (.cells cs) } else none := store_ptr (by rfl)
theorem bf128_3 : Region.before ⟨rg Tryz.f128 3⟩ = ⟨[0, 0, 2, 6, 14, 1, 63]⟩ := by decide +kernel
@[simp] theorem es128_2 : escB cx 128 2 = false := by rfl
@[simp] theorem es128_7 : escB cx 128 7 = false := by rfl
theorem bf72_1 : Region.before ⟨rg Tryz.f72 1⟩ = ⟨[0, 0, 2, 6, 14, 0, 32, 96, 224, 480, 1022, 2047, 4095, 8191]⟩ := by decide +kernel
theorem bf72_4 : Region.before ⟨rg Tryz.f72 4⟩ = ⟨[0, 1, 3, 0, 8, 24, 0, 64, 192, 0, 512, 1536, 0, 4096, 12288, 32767, 0, 131071]⟩ := by decide +kernel
theorem bf72_10 : Region.before ⟨rg Tryz.f72 10⟩ = ⟨[0, 0, 2, 6, 14, 30, 0, 64, 254, 511, 1023, 2047, 4095]⟩ := by decide +kernel
@[simp] theorem c72_0 : cx.carry 72 0 = ([], [7, 8, 9, 10, 11, 12, 13, 14, 15, 16, 17, 18, 19, 20, 21, 22, 24, 25, 23, 26, 27, 2, 3, 28, 29, 30, 31, 32, 33, 34, 35, 36, 37, 38, 39, 40, 41, 42, 43, 44, 45, 4, 46, 47, 48, 50, 51, 49, 52, 53, 5, 6, 54, 55, 56, 57, 58, 59, 60, 61, 62, 63, 64, 65, 66, 67, 68, 69, 70, 71, 72, 73, 74, 75, 76, 77, 78, 79, 80, 81, 82], [4, 5]) := by rfl
@[simp] theorem c72_2 : cx.carry 72 2 = ([], [46, 47, 48, 50, 51, 49, 52, 53, 5, 6, 54, 55, 56, 57, 58, 59, 60, 61, 62, 63, 64, 65, 66, 67, 68, 69, 70], [5]) := by rfl
@[simp] theorem fa119_8b {b o : Nat} : fieldAddrV cx 119 8 (.v (.ptr b o)) = some (.v (.ptr b (o + 29))) := fieldAddr_ptr (u := 26) (n := 0) (by rfl) (by rfl)
@[simp] theorem fa119_8c {cs : List V} : fieldAddrV cx 119 8 (.v (.vptr cs)) = if 29 ≤ cs.length then some (.v (.vptr (cs.drop 29))) else none := fieldAddr_vptr (u := 26) (n := 0) (by rfl) (by rfl)
@[simp] theorem r72_19 : isRow cx 72 (some 19) = false := by rfl
@[simp] theorem br72_19 {lo : Nat} {st : St} {call : Nat → FuncId → List V → H → Option (V × H)} {ps : List (Nat × Operand)} : opV cx call 72 lo (some 19) st (.buildSlice 26 1 ⟨ps⟩) = (evalP cx st ps).bind fun l => if (l.all fun p => decide (p.1 < 1) && (cellsOf p.2).length == 1 && okv p.2) = true then some (.v (AM.vs .full 1 (elemsV (List.replicate 1 (.s (.int .i64 0))) l)), st) else none := build_row (e := 3) (by rfl) (by rfl) (by rfl) r72_19 (by decide) (by decide) (by rfl)
@[simp] theorem r72_20 : isRow cx 72 (some 20) = false := by rfl
@[simp] theorem st26p {lo : Nat} {st : St} {b o : Nat} {v : V} : storeAt cx lo st 26 (.v (.ptr b o)) v = if (cellsOf v).length = 1 ∧ okv v = true ∧ lo ≤ b then (cellsAt st.h b).bind fun cs => (wr cs o (cellsOf v)).map fun cs => { st with h := st.h.set b (.cells cs) } else none := store_ptr (by rfl)
@[simp] theorem bu112 {parts : List (Nat × V)} : buildV cx 112 parts = (fillV (fun i => ([(0, 1), (1, 1), (2, 1), (3, 1), (4, 1), (5, 1)] : List (Nat × Nat))[i]?) (cellsOf (.agg [.s (.int .i64 0), .s (.int .i64 0), .s (.int .i64 0), .s (.int .i64 0), .s (.int .i64 0), AM.vs .nil 0 []])) parts).map .agg := build_struct (by rfl) (by rfl) (by rfl)
@[simp] theorem es72_4 : escB cx 72 4 = false := by rfl
@[simp] theorem es72_5 : escB cx 72 5 = false := by rfl
@[simp] theorem r72_61 : isRow cx 72 (some 61) = false := by rfl
@[simp] theorem br72_61 {lo : Nat} {st : St} {call : Nat → FuncId → List V → H → Option (V × H)} {ps : List (Nat × Operand)} : opV cx call 72 lo (some 61) st (.buildSlice 25 1 ⟨ps⟩) = (evalP cx st ps).bind fun l => if (l.all fun p => decide (p.1 < 1) && (cellsOf p.2).length == 3 && okv p.2) = true then some (.v (AM.vs .full 3 (elemsV (List.replicate 1 (.agg [.s (.int .i64 0), .s (.int .i64 0), .s (.int .i64 0)])) l)), st) else none := build_row (e := 70) (by rfl) (by rfl) (by rfl) r72_61 (by decide) (by decide) (by rfl)
@[simp] theorem r72_62 : isRow cx 72 (some 62) = false := by rfl
theorem E53 : ElT cx 53 6 64 := ⟨⟨112, by rfl, by rfl, by rfl, _, by rfl, by rfl⟩, by decide, by decide⟩
@[simp] theorem r72_78 : isRow cx 72 (some 78) = false := by rfl
@[simp] theorem br72_78 {lo : Nat} {st : St} {call : Nat → FuncId → List V → H → Option (V × H)} {ps : List (Nat × Operand)} : opV cx call 72 lo (some 78) st (.buildSlice 53 1 ⟨ps⟩) = (evalP cx st ps).bind fun l => if (l.all fun p => decide (p.1 < 1) && (cellsOf p.2).length == 6 && okv p.2) = true then some (.v (AM.vs .full 6 (elemsV (List.replicate 1 (.agg [.s (.int .i64 0), .s (.int .i64 0), .s (.int .i64 0), .s (.int .i64 0), .s (.int .i64 0), AM.vs .nil 0 []])) l)), st) else none := build_row (e := 112) (by rfl) (by rfl) (by rfl) r72_78 (by decide) (by decide) (by rfl)
@[simp] theorem ap53 {lo : Nat} {st : St} {tk tk' : Tk} {l l' : List V} (ha : Apd lo st.h tk) (hne : l' ≠ []) (hlen : (l.length + l'.length) * 64 ≤ 70368744177664) : appendV cx lo st false 53 (AM.vs tk 6 l) (AM.vs tk' 6 l') = some (AM.vs (.tip st.h.length) 6 (l ++ l'), { st with h := apH st.h tk }) := append_vs E53 ha hne hlen
@[simp] theorem an53 {lo : Nat} {st : St} {tk' : Tk} {l' : List V} (hne : l' ≠ []) (hlen : l'.length * 64 ≤ 70368744177664) : appendV cx lo st false 53 (AM.vs .nil 0 []) (AM.vs tk' 6 l') = some (AM.vs (.tip st.h.length) 6 l', { st with h := apH st.h .nil }) := append_nil E53 hne hlen
@[simp] theorem aq53 {lo w0 : Nat} {st : St} {tk' : Tk} {l' : List V} (hne : l' ≠ []) (hlen : l'.length * 64 ≤ 70368744177664) : appendV cx lo st true 53 (AM.vs .nil w0 []) (AM.vs tk' 6 l') = some (.msl st.h.length 0 l'.length 6, push st (.cells (l'.flatMap cellsOf))) := append_row0 E53 (.inl rfl) hne hlen
@[simp] theorem pa53 : plainArg cx (some 53) = true := by rfl
@[simp] theorem r72_79 : isRow cx 72 (some 79) = false := by rfl
@[simp] theorem st53p {lo : Nat} {st : St} {b o : Nat} {v : V} : storeAt cx lo st 53 (.v (.ptr b o)) v = if (cellsOf v).length = 1 ∧ okv v = true ∧ lo ≤ b then (cellsAt st.h b).bind fun cs => (wr cs o (cellsOf v)).map fun cs => { st with h := st.h.set b (.cells cs) } else none := store_ptr (by rfl)
theorem bf73_3 : Region.before ⟨rg Tryz.f73 3⟩ = ⟨[0, 1, 3, 7, 0, 16, 48, 112, 240, 511]⟩ := by decide +kernel
@[simp] theorem sh24 : shuts cx 24 = true := by rfl
theorem bf24_17 : Region.before ⟨rg Tryz.f24 17⟩ = ⟨[0, 0, 2, 6, 14, 0, 32, 96, 224, 510, 1022, 0, 2048, 6144, 14336, 1, 34815, 131071]⟩ := by decide +kernel
@[simp] theorem c24_0 : cx.carry 24 0 = ([30, 6], [31, 32, 33, 10, 34, 35, 36, 37, 38, 39, 40, 41, 42, 43, 44, 45, 46, 47, 48, 49], []) := by rfl
@[simp] theorem c24_2 : cx.carry 24 2 = ([52], [53, 54, 55, 12, 56, 57, 58, 59], []) := by rfl
@[simp] theorem es24_2 : escB cx 24 2 = false := by rfl
@[simp] theorem r24_25 : isRow cx 24 (some 25) = false := by rfl
@[simp] theorem br24_25 {lo : Nat} {st : St} {call : Nat → FuncId → List V → H → Option (V × H)} {ps : List (Nat × Operand)} : opV cx call 24 lo (some 25) st (.buildSlice 26 1 ⟨ps⟩) = (evalP cx st ps).bind fun l => if (l.all fun p => decide (p.1 < 1) && (cellsOf p.2).length == 1 && okv p.2) = true then some (.v (AM.vs .full 1 (elemsV (List.replicate 1 (.s (.int .i64 0))) l)), st) else none := build_row (e := 3) (by rfl) (by rfl) (by rfl) r24_25 (by decide) (by decide) (by rfl)
@[simp] theorem bu119 {parts : List (Nat × V)} : buildV cx 119 parts = (fillV (fun i => ([(0, 1), (1, 1), (2, 1), (3, 1), (4, 22), (26, 1), (27, 1), (28, 1), (29, 1)] : List (Nat × Nat))[i]?) (cellsOf (.agg [AM.vs .nil 0 [], AM.vs .nil 0 [], .s (.int .i64 0), .s (.int .i64 0), .s (.int .i64 0), .s (.int .i64 0), .s (.int .i64 0), .s (.int .i64 0), .s (.int .i64 0), .s (.int .i64 0), .s (.int .i64 0), .s (.int .i64 0), .s (.int .i64 0), .s (.int .i64 0), .s (.int .i64 0), .s (.int .i64 0), .s (.int .i64 0), .s (.int .i64 0), .s (.int .i64 0), .s (.int .i64 0), .s (.int .i64 0), .s (.int .i64 0), .s (.int .i64 0), AM.vs .nil 0 [], AM.vs .nil 0 [], AM.vs .nil 0 [], .s (.int .i64 0), .s (.int .i64 0), .s (.int .i64 0), AM.vs .nil 0 []])) parts).map .agg := build_struct (by rfl) (by rfl) (by rfl)
@[simp] theorem es24_27 : escB cx 24 27 = true := by rfl
@[simp] theorem fa119_1b {b o : Nat} : fieldAddrV cx 119 1 (.v (.ptr b o)) = some (.v (.ptr b (o + 1))) := fieldAddr_ptr (u := 26) (n := 0) (by rfl) (by rfl)
@[simp] theorem fa119_1c {cs : List V} : fieldAddrV cx 119 1 (.v (.vptr cs)) = if 1 ≤ cs.length then some (.v (.vptr (cs.drop 1))) else none := fieldAddr_vptr (u := 26) (n := 0) (by rfl) (by rfl)
@[simp] theorem r24_45 : isRow cx 24 (some 45) = false := by rfl
@[simp] theorem br24_45 {lo : Nat} {st : St} {call : Nat → FuncId → List V → H → Option (V × H)} {ps : List (Nat × Operand)} : opV cx call 24 lo (some 45) st (.buildSlice 26 1 ⟨ps⟩) = (evalP cx st ps).bind fun l => if (l.all fun p => decide (p.1 < 1) && (cellsOf p.2).length == 1 && okv p.2) = true then some (.v (AM.vs .full 1 (elemsV (List.replicate 1 (.s (.int .i64 0))) l)), st) else none := build_row (e := 3) (by rfl) (by rfl) (by rfl) r24_45 (by decide) (by decide) (by rfl)
@[simp] theorem r24_46 : isRow cx 24 (some 46) = false := by rfl
@[simp] theorem r24_50 : isRow cx 24 (some 50) = false := by rfl
@[simp] theorem br24_50 {lo : Nat} {st : St} {call : Nat → FuncId → List V → H → Option (V × H)} {ps : List (Nat × Operand)} : opV cx call 24 lo (some 50) st (.buildSlice 121 7 ⟨ps⟩) = (evalP cx st ps).bind fun l => if (l.all fun p => decide (p.1 < 7) && (cellsOf p.2).length == 1 && okv p.2) = true then some (.v (AM.vs .full 1 (elemsV (List.replicate 7 (.s .nilFunc)) l)), st) else none := build_row (e := 120) (by rfl) (by rfl) (by rfl) r24_50 (by decide) (by decide) (by rfl)
@[simp] theorem len121 {tk : Tk} {w : Nat} {l : List V} {h : H} : lenV cx 121 h (AM.vs tk w l) = some (.i l.length) := len_vs (e := 120) (by rfl)
@[simp] theorem lenm121 {b o n w : Nat} {h : H} : lenV cx 121 h (.msl b o n w) = some (.i n) := len_msl (e := 120) (by rfl)
@[simp] theorem ia121 {tk : Tk} {l : List V} {k : IntKind} {i : Int} (h0 : 0 ≤ i) (h1 : i < l.length) : indexAddrV cx 121 (.v (AM.vs tk 1 l)) (.s (.int k i)) = some (.v (.vptr (cellsOf (l[i.toNat]'(by omega))))) := indexAddr_i (e := 120) (by rfl) (by rfl) h0 h1
@[simp] theorem im121 {b o n : Nat} {k : IntKind} {i : Int} (h0 : 0 ≤ i) (h1 : i < n) : indexAddrV cx 121 (.v (.msl b o n 1)) (.s (.int k i)) = some (.v (.ptr b (o + i.toNat * 1))) := indexAddr_msl (e := 120) (by rfl) (by rfl) h0 h1
theorem T120 : OneT cx 120 := ⟨by rfl, by rfl⟩
@[simp] theorem ld120a {st : St} {b o : Nat} : loadAt cx st 120 (.lp b o) = (getB st.lb b).bind fun cs => cs[o]? := load1_lp T120
@[simp] theorem ld120b {st : St} {b o : Nat} : loadAt cx st 120 (.v (.ptr b o)) = (cellsAt st.h b).bind fun cs => cs[o]? := load1_ptr T120
@[simp] theorem ld120c {st : St} {cs : List V} : loadAt cx st 120 (.v (.vptr cs)) = cs[0]? := load1_vptr T120
@[simp] theorem zo50 : zeroOf cx.P 50 = some (.agg [.s (.int .i64 0), .s (.int .i64 0), .s (.int .i64 0), .s (.int .i64 0), .s (.int .i64 0), .s (.int .i64 0), .s (.int .i64 0), .s (.int .i64 0), .s (.int .i64 0), .s (.int .i64 0), .s (.int .i64 0), .s (.int .i64 0), .s (.int .i64 0), .s (.int .i64 0), .s (.int .i64 0), .s (.int .i64 0), .s (.int .i64 0), .s (.int .i64 0), .s (.int .i64 0)]) := by rfl
@[simp] theorem eq50 {x0 x1 x2 x3 x4 x5 x6 x7 x8 x9 x10 x11 x12 x13 x14 x15 x16 x17 x18 y0 y1 y2 y3 y4 y5 y6 y7 y8 y9 y10 y11 y12 y13 y14 y15 y16 y17 y18 : Int} : binOpV cx .eql 50 (.agg [.i x0, .i x1, .i x2, .i x3, .i x4, .i x5, .i x6, .i x7, .i x8, .i x9, .i x10, .i x11, .i x12, .i x13, .i x14, .i x15, .i x16, .i x17, .i x18]) (.agg [.i y0, .i y1, .i y2, .i y3, .i y4, .i y5, .i y6, .i y7, .i y8, .i y9, .i y10, .i y11, .i y12, .i y13, .i y14, .i y15, .i y16, .i y17, .i y18]) = some (.b (decide ([x0, x1, x2, x3, x4, x5, x6, x7, x8, x9, x10, x11, x12, x13, x14, x15, x16, x17, x18] = [y0, y1, y2, y3, y4, y5, y6, y7, y8, y9, y10, y11, y12, y13, y14, y15, y16, y17, y18]))) := eq_ints (fs := _) (xs := [x0, x1, x2, x3, x4, x5, x6, x7, x8, x9, x10, x11, x12, x13, x14, x15, x16, x17, x18]) (ys := [y0, y1, y2, y3, y4, y5, y6, y7, y8, y9, y10, y11, y12, y13, y14, y15, y16, y17, y18]) (by rfl) (by rfl) deep (by rfl) (by rfl) (by rfl)
@[simp] theorem ne50 {x0 x1 x2 x3 x4 x5 x6 x7 x8 x9 x10 x11 x12 x13 x14 x15 x16 x17 x18 y0 y1 y2 y3 y4 y5 y6 y7 y8 y9 y10 y11 y12 y13 y14 y15 y16 y17 y18 : Int} : binOpV cx .neq 50 (.agg [.i x0, .i x1, .i x2, .i x3, .i x4, .i x5, .i x6, .i x7, .i x8, .i x9, .i x10, .i x11, .i x12, .i x13, .i x14, .i x15, .i x16, .i x17, .i x18]) (.agg [.i y0, .i y1, .i y2, .i y3, .i y4, .i y5, .i y6, .i y7, .i y8, .i y9, .i y10, .i y11, .i y12, .i y13, .i y14, .i y15, .i y16, .i y17, .i y18]) = some (.b (!decide ([x0, x1, x2, x3, x4, x5, x6, x7, x8, x9, x10, x11, x12, x13, x14, x15, x16, x17, x18] = [y0, y1, y2, y3, y4, y5, y6, y7, y8, y9, y10, y11, y12, y13, y14, y15, y16, y17, y18]))) := ne_ints (fs := _) (xs := [x0, x1, x2, x3, x4, x5, x6, x7, x8, x9, x10, x11, x12, x13, x14, x15, x16, x17, x18]) (ys := [y0, y1, y2, y3, y4, y5, y6, y7, y8, y9, y10, y11, y12, y13, y14, y15, y16, y17, y18]) (by rfl) (by rfl) deep (by rfl) (by rfl) (by rfl)
@[simp] theorem sh7 : shuts cx 7 = true := by rfl
@[simp] theorem es7_2 : escB cx 7 2 = false := by rfl
@[simp] theorem es7_7 : escB cx 7 7 = false := by rfl
@[simp] theorem sh31 : shuts cx 31 = true := by rfl
theorem bf31_6 : Region.before ⟨rg Tryz.f31 6⟩ = ⟨[0, 1, 0, 7, 15, 0, 32, 0, 224, 480, 1023]⟩ := by decide +kernel
@[simp] theorem c31_0 : cx.carry 31 0 = ([44], [45, 46, 5, 47, 48, 49, 50, 51, 52, 53, 54, 55, 56, 57, 4, 58], []) := by rfl
@[simp] theorem es31_2 : escB cx 31 2 = false := by rfl
@[simp] theorem es31_3 : escB cx 31 3 = false := by rfl
@[simp] theorem sh86 : shuts cx 86 = true := by rfl
theorem bf86_6 : Region.before ⟨rg Tryz.f86 6⟩ = ⟨[0, 0, 3, 7, 0, 0, 48, 112, 255]⟩ := by decide +kernel
@[simp] theorem c86_0 : cx.carry 86 0 = ([13], [14, 15, 5, 16, 17, 18, 19, 20, 21, 22, 23, 24, 4, 25], []) := by rfl
@[simp] theorem sh85 : shuts cx 85 = true := by rfl
@[simp] theorem sh87 : shuts cx 87 = true := by rfl
@[simp] theorem c87_0 : cx.carry 87 0 = ([17], [18, 19, 20, 21, 7, 8, 22, 23, 24, 25, 9, 26, 27, 28, 29, 30, 6, 31], []) := by rfl
@[simp] theorem sh88 : shuts cx 88 = true := by rfl
@[simp] theorem c88_0 : cx.carry 88 0 = ([17], [18, 19, 20, 21, 8, 7, 22, 23, 24, 25, 9, 26, 27, 28, 29, 30, 6, 31], [8, 9]) := by rfl
@[simp] theorem es88_8 : escB cx 88 8 = false := by rfl
@[simp] theorem es88_9 : escB cx 88 9 = false := by rfl
@[simp] theorem sh89 : shuts cx 89 = true := by rfl
@[simp] theorem c89_0 : cx.carry 89 0 = ([17], [18, 19, 20, 21, 8, 7, 22, 23, 24, 25, 9, 26, 27, 28, 29, 30, 6, 31], [8, 9]) := by rfl
@[simp] theorem es89_8 : escB cx 89 8 = false := by rfl
@[simp] theorem es89_9 : escB cx 89 9 = false := by rfl
@[simp] theorem sh90 : shuts cx 90 = true := by rfl
theorem bf90_6 : Region.before ⟨rg Tryz.f90 6⟩ = ⟨[0, 0, 2, 0, 14, 30, 63]⟩ := by decide +kernel
@[simp] theorem c90_0 : cx.carry 90 0 = ([52], [53, 54, 55, 56, 6, 5, 57, 58, 59, 60, 61, 62, 63, 4, 64], [6]) := by rfl
@[simp] theorem es90_2 : escB cx 90 2 = false := by rfl
@[simp] theorem es90_3 : escB cx 90 3 = false := by rfl
@[simp] theorem es90_6 : escB cx 90 6 = false := by rfl
@[simp] theorem sh28 : shuts cx 28 = true := by rfl
@[simp] theorem es28_2 : escB cx 28 2 = false := by rfl
@[simp] theorem es28_3 : escB cx 28 3 = false := by rfl
@[simp] theorem sh8 : shuts cx 8 = true := by rfl
@[simp] theorem c8_0 : cx.carry 8 0 = ([61], [62, 63, 64, 12, 66, 67, 68, 65, 69, 70, 13, 14, 71, 72, 73, 74, 75, 76, 77, 78, 2, 79], [12, 13]) := by rfl
@[simp] theorem es8_1 : escB cx 8 1 = false := by rfl
@[simp] theorem es8_8 : escB cx 8 8 = false := by rfl
@[simp] theorem es8_12 : escB cx 8 12 = false := by rfl
@[simp] theorem es8_13 : escB cx 8 13 = false := by rfl
@[simp] theorem sh159 : shuts cx 159 = true := by rfl
@[simp] theorem sh184 : shuts cx 184 = true := by rfl
end ZD

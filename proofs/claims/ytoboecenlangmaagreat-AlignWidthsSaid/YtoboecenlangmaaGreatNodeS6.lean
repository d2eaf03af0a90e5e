import Derived.Test.YtoboecenlangmaaGreatNodeS5
import Derived.Test.YtoboecenlangmaaGreatNodeTb
/- Contracts of the document's Totals. Conditions: those that each theorem names. -/
namespace Go.Proofs.YtoboecenlangmaaGreat.No
open Go.ChangeShapes Go.WideShapes Go.ChangeAt Go.RowKit
open Me Np
set_option linter.unusedVariables false
set_option linter.unusedSimpArgs false

set_option maxHeartbeats 1000000 in
set_option maxRecDepth 100000 in
theorem rtotals_bad (A : Option Addr) (ns : List Nd) (c : Nat) (down : Bool) (w : World) (hl : ns.length ≤ 9223372036854775806) (hseg : Seg w w.heap.size A (ns.flatMap ncs)) (hc : ¬ chk ns = 0) :
    Calls Tryz.prog 50 #[.slice A ns.length c, .bool down] w fun e w' => e = .returned (.tuple #[.agg (tc tz), .int .i64 (chk ns)]) ∧ Below w.heap.size w w' := by
  have HC := Lib.hid fun w1 (h : Below w.heap.size w w1) => rcheckl_any A ns c w1 (by omega) (Seg.belowW hseg h)
  have e0 : (chk ns != 0) = true := by simp [hc]
  clear hseg hc
  generalize chk ns = v at *
  generalize ns.length = len at *
  go_enter Tryz.func50, Tryz.ntmps50
  go_wp2_with fail
  refine (HC.out _ (andAlloc (Below.refl _ _) _)).mono ?_
  rintro e w1 ⟨rfl, hb1⟩
  have hr1 : Blk w1 w.heap.size 109 (tc tz) := Blk.below (Blk.new' rfl) hb1 (by simp)
  have HL1 := Lib.hid (andThen (andAlloc (Below.refl _ _) _) hb1 : Below w.heap.size w w1)
  clear hb1
  go_wp2_with (first | (refine wpList_store_row (o := ⟨none, .store _ (.tmp 4) _, _, _, _, _⟩) rfl 109 _ _ rfl w.heap.size (tc tz) rfl rfl 109 (tc tz) hr1 tot_info rfl (tc_one _) ?_))
  exact bodyPost_ret (v := .tuple #[.agg (tc tz), .int .i64 v]) (results_cell_tmp rfl _ _ w.heap.size 109 (tc tz) (0, 0) _ _ rfl rfl (Blk.row hr1 _) Tryz.underlying109 rfl tot_info) rfl ⟨rfl, below_setRow HL1.out _ _ (Nat.le_refl _)⟩
set_option maxHeartbeats 1000000 in
set_option maxRecDepth 100000 in
theorem rtotals_off (A : Option Addr) (ns : List Nd) (c : Nat) (down : Bool) (T : Tot) (w : World) (hc : chk ns = 0) (hseg : Seg w w.heap.size A (ns.flatMap ncs)) (h4 : T.st.length = 4) (h5 : T.sh.length = 4) (hd : dimB T.nat = false)
    (hsum : ∀ w1, Below w.heap.size w w1 → Calls Tryz.prog 94 #[.slice A ns.length c, .bool down] w1 fun e w' => e = .returned (.agg (tc T)) ∧ Below w1.heap.size w1 w') :
    Calls Tryz.prog 50 #[.slice A ns.length c, .bool down] w fun e w' => e = .returned (.tuple #[.agg (tc tz), .int .i64 20]) ∧ Below w.heap.size w w' := by
  have hl := (chk_run hc).1
  have HC := Lib.hid fun w1 (h : Below w.heap.size w w1) => rcheckl_any A ns c w1 (by omega) (Seg.belowW hseg h)
  have HS := Lib.hid hsum
  have HD := Lib.hid hd
  rw [hc] at HC
  have hn0 := tc_nat T
  have hsz := tc_size h4 h5
  have HSZ := Lib.hid hsz
  have htw : (Tryz.prog.info? 109).map (·.size) = some (tc T).size := by rw [hsz]; exact tot_info
  have HTW := Lib.hid htw
  clear hseg hc hsum hd hsz htw h4 h5
  generalize ns.length = len at *
  go_enter Tryz.func50, Tryz.ntmps50
  go_wp2_with fail
  refine (HC.out _ (andAlloc (Below.refl _ _) _)).mono ?_
  rintro e w1 ⟨rfl, hb1⟩
  have hr1 : Blk w1 w.heap.size 109 (tc tz) := Blk.below (Blk.new' rfl) hb1 (by simp)
  have hl1 : Below w.heap.size w w1 := andThen (andAlloc (Below.refl _ _) _) hb1
  clear hb1
  go_wp2_with fail
  refine (HS.out _ hl1).mono ?_
  rintro e w2 ⟨rfl, hb2⟩
  have hr2 : Blk w2 w.heap.size 109 (tc tz) := hr1.below hb2 hr1.lt
  have HL2 := Lib.hid (andThen hl1 hb2)
  clear hr1 hl1 hb2
  go_wp2_with (first | (refine wpList_store_row (o := ⟨none, .store _ (.tmp 7) _, _, _, _, _⟩) rfl 109 _ _ rfl w2.heap.size (tc T) rfl rfl 109 (tc tz) (Blk.new' rfl) HTW.out (by rw [HSZ.out]; rfl) (tc_one _) ?_) | (go_at_call 95; fail))
  have hr3 := hr2.alloc (.cells (tc T) 109)
  have hr4 : Blk (w2.alloc (.cells (tc T) 109)) w2.heap.size 109 (tc T) := Blk.new' rfl
  refine (rdimen_any T.nat _).mono ?_
  rintro e w' ⟨rfl, rfl⟩
  rw [HD.out]
  have HLW := Lib.hid (andAlloc HL2.out (.cells (tc T) 109))
  clear hr2 hn0
  go_wp2_with (first | (refine wpList_store_row (o := ⟨none, .store _ (.tmp 4) _, _, _, _, _⟩) rfl 109 _ _ rfl w.heap.size (tc tz) rfl rfl 109 (tc tz) hr3 tot_info rfl (tc_one _) ?_))
  exact bodyPost_ret (v := .tuple #[.agg (tc tz), .int .i64 20]) (results_cell_tmp rfl _ _ w.heap.size 109 (tc tz) (0, 0) _ _ rfl rfl (Blk.row hr3 _) Tryz.underlying109 rfl tot_info) rfl ⟨rfl, below_setRow HLW.out _ _ (Nat.le_refl _)⟩
set_option maxHeartbeats 1000000 in
set_option maxRecDepth 100000 in
theorem rtotals_ok (A : Option Addr) (ns : List Nd) (c : Nat) (down : Bool) (T : Tot) (w : World) (hc : chk ns = 0) (hseg : Seg w w.heap.size A (ns.flatMap ncs)) (h4 : T.st.length = 4) (h5 : T.sh.length = 4) (hd : dimB T.nat = true)
    (hsum : ∀ w1, Below w.heap.size w w1 → Calls Tryz.prog 94 #[.slice A ns.length c, .bool down] w1 fun e w' => e = .returned (.agg (tc T)) ∧ Below w1.heap.size w1 w') :
    Calls Tryz.prog 50 #[.slice A ns.length c, .bool down] w fun e w' => e = .returned (.tuple #[.agg (tc T), .int .i64 0]) ∧ Below w.heap.size w w' := by
  have hl := (chk_run hc).1
  have HC := Lib.hid fun w1 (h : Below w.heap.size w w1) => rcheckl_any A ns c w1 (by omega) (Seg.belowW hseg h)
  have HS := Lib.hid hsum
  have HD := Lib.hid hd
  rw [hc] at HC
  have hn0 := tc_nat T
  have hsz := tc_size h4 h5
  have HSZ := Lib.hid hsz
  have htw : (Tryz.prog.info? 109).map (·.size) = some (tc T).size := by rw [hsz]; exact tot_info
  have HTW := Lib.hid htw
  clear hseg hc hsum hd hsz htw h4 h5
  generalize ns.length = len at *
  go_enter Tryz.func50, Tryz.ntmps50
  go_wp2_with fail
  refine (HC.out _ (andAlloc (Below.refl _ _) _)).mono ?_
  rintro e w1 ⟨rfl, hb1⟩
  have hr1 : Blk w1 w.heap.size 109 (tc tz) := Blk.below (Blk.new' rfl) hb1 (by simp)
  have hl1 : Below w.heap.size w w1 := andThen (andAlloc (Below.refl _ _) _) hb1
  clear hb1
  go_wp2_with fail
  refine (HS.out _ hl1).mono ?_
  rintro e w2 ⟨rfl, hb2⟩
  have hr2 : Blk w2 w.heap.size 109 (tc tz) := hr1.below hb2 hr1.lt
  have HL2 := Lib.hid (andThen hl1 hb2)
  clear hr1 hl1 hb2
  go_wp2_with (first | (refine wpList_store_row (o := ⟨none, .store _ (.tmp 7) _, _, _, _, _⟩) rfl 109 _ _ rfl w2.heap.size (tc T) rfl rfl 109 (tc tz) (Blk.new' rfl) HTW.out (by rw [HSZ.out]; rfl) (tc_one _) ?_) | (go_at_call 95; fail))
  have hr3 := hr2.alloc (.cells (tc T) 109)
  have hr4 : Blk (w2.alloc (.cells (tc T) 109)) w2.heap.size 109 (tc T) := Blk.new' rfl
  refine (rdimen_any T.nat _).mono ?_
  rintro e w' ⟨rfl, rfl⟩
  rw [HD.out]
  have HLW := Lib.hid (andAlloc HL2.out (.cells (tc T) 109))
  clear hr2 hn0
  go_wp2_with (first | (refine wpList_load_row (o := ⟨some 22, _, _, _, _, _⟩) rfl 109 _ rfl w2.heap.size rfl 109 (tc T) (0, 0) _ hr4 Tryz.underlying109 rfl HTW.out ?_) | (refine wpList_store_row (o := ⟨none, .store _ (.tmp 4) _, _, _, _, _⟩) rfl 109 _ _ rfl w.heap.size (tc T) rfl rfl 109 (tc tz) hr3 HTW.out (by rw [HSZ.out]; rfl) (tc_one _) ?_))
  exact bodyPost_ret (v := .tuple #[.agg (tc T), .int .i64 0]) (results_cell_tmp rfl _ _ w.heap.size 109 (tc T) (0, 0) _ _ rfl rfl (Blk.row hr3 _) Tryz.underlying109 rfl HTW.out) rfl ⟨rfl, below_setRow HLW.out _ _ (Nat.le_refl _)⟩
theorem rtotals_good (A : Option Addr) (ns : List Nd) (c : Nat) (xs : List Nat) (down : Bool) (w : World) (hc : chk ns = 0) (hcap : ns.length ≤ c) (hseg : Seg w w.heap.size A (ns.flatMap ncs)) (hx : Its xs ns 0) :
    Calls Tryz.prog 50 #[.slice A ns.length c, .bool down] w fun e w' => e = .returned (.tuple #[.agg (tc (totR ns down xs)), .int .i64 (if dimB (totD ns down xs).nat = true then 0 else 20)]) ∧ Below w.heap.size w w' := by
  unfold totR
  have h4 := totD_len ns down xs
  cases h : dimB (totD ns down xs).nat
  · simpa using rtotals_off A ns c down _ w hc hseg h4.1 h4.2 h fun w1 hb => rsum_any A ns c xs down w1 hc hcap (Seg.belowW hseg hb) hx
  · simpa using rtotals_ok A ns c down _ w hc hseg h4.1 h4.2 h fun w1 hb => rsum_any A ns c xs down w1 hc hcap (Seg.belowW hseg hb) hx
end Go.Proofs.YtoboecenlangmaaGreat.No

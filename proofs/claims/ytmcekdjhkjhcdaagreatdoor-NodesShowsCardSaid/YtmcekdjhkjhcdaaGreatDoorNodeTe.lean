import Derived.Test.YtmcekdjhkjhcdaaGreatDoorNodeAl
/- Totals that are too great. Conditions: those that each theorem names. -/
namespace Go.Proofs.YtmcekdjhkjhcdaaGreatDoor.No
open Go.ChangeShapes Go.WideShapes Go.ChangeAt Go.RowKit
open Me Np
set_option linter.unusedVariables false
set_option linter.unusedSimpArgs false
set_option maxHeartbeats 1000000 in
set_option maxRecDepth 100000 in
theorem totals_off (A : Option Addr) (ns : List Nd) (c : Nat) (down : Bool) (T : Tot) (w : World) (hl : ns.length ≤ 9223372036854775806) (hseg : Seg w w.heap.size A (ns.flatMap ncs)) (hc : chk ns = 0) (h4 : T.st.length = 4) (h5 : T.sh.length = 4) (hd : dimB T.nat = false)
    (hsum : ∀ w1, Below w.heap.size w w1 → Calls Tryz.prog 35 #[.slice A ns.length c, .bool down] w1 fun e w' => e = .returned (.agg (tc T)) ∧ Below w1.heap.size w1 w') :
    Calls Tryz.prog 17 #[.slice A ns.length c, .bool down] w fun e w' => e = .returned (.tuple #[.agg (tc tz), .int .i64 20]) ∧ Below w.heap.size w w' := by
  have HC := Lib.hid fun w1 (h : Below w.heap.size w w1) => check_any A ns c w1 (by omega) (Seg.belowW hseg h)
  have HE := Lib.hid hc
  have HS := Lib.hid hsum
  have HD := Lib.hid hd
  have hn0 := tc_nat T
  have hsz := tc_size h4 h5
  have HSZ := Lib.hid hsz
  have htw : (Tryz.prog.info? 52).map (·.size) = some (tc T).size := by rw [hsz]; exact tot_info
  have HTW := Lib.hid htw
  clear hseg hc hsum hd hsz htw
  rw [HE.out] at HC
  generalize ns.length = len at *
  go_enter Tryz.func17, Tryz.ntmps17
  go_wp2_with fail
  refine (HC.out _ (andAlloc (Below.refl _ _) _)).mono ?_
  rintro e w1 ⟨rfl, hb1⟩
  have hr1 : Blk w1 w.heap.size 52 (tc tz) := Blk.below (Blk.new' rfl) hb1 (by simp)
  have hl1 : Below w.heap.size w w1 := andThen (andAlloc (Below.refl _ _) _) hb1
  clear hb1
  go_wp2_with fail
  refine (HS.out _ hl1).mono ?_
  rintro e w2 ⟨rfl, hb2⟩
  have hr2 : Blk w2 w.heap.size 52 (tc tz) := hr1.below hb2 hr1.lt
  have hl2 : Below w.heap.size w w2 := andThen hl1 hb2
  have hz2 := hr2.lt
  clear hr1 hl1 hb2
  have hr3 := hr2.alloc (.cells (tc T) 52)
  go_wp2_with (first | (refine wpList_store_row (o := ⟨none, .store _ (.tmp 7) _, _, _, _, _⟩) rfl 52 _ _ rfl w2.heap.size (tc T) rfl rfl 52 (tc tz) (Blk.new' rfl) HTW.out (by rw [HSZ.out]; rfl) (tc_one _) ?_) | (go_at_call 36; fail))
  have hk : Blk ((w2.alloc (.cells (tc T) 52)).alloc (.cells #[.int .i64 T.nat] 3)) w2.heap.size 52 (tc T) := Blk.alloc (Blk.new' rfl) _
  have hr4 : Blk ((w2.alloc (.cells (tc T) 52)).alloc (.cells #[.int .i64 T.nat] 3)) w.heap.size 52 (tc tz) := hr3.alloc _
  refine (dimen1 _ T.nat _ ((Blk.new' (by simp)).cell 0)).mono ?_
  rintro e w' ⟨rfl, rfl⟩
  rw [HD.out]
  generalize hW : (w2.alloc (.cells (tc T) 52)).alloc (.cells #[.int .i64 T.nat] 3) = W at hk hr4 ⊢
  have HWB := Lib.hid (by rw [← hW]; exact andAlloc (andAlloc hl2 _) _ : Below w.heap.size w W)
  clear hW hr2 hr3 hl2 hz2 hn0
  go_wp2_with (first
    | (refine wpList_store_row (o := ⟨none, .store _ (.tmp 4) _, _, _, _, _⟩) rfl 52 _ _ rfl w.heap.size (tc tz) rfl rfl 52 (tc tz) hr4 tot_info rfl (tc_one _) ?_))
  exact bodyPost_ret (v := .tuple #[.agg (tc tz), .int .i64 20]) (results_cell_tmp rfl _ _ w.heap.size 52 (tc tz) (0, 0) _ _ rfl rfl (Blk.row hr4 _) Tryz.underlying52 rfl tot_info) rfl ⟨rfl, below_setRow HWB.out _ _ (Nat.le_refl _)⟩
theorem totals_err (A : Option Addr) (ns : List Nd) (c : Nat) (xs : List Nat) (down : Bool) (w : World) (hc : chk ns = 0) (hcap : ns.length ≤ c) (hseg : Seg w w.heap.size A (ns.flatMap ncs)) (hx : Its xs ns 0) (hd : dimB (totD ns down xs).nat = false) :
    Calls Tryz.prog 17 #[.slice A ns.length c, .bool down] w fun e w' => e = .returned (.tuple #[.agg (tc tz), .int .i64 20]) ∧ Below w.heap.size w w' :=
  totals_off A ns c down _ w (by have := (chk_run hc).1; omega) hseg hc (totD_len ns down xs).1 (totD_len ns down xs).2 hd fun w1 hb1 => sum_any A ns c xs down w1 hc hcap (Seg.belowW hseg hb1) hx
/-- Totals, whatever they come to. -/
noncomputable def totR (ns : List Nd) (down : Bool) (xs : List Nat) : Tot := if dimB (totD ns down xs).nat = true then totD ns down xs else tz
theorem totals_any (A : Option Addr) (ns : List Nd) (c : Nat) (xs : List Nat) (down : Bool) (w : World) (hc : chk ns = 0) (hcap : ns.length ≤ c) (hseg : Seg w w.heap.size A (ns.flatMap ncs)) (hx : Its xs ns 0) :
    Calls Tryz.prog 17 #[.slice A ns.length c, .bool down] w fun e w' => e = .returned (.tuple #[.agg (tc (totR ns down xs)), .int .i64 (if dimB (totD ns down xs).nat = true then 0 else 20)]) ∧ Below w.heap.size w w' := by
  unfold totR
  cases h : dimB (totD ns down xs).nat
  · simpa using totals_err A ns c xs down w hc hcap hseg hx h
  · simpa using totals_ok A ns c xs down w hc hcap hseg hx h
theorem totR_len (ns : List Nd) (down : Bool) (xs : List Nat) : (totR ns down xs).st.length = 4 ∧ (totR ns down xs).sh.length = 4 := by
  unfold totR
  split
  · exact totD_len _ _ _
  · exact ⟨rfl, rfl⟩
end Go.Proofs.YtmcekdjhkjhcdaaGreatDoor.No

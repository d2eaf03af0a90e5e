import Derived.Test.YtmcekdjhkjhcdaaGreatDoorNodeJ
/- Contracts of Totals, and of the law's own some and knows (printed by gen_nodekn.py). Conditions: those that each theorem names. -/
namespace Go.Proofs.YtmcekdjhkjhcdaaGreatDoor.No
open Go.ChangeShapes Go.WideShapes Go.ChangeAt Go.RowKit
open Me Np
set_option linter.unusedVariables false
set_option linter.unusedSimpArgs false
/-- An operation whose run is known whole. -/
theorem wpList_ex {P : Program} {ops : Array Oper} {rest : List Oper} {o : Oper} {a : Act} {w w' : World} {v : Value} {Q : Exit → Act → World → Prop} (hgd : o.guard = none) (h : (execOp a.eval o).run P w = .ok (.value v) w')
    (k : wpList P ops Q rest (a.put o.dst v) w') : wpList P ops Q (o :: rest) a w :=
  wpList_plain hgd fun _ hK => by
    unfold Oper.wp
    rw [h]
    exact hK _ _ k
def s0 : Nd := { nz 4 with wd := 655360 }
def s1 : Nd := { nz 1 with char := 97, wd := 327680 }
def s2 : Nd := nz 6
def s3 : Nd := { nz 7 with gn := 65536, gs := 131072 }
def someL : List Nd := [s0, s1, s2, s3]
theorem right_s (n : Nd) (k : Nat) (h : winB n.kind 1 17 = true) (hk : n.kind.toNat = k) (hg : goodK k n = true) (hr : restK k n = nz n.kind) : right n = true := by
  unfold right
  rw [hk, h, hg, hr, eqB_self]
  rfl
theorem r0 : right s0 = true := right_s s0 4 rfl rfl rfl rfl
theorem r1 : right s1 = true := right_s s1 1 rfl rfl rfl rfl
theorem r2 : right s2 = true := right_s s2 6 rfl rfl rfl rfl
theorem r3 : right s3 = true := right_s s3 7 rfl rfl rfl rfl
theorem some_chk : chk someL = 0 := by
  have h : Np.run someL ([], 0) = some ([], 2) := by
    simp only [someL, Np.run, stp, r0, r1, r2, r3]
    rfl
  unfold chk
  rw [h]
  rfl
theorem some_its : Its [0, 3] someL 0 := ⟨rfl, 3, rfl, rfl, 1, rfl, rfl⟩
theorem some_sum : tsum someL (fun k => if k = 0 then 655360 else 65536) [0, 3] tz = ⟨720896, [131072, 0, 0, 0], [0, 0, 0, 0]⟩ := rfl
theorem some_seg {w w' : World} (hb : Below (w.heap.size + 1) (w.alloc (.cells (someL.flatMap ncs).toArray 36)) w') : Seg w' w'.heap.size (some ⟨w.heap.size, 0, none⟩) (someL.flatMap ncs) := by
  refine .inr ⟨w.heap.size, 0, rfl, ?_, fun j u hu => ?_⟩
  · have := hb.size
    simp at this
    omega
  · rw [hb.cell (p := ⟨w.heap.size, 0 + j, none⟩) (by simp), Nat.zero_add, (Blk.new w _ _).cell j]
    simpa using hu
theorem results_cell_tmp {P : Program} {fn : Func} {p q : Tmp} {ty : TypeId} (h : fn.results = #[.cell p ty, .tmp q]) (tmps : Array Value) (w : World) (g : Nat) (t : TypeId) (cs : Array Value) (fr : Nat × Nat) (d : TypeDesc) (v : Value)
    (hp : tmps.getD p undef = .pointer (some ⟨g, 0, none⟩)) (hq : tmps.getD q undef = v) (hg : w.heap[g]? = some (.cells cs t fr))
    (hu : P.underlying ty = some d) (hd : (match d with | .struct _ | .array _ _ => true | _ => false) = true) (hi : (P.info? ty).map (·.size) = some cs.size) :
    (results fn tmps).run P w = .ok (.tuple #[.agg cs, v]) w := by
  have hp' : tmps[p]?.getD undef = .pointer (some ⟨g, 0, none⟩) := by simpa using hp
  have hq' : tmps[q]?.getD undef = v := by simpa using hq
  simp [results, h, hp', hq', asAddr, run_loadVar_row w g t ty cs fr d hg hu hd hi]
set_option maxHeartbeats 1000000 in
set_option maxRecDepth 100000 in
theorem totals_of (A : Option Addr) (ns : List Nd) (c : Nat) (down : Bool) (T : Tot) (w : World) (hl : ns.length ≤ 9223372036854775806) (hseg : Seg w w.heap.size A (ns.flatMap ncs)) (hc : chk ns = 0) (h4 : T.st.length = 4) (h5 : T.sh.length = 4) (hd : dimB T.nat = true)
    (hsum : ∀ w1, Below w.heap.size w w1 → Calls Tryz.prog 35 #[.slice A ns.length c, .bool down] w1 fun e w' => e = .returned (.agg (tc T)) ∧ Below w1.heap.size w1 w') :
    Calls Tryz.prog 17 #[.slice A ns.length c, .bool down] w fun e w' => e = .returned (.tuple #[.agg (tc T), .int .i64 0]) ∧ Below w.heap.size w w' := by
  have HC := Lib.hid fun w1 (h : Below w.heap.size w w1) => check_any A ns c w1 (by omega) (Seg.belowW hseg h)
  have HE := Lib.hid hc
  have HS := Lib.hid hsum
  have HD := Lib.hid hd
  have hn0 := tc_nat T
  have hsz := tc_size h4 h5
  have HSZ := Lib.hid hsz
  have htw : (Tryz.prog.info? 52).map (·.size) = some (tc T).size := by rw [hsz]; exact tot_info
  have HTW := Lib.hid htw
  clear hseg hc hsum hd hsz htw
  rw [HE.out] at HC
  generalize ns.length = len at *
  go_enter Tryz.func17, Tryz.ntmps17
  go_wp2_with fail
  refine (HC.out _ (andAlloc (Below.refl _ _) _)).mono ?_
  rintro e w1 ⟨rfl, hb1⟩
  have hr1 : Blk w1 w.heap.size 52 (tc tz) := Blk.below (Blk.new' rfl) hb1 (by simp)
  have hl1 : Below w.heap.size w w1 := andThen (andAlloc (Below.refl _ _) _) hb1
  clear hb1
  go_wp2_with fail
  refine (HS.out _ hl1).mono ?_
  rintro e w2 ⟨rfl, hb2⟩
  have hr2 : Blk w2 w.heap.size 52 (tc tz) := hr1.below hb2 hr1.lt
  have hl2 : Below w.heap.size w w2 := andThen hl1 hb2
  have hz2 := hr2.lt
  clear hr1 hl1 hb2
  have hr3 := hr2.alloc (.cells (tc T) 52)
  go_wp2_with (first | (refine wpList_store_row (o := ⟨none, .store _ (.tmp 7) _, _, _, _, _⟩) rfl 52 _ _ rfl w2.heap.size (tc T) rfl rfl 52 (tc tz) (Blk.new' rfl) HTW.out (by rw [HSZ.out]; rfl) (tc_one _) ?_) | (go_at_call 36; fail))
  have hk : Blk ((w2.alloc (.cells (tc T) 52)).alloc (.cells #[.int .i64 T.nat] 3)) w2.heap.size 52 (tc T) := Blk.alloc (Blk.new' rfl) _
  have hr4 : Blk ((w2.alloc (.cells (tc T) 52)).alloc (.cells #[.int .i64 T.nat] 3)) w.heap.size 52 (tc tz) := hr3.alloc _
  refine (dimen1 _ T.nat _ ((Blk.new' (by simp)).cell 0)).mono ?_
  rintro e w' ⟨rfl, rfl⟩
  rw [HD.out]
  generalize hW : (w2.alloc (.cells (tc T) 52)).alloc (.cells #[.int .i64 T.nat] 3) = W at hk hr4 ⊢
  have HWB := Lib.hid (by rw [← hW]; exact andAlloc (andAlloc hl2 _) _ : Below w.heap.size w W)
  clear hW hr2 hr3 hl2 hz2 hn0
  go_wp2_with (first
    | (refine wpList_load_row (o := ⟨some 23, _, _, _, _, _⟩) rfl 52 _ rfl w2.heap.size rfl 52 (tc T) (0, 0) _ hk Tryz.underlying52 rfl HTW.out ?_)
    | (refine wpList_store_row (o := ⟨none, .store _ (.tmp 4) _, _, _, _, _⟩) rfl 52 _ _ rfl w.heap.size (tc T) rfl rfl 52 (tc tz) hr4 HTW.out (by rw [HSZ.out]; rfl) (tc_one _) ?_))
  exact bodyPost_ret (v := .tuple #[.agg (tc T), .int .i64 0]) (results_cell_tmp rfl _ _ w.heap.size 52 (tc T) (0, 0) _ _ rfl rfl (Blk.row hr4 _) Tryz.underlying52 rfl HTW.out) rfl ⟨rfl, below_setRow HWB.out _ _ (Nat.le_refl _)⟩
end Go.Proofs.YtmcekdjhkjhcdaaGreatDoor.No

import Derived.Test.YtmcekdjhkjhcdaaGreatDoorNodeTr
/- Contracts of along, sum, Totals: every list. Conditions: those that each theorem names. -/
namespace Go.Proofs.YtmcekdjhkjhcdaaGreatDoor.No
open Go.ChangeShapes Go.WideShapes Go.ChangeAt Go.RowKit
open Me Np
set_option linter.unusedVariables false
set_option linter.unusedSimpArgs false

theorem idx2 (x y z : Value) (w : World) : (Instr.index 75 (.agg #[x, y, z]) (.int .i64 2)).run Tryz.prog w = .ok z w := by kernel_rfl
theorem fld0' (x a b c d e f g h : Int) (w : World) : (Instr.field 52 (.agg #[.int .i64 x, .int .i64 a, .int .i64 b, .int .i64 c, .int .i64 d, .int .i64 e, .int .i64 f, .int .i64 g, .int .i64 h]) 0).run Tryz.prog w = .ok (.int .i64 x) w := by kernel_rfl
theorem fld0 (T : Tot) (h4 : T.st.length = 4) (h5 : T.sh.length = 4) (w : World) : (Instr.field 52 (.agg (tc T)) 0).run Tryz.prog w = .ok (.int .i64 T.nat) w := by
  obtain ⟨x, st, sh⟩ := T
  match st, sh, h4, h5 with
  | [a, b, c, d], [e, f, g, h], _, _ => exact fld0' x a b c d e f g h w
set_option maxHeartbeats 2000000 in
set_option maxRecDepth 100000 in
theorem along_disc (A : Option Addr) (ns : List Nd) (c k m : Nat) (ss : List Nat) (n : Nd) (v : Int) (w : World) (hc : chk ns = 0) (hcap : ns.length ≤ c) (hseg : Seg w w.heap.size A (ns.flatMap ncs)) (hk : ns[k]? = some n) (hm : endc (ns.drop k) 0 = some m) (hm2 : 2 ≤ m) (hd : D3 ss (ns.drop (k + 1)) 0 (m - 2)) (hn : n.kind = 10)
    (hsum : ∀ w1 A1 c1, (thr ss (ns.drop (k + 1)) 0 2).length ≤ c1 → Seg w1 w1.heap.size A1 ((thr ss (ns.drop (k + 1)) 0 2).flatMap ncs) → Calls Tryz.prog 35 #[.slice A1 (thr ss (ns.drop (k + 1)) 0 2).length c1, .bool false] w1 fun e w' => ∃ T : Tot, T.nat = v ∧ (T.st.length = 4 ∧ T.sh.length = 4) ∧ e = .returned (.agg (tc T)) ∧ Below w1.heap.size w1 w') :
    Calls Tryz.prog 89 #[.slice A ns.length c, .int .i64 (k : Int), .bool false] w fun e w' => e = .returned (.int .i64 v) ∧ Below w.heap.size w w' := by
  have hl := (chk_run hc).1
  have HT := Lib.hid fun w1 (h : Below w.heap.size w w1) => three_any A ns c k m ss n w1 hc hcap (Seg.belowW hseg h) hk hm hd hm2
  have HS := Lib.hid hsum
  obtain ⟨b, off, rfl, hb, hnode⟩ := seg_node hseg hk
  have hkl : k < ns.length := (List.getElem?_eq_some_iff.1 hk).1
  clear hseg hk hsum hm hd hc
  generalize thr ss (ns.drop (k + 1)) 0 = F at *
  generalize ns.length = len at *
  go_enter Tryz.func89, Tryz.ntmps89
  go_wp2_with (first | (refine wpList_load_node rfl _ rfl _ _ rfl _ (by repeat (first | apply NodeAt.row | (apply Blk.new'; first | rfl | (simp; done)) | (apply Blk.node; apply Blk.new'; first | rfl | (simp; done)) | assumption | apply NodeAt.alloc)) ?_) | (refine wpList_alloc_node rfl rfl ?_) | (refine wpList_store_node rfl _ _ rfl _ _ _ rfl rfl _ (by repeat (first | (apply Blk.new'; first | rfl | (simp; done)) | assumption | apply Blk.alloc)) ?_))
  refine (HT.out _ (andAlloc (Below.refl _ _) _)).mono ?_
  rintro e w1 ⟨vs, rfl, ho, hb1⟩
  obtain ⟨A2, c2, h2, hc2, _, hs2⟩ := Seg.of_own (ho.own 2 (by omega))
  have hl1 : Below w.heap.size w w1 := andThen (andAlloc (Below.refl _ _) _) hb1
  have hix : ∀ w, (Instr.index 75 (.agg (tc3 vs)) (.int .i64 2)).run Tryz.prog w = .ok (vs 2) w := fun w => idx2 _ _ _ w
  rw [h2] at hix
  generalize tc3 vs = cs at hix ⊢
  go_wp2_with fail
  refine (HS.out _ _ _ hc2 hs2).mono ?_
  rintro e w2 ⟨T, hT, ⟨h4, h5⟩, rfl, hb2⟩
  have ht0 := fld0 T h4 h5
  rw [hT] at ht0
  go_wp2_with fail
  go_ret
  exact ⟨rfl, andThen hl1 hb2⟩
set_option maxHeartbeats 1000000 in
/-- along: every item of a list. -/
theorem along_every (A : Option Addr) (ns : List Nd) (c k : Nat) (n : Nd) (down : Bool) (w : World) (hc : chk ns = 0) (hcap : ns.length ≤ c) (hseg : Seg w w.heap.size A (ns.flatMap ncs)) (hk : ns[k]? = some n) (h6 : ¬ n.kind = 6) (h11 : ¬ n.kind = 11) :
    Calls Tryz.prog 89 #[.slice A ns.length c, .int .i64 (k : Int), .bool down] w fun e w' => e = .returned (.int .i64 (alD ns down k)) ∧ Below w.heap.size w w' := by
  have hl := (chk_run hc).1
  have hr := chk_right hc
  by_cases hd : n.kind = 10 ∧ down = false
  · obtain ⟨h10, rfl⟩ := hd
    obtain ⟨m, hm⟩ := item_ends hc hk h6 h11
    obtain ⟨hm2, ss, hss⟩ := disc_steps hc hk h10 hm
    obtain ⟨xs, hxs, hsm⟩ := thr_its 2 0 hss
    have hv : AlV ns false k (tsum (thr ss (ns.drop (k + 1)) 0 2) (al0 (thr ss (ns.drop (k + 1)) 0 2) false) xs tz).nat := ⟨n, hk, by rw [if_pos ⟨h10, rfl⟩]; exact ⟨ss, m - 2, xs, hss, hxs, rfl⟩⟩
    rw [alD_of hv]
    have hr3 : ∀ y ∈ thr ss (ns.drop (k + 1)) 0 2, right y = true := fun y hy => hr y (List.mem_of_mem_drop (thr_mem y hy))
    have hlen : (thr ss (ns.drop (k + 1)) 0 2).length ≤ 2000 := by
      have h1 := thr_len (j := 2) hss
      have h2 := hss.le
      rw [List.length_drop] at h2
      omega
    refine along_disc A ns c k m ss n _ w hc hcap hseg hk hm hm2 hss h10 fun w1 A1 c1 hc1 hs1 => ?_
    refine (sum_of A1 (thr ss (ns.drop (k + 1)) 0 2) c1 xs false (al0 (thr ss (ns.drop (k + 1)) 0 2) false) w1 hlen hs1 hxs hr3 (fun x _ => by have := al0_bd hr3 false x; omega) fun x hx w2 hb2 => ?_).mono ?_
    · obtain ⟨y, hy, hsy⟩ := hsm x hx
      rw [Nat.sub_zero] at hy
      have e : al0 (thr ss (ns.drop (k + 1)) 0 2) false x = alongP y false := by simp [al0, hy]
      rw [e]
      refine along_any A1 _ c1 x y false w2 (by omega) (Seg.belowW hs1 hb2) hy (hr3 y (List.mem_of_getElem? hy)) (.inr fun h => ?_)
      simp [smallB, h] at hsy
    · rintro e w2 ⟨rfl, hb2⟩
      exact ⟨_, rfl, tsum_len _ _ _ _ ⟨rfl, rfl⟩, rfl, hb2⟩
  · have hv : AlV ns down k (alongP n down) := ⟨n, hk, by rw [if_neg hd]⟩
    rw [alD_of hv]
    refine along_any A ns c k n down w (by omega) hseg hk (hr n (List.mem_of_getElem? hk)) ?_
    cases down
    · right
      intro h
      exact hd ⟨h, rfl⟩
    · exact .inl rfl
theorem sum_any (A : Option Addr) (ns : List Nd) (c : Nat) (xs : List Nat) (down : Bool) (w : World) (hc : chk ns = 0) (hcap : ns.length ≤ c) (hseg : Seg w w.heap.size A (ns.flatMap ncs)) (hx : Its xs ns 0) :
    Calls Tryz.prog 35 #[.slice A ns.length c, .bool down] w fun e w' => e = .returned (.agg (tc (totD ns down xs))) ∧ Below w.heap.size w w' := by
  have hl := (chk_run hc).1
  refine sum_of A ns c xs down (alD ns down) w hl hseg hx (chk_right hc) (fun x hm => alV_bd hc (alD_spec down hc hx x hm)) fun x hm w1 hb1 => ?_
  obtain ⟨n, hn, h6, h11⟩ := its_beg hc hx x hm
  exact along_every A ns c x n down w1 hc hcap (Seg.belowW hseg hb1) hn h6 h11
theorem totals_ok (A : Option Addr) (ns : List Nd) (c : Nat) (xs : List Nat) (down : Bool) (w : World) (hc : chk ns = 0) (hcap : ns.length ≤ c) (hseg : Seg w w.heap.size A (ns.flatMap ncs)) (hx : Its xs ns 0) (hd : dimB (totD ns down xs).nat = true) :
    Calls Tryz.prog 17 #[.slice A ns.length c, .bool down] w fun e w' => e = .returned (.tuple #[.agg (tc (totD ns down xs)), .int .i64 0]) ∧ Below w.heap.size w w' :=
  totals_of A ns c down _ w (by have := (chk_run hc).1; omega) hseg hc (totD_len ns down xs).1 (totD_len ns down xs).2 hd fun w1 hb1 => sum_any A ns c xs down w1 hc hcap (Seg.belowW hseg hb1) hx
end Go.Proofs.YtmcekdjhkjhcdaaGreatDoor.No

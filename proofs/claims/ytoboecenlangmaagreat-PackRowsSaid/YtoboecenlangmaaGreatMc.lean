import Derived.Test.YtoboecenlangmaaGreatNodeS4
import Derived.Test.YtoboecenlangmaaGreatMa
import Derived.Test.YtoboecenlangmaaGreatNodeS2
import Derived.Test.YtoboecenlangmaaGreatNodeGc
import Derived.Test.YtoboecenlangmaaGreatFitR
import Derived.Deep.RegionWith
import Derived.RegionTactic
import Derived.StillTailTactics
import Derived.Test.YtoboecenlangmaaGreatNodeS1
import Derived.Test.YtoboecenlangmaaGreatNodeRt
import Derived.Test.YtoboecenlangmaaGreatGlueG
import Derived.Test.YtoboecenlangmaaGreatNodeIn
import Derived.Test.YtoboecenlangmaaGreatNodeTr
import Derived.Handy
import Derived.BigRegion
import Derived.Test.YtoboecenlangmaaGreatBlk
import Derived.Test.YtoboecenlangmaaGreatRows
import Derived.Test.YtoboecenlangmaaGreatMem
import Derived.WalkKit
import Derived.ProofKit
import Derived.OpenShut
import Derived.WalkSpells
import Derived.WalkLawsBesides
import Derived.Outline
import Derived.Lib.Hide
import Derived.Deep.DeepCutAuto
import Derived.Deep.QuietTactic
import Derived.BigQuiet
/- Merged texts. Conditions: those that each theorem names. -/
section
namespace Go.Proofs.YtoboecenlangmaaGreat.No
open Go.ChangeShapes Go.WideShapes Go.ChangeAt Go.RowKit
open Me Np
set_option linter.unusedVariables false
set_option linter.unusedSimpArgs false

theorem rsum_any (A : Option Addr) (ns : List Nd) (c : Nat) (xs : List Nat) (down : Bool) (w : World) (hc : chk ns = 0) (hcap : ns.length ≤ c) (hseg : Seg w w.heap.size A (ns.flatMap ncs)) (hx : Its xs ns 0) :
    Calls Tryz.prog 94 #[.slice A ns.length c, .bool down] w fun e w' => e = .returned (.agg (tc (totD ns down xs))) ∧ Below w.heap.size w w' := by
  have hl := (chk_run hc).1
  have hr := chk_right hc
  refine rsum_of A ns c xs down (alD ns down) w hl hseg hx hr ?_ (fun x hm => alV_bd hc (alD_spec down hc hx x hm)) ?_ ?_
  · intro x hm n hn
    obtain ⟨n', hn', h6, _⟩ := its_beg hc hx x hm
    rw [hn] at hn'
    injection hn' with e
    rw [e]
    exact h6
  · intro k hk n hn hd
    have hv : AlV ns down k (alongP n down) := ⟨n, hn, by
      rw [if_neg]
      rintro ⟨h1, h2⟩
      rcases hd with hd | hd
      · rw [hd] at h2; cases h2
      · exact hd h1⟩
    exact alD_of hv
  · intro k hk n hn hdown h10 w1 hb1
    subst hdown
    obtain ⟨m, hm⟩ := item_ends hc hn (by omega) (by omega)
    obtain ⟨hm2, ss, hss⟩ := disc_steps hc hn h10 hm
    obtain ⟨xs', hxs, hsm⟩ := thr_its 2 0 hss
    have hv : AlV ns false k (tsum (thr ss (ns.drop (k + 1)) 0 2) (al0 (thr ss (ns.drop (k + 1)) 0 2) false) xs' tz).nat := ⟨n, hn, by rw [if_pos ⟨h10, rfl⟩]; exact ⟨ss, m - 2, xs', hss, hxs, rfl⟩⟩
    rw [alD_of hv]
    have hr3 : ∀ y ∈ thr ss (ns.drop (k + 1)) 0 2, right y = true := fun y hy => hr y (List.mem_of_mem_drop (thr_mem y hy))
    have hlen : (thr ss (ns.drop (k + 1)) 0 2).length ≤ 2000 := by
      have h1 := thr_len (j := 2) hss
      have h2 := hss.le
      rw [List.length_drop] at h2
      omega
    refine (rthree_any A ns c k m ss n w1 hc hcap (Seg.belowW hseg hb1) hn hm hss hm2 h10).mono ?_
    rintro e w2 ⟨vs, rfl, ho, hb2⟩
    obtain ⟨A2, c2, h2, hc2, _, hs2⟩ := Seg.of_own (ho.own 2 (by omega))
    refine ⟨vs, A2, c2, _, rfl, h2, hb2, ?_⟩
    have hsm' : ∀ x ∈ xs', ∀ y, (thr ss (ns.drop (k + 1)) 0 2)[x]? = some y → smallB y = true := fun x hx' y hy => by
      obtain ⟨y', hy', hs⟩ := hsm x hx'
      rw [Nat.sub_zero, hy] at hy'
      injection hy' with e
      rw [e]
      exact hs
    refine (rsum_of A2 (thr ss (ns.drop (k + 1)) 0 2) c2 xs' false (al0 (thr ss (ns.drop (k + 1)) 0 2) false) w2 hlen hs2 hxs hr3 (fun x hx' y hy h => ?_) (fun x _ => by have := al0_bd hr3 false x; omega) (fun x hx' y hy _ => by simp [al0, hy]) (fun x hx' y hy _ h => ?_)).mono ?_
    · have := hsm' x hx' y hy
      simp [smallB, h] at this
    · have := hsm' x hx' y hy
      simp [smallB, h] at this
    · rintro e w3 ⟨rfl, hb3⟩
      exact ⟨_, rfl, tsum_len _ _ _ _ ⟨rfl, rfl⟩, rfl, hb3⟩
end Go.Proofs.YtoboecenlangmaaGreat.No
end
section
namespace Go.Proofs.YtoboecenlangmaaGreat.No
open Go.ChangeShapes Go.WideShapes Go.ChangeAt Go.RowKit
open Me Np
set_option linter.unusedVariables false
set_option linter.unusedSimpArgs false

set_option maxHeartbeats 1000000 in
set_option maxRecDepth 100000 in
theorem rtotals_bad (A : Option Addr) (ns : List Nd) (c : Nat) (down : Bool) (w : World) (hl : ns.length ≤ 9223372036854775806) (hseg : Seg w w.heap.size A (ns.flatMap ncs)) (hc : ¬ chk ns = 0) :
    Calls Tryz.prog 50 #[.slice A ns.length c, .bool down] w fun e w' => e = .returned (.tuple #[.agg (tc tz), .int .i64 (chk ns)]) ∧ Below w.heap.size w w' := by
  have HC := Lib.hid fun w1 (h : Below w.heap.size w w1) => rcheckl_any A ns c w1 (by omega) (Seg.belowW hseg h)
  have e0 : (chk ns != 0) = true := by simp [hc]
  clear hseg hc
  generalize chk ns = v at *
  generalize ns.length = len at *
  go_enter Tryz.func50, Tryz.ntmps50
  go_wp2_with fail
  refine (HC.out _ (andAlloc (Below.refl _ _) _)).mono ?_
  rintro e w1 ⟨rfl, hb1⟩
  have hr1 : Blk w1 w.heap.size 109 (tc tz) := Blk.below (Blk.new' rfl) hb1 (by simp)
  have HL1 := Lib.hid (andThen (andAlloc (Below.refl _ _) _) hb1 : Below w.heap.size w w1)
  clear hb1
  go_wp2_with (first | (refine wpList_store_row (o := ⟨none, .store _ (.tmp 4) _, _, _, _, _⟩) rfl 109 _ _ rfl w.heap.size (tc tz) rfl rfl 109 (tc tz) hr1 tot_info rfl (tc_one _) ?_))
  exact bodyPost_ret (v := .tuple #[.agg (tc tz), .int .i64 v]) (results_cell_tmp rfl _ _ w.heap.size 109 (tc tz) (0, 0) _ _ rfl rfl (Blk.row hr1 _) Tryz.underlying109 rfl tot_info) rfl ⟨rfl, below_setRow HL1.out _ _ (Nat.le_refl _)⟩
set_option maxHeartbeats 1000000 in
set_option maxRecDepth 100000 in
theorem rtotals_off (A : Option Addr) (ns : List Nd) (c : Nat) (down : Bool) (T : Tot) (w : World) (hc : chk ns = 0) (hseg : Seg w w.heap.size A (ns.flatMap ncs)) (h4 : T.st.length = 4) (h5 : T.sh.length = 4) (hd : dimB T.nat = false)
    (hsum : ∀ w1, Below w.heap.size w w1 → Calls Tryz.prog 94 #[.slice A ns.length c, .bool down] w1 fun e w' => e = .returned (.agg (tc T)) ∧ Below w1.heap.size w1 w') :
    Calls Tryz.prog 50 #[.slice A ns.length c, .bool down] w fun e w' => e = .returned (.tuple #[.agg (tc tz), .int .i64 20]) ∧ Below w.heap.size w w' := by
  have hl := (chk_run hc).1
  have HC := Lib.hid fun w1 (h : Below w.heap.size w w1) => rcheckl_any A ns c w1 (by omega) (Seg.belowW hseg h)
  have HS := Lib.hid hsum
  have HD := Lib.hid hd
  rw [hc] at HC
  have hn0 := tc_nat T
  have hsz := tc_size h4 h5
  have HSZ := Lib.hid hsz
  have htw : (Tryz.prog.info? 109).map (·.size) = some (tc T).size := by rw [hsz]; exact tot_info
  have HTW := Lib.hid htw
  clear hseg hc hsum hd hsz htw h4 h5
  generalize ns.length = len at *
  go_enter Tryz.func50, Tryz.ntmps50
  go_wp2_with fail
  refine (HC.out _ (andAlloc (Below.refl _ _) _)).mono ?_
  rintro e w1 ⟨rfl, hb1⟩
  have hr1 : Blk w1 w.heap.size 109 (tc tz) := Blk.below (Blk.new' rfl) hb1 (by simp)
  have hl1 : Below w.heap.size w w1 := andThen (andAlloc (Below.refl _ _) _) hb1
  clear hb1
  go_wp2_with fail
  refine (HS.out _ hl1).mono ?_
  rintro e w2 ⟨rfl, hb2⟩
  have hr2 : Blk w2 w.heap.size 109 (tc tz) := hr1.below hb2 hr1.lt
  have HL2 := Lib.hid (andThen hl1 hb2)
  clear hr1 hl1 hb2
  go_wp2_with (first | (refine wpList_store_row (o := ⟨none, .store _ (.tmp 7) _, _, _, _, _⟩) rfl 109 _ _ rfl w2.heap.size (tc T) rfl rfl 109 (tc tz) (Blk.new' rfl) HTW.out (by rw [HSZ.out]; rfl) (tc_one _) ?_) | (go_at_call 95; fail))
  have hr3 := hr2.alloc (.cells (tc T) 109)
  have hr4 : Blk (w2.alloc (.cells (tc T) 109)) w2.heap.size 109 (tc T) := Blk.new' rfl
  refine (rdimen_any T.nat _).mono ?_
  rintro e w' ⟨rfl, rfl⟩
  rw [HD.out]
  have HLW := Lib.hid (andAlloc HL2.out (.cells (tc T) 109))
  clear hr2 hn0
  go_wp2_with (first | (refine wpList_store_row (o := ⟨none, .store _ (.tmp 4) _, _, _, _, _⟩) rfl 109 _ _ rfl w.heap.size (tc tz) rfl rfl 109 (tc tz) hr3 tot_info rfl (tc_one _) ?_))
  exact bodyPost_ret (v := .tuple #[.agg (tc tz), .int .i64 20]) (results_cell_tmp rfl _ _ w.heap.size 109 (tc tz) (0, 0) _ _ rfl rfl (Blk.row hr3 _) Tryz.underlying109 rfl tot_info) rfl ⟨rfl, below_setRow HLW.out _ _ (Nat.le_refl _)⟩
set_option maxHeartbeats 1000000 in
set_option maxRecDepth 100000 in
theorem rtotals_ok (A : Option Addr) (ns : List Nd) (c : Nat) (down : Bool) (T : Tot) (w : World) (hc : chk ns = 0) (hseg : Seg w w.heap.size A (ns.flatMap ncs)) (h4 : T.st.length = 4) (h5 : T.sh.length = 4) (hd : dimB T.nat = true)
    (hsum : ∀ w1, Below w.heap.size w w1 → Calls Tryz.prog 94 #[.slice A ns.length c, .bool down] w1 fun e w' => e = .returned (.agg (tc T)) ∧ Below w1.heap.size w1 w') :
    Calls Tryz.prog 50 #[.slice A ns.length c, .bool down] w fun e w' => e = .returned (.tuple #[.agg (tc T), .int .i64 0]) ∧ Below w.heap.size w w' := by
  have hl := (chk_run hc).1
  have HC := Lib.hid fun w1 (h : Below w.heap.size w w1) => rcheckl_any A ns c w1 (by omega) (Seg.belowW hseg h)
  have HS := Lib.hid hsum
  have HD := Lib.hid hd
  rw [hc] at HC
  have hn0 := tc_nat T
  have hsz := tc_size h4 h5
  have HSZ := Lib.hid hsz
  have htw : (Tryz.prog.info? 109).map (·.size) = some (tc T).size := by rw [hsz]; exact tot_info
  have HTW := Lib.hid htw
  clear hseg hc hsum hd hsz htw h4 h5
  generalize ns.length = len at *
  go_enter Tryz.func50, Tryz.ntmps50
  go_wp2_with fail
  refine (HC.out _ (andAlloc (Below.refl _ _) _)).mono ?_
  rintro e w1 ⟨rfl, hb1⟩
  have hr1 : Blk w1 w.heap.size 109 (tc tz) := Blk.below (Blk.new' rfl) hb1 (by simp)
  have hl1 : Below w.heap.size w w1 := andThen (andAlloc (Below.refl _ _) _) hb1
  clear hb1
  go_wp2_with fail
  refine (HS.out _ hl1).mono ?_
  rintro e w2 ⟨rfl, hb2⟩
  have hr2 : Blk w2 w.heap.size 109 (tc tz) := hr1.below hb2 hr1.lt
  have HL2 := Lib.hid (andThen hl1 hb2)
  clear hr1 hl1 hb2
  go_wp2_with (first | (refine wpList_store_row (o := ⟨none, .store _ (.tmp 7) _, _, _, _, _⟩) rfl 109 _ _ rfl w2.heap.size (tc T) rfl rfl 109 (tc tz) (Blk.new' rfl) HTW.out (by rw [HSZ.out]; rfl) (tc_one _) ?_) | (go_at_call 95; fail))
  have hr3 := hr2.alloc (.cells (tc T) 109)
  have hr4 : Blk (w2.alloc (.cells (tc T) 109)) w2.heap.size 109 (tc T) := Blk.new' rfl
  refine (rdimen_any T.nat _).mono ?_
  rintro e w' ⟨rfl, rfl⟩
  rw [HD.out]
  have HLW := Lib.hid (andAlloc HL2.out (.cells (tc T) 109))
  clear hr2 hn0
  go_wp2_with (first | (refine wpList_load_row (o := ⟨some 22, _, _, _, _, _⟩) rfl 109 _ rfl w2.heap.size rfl 109 (tc T) (0, 0) _ hr4 Tryz.underlying109 rfl HTW.out ?_) | (refine wpList_store_row (o := ⟨none, .store _ (.tmp 4) _, _, _, _, _⟩) rfl 109 _ _ rfl w.heap.size (tc T) rfl rfl 109 (tc tz) hr3 HTW.out (by rw [HSZ.out]; rfl) (tc_one _) ?_))
  exact bodyPost_ret (v := .tuple #[.agg (tc T), .int .i64 0]) (results_cell_tmp rfl _ _ w.heap.size 109 (tc T) (0, 0) _ _ rfl rfl (Blk.row hr3 _) Tryz.underlying109 rfl HTW.out) rfl ⟨rfl, below_setRow HLW.out _ _ (Nat.le_refl _)⟩
theorem rtotals_good (A : Option Addr) (ns : List Nd) (c : Nat) (xs : List Nat) (down : Bool) (w : World) (hc : chk ns = 0) (hcap : ns.length ≤ c) (hseg : Seg w w.heap.size A (ns.flatMap ncs)) (hx : Its xs ns 0) :
    Calls Tryz.prog 50 #[.slice A ns.length c, .bool down] w fun e w' => e = .returned (.tuple #[.agg (tc (totR ns down xs)), .int .i64 (if dimB (totD ns down xs).nat = true then 0 else 20)]) ∧ Below w.heap.size w w' := by
  unfold totR
  have h4 := totD_len ns down xs
  cases h : dimB (totD ns down xs).nat
  · simpa using rtotals_off A ns c down _ w hc hseg h4.1 h4.2 h fun w1 hb => rsum_any A ns c xs down w1 hc hcap (Seg.belowW hseg hb) hx
  · simpa using rtotals_ok A ns c down _ w hc hseg h4.1 h4.2 h fun w1 hb => rsum_any A ns c xs down w1 hc hcap (Seg.belowW hseg hb) hx
end Go.Proofs.YtoboecenlangmaaGreat.No
end
section
namespace Go.Proofs.YtoboecenlangmaaGreat.No
open Go.ChangeShapes Go.WideShapes Go.ChangeAt Go.RowKit
open Me Np
set_option linter.unusedVariables false
set_option linter.unusedSimpArgs false
attribute [local go_sem ↓] ldN_eq
set_option maxHeartbeats 4000000 in
set_option maxRecDepth 100000 in
theorem rrow_of (A : Option Addr) (ns : List Nd) (c : Nat) (xs : List Nat) (ra : Nat → Int × Int) (w : World) (hl : ns.length ≤ 2000) (hseg : Seg w w.heap.size A (ns.flatMap ncs)) (hx : Its xs ns 0) (hr : ∀ x ∈ ns, right x = true) (h6 : ∀ x ∈ xs, ∀ n, ns[x]? = some n → ¬ n.kind = 6)
    (hrv : ∀ k ∈ xs, RV (ra k)) (hone : ∀ k ∈ xs, ∀ n, ns[k]? = some n → ¬ n.kind = 10 → ra k = rowP n)
    (hdisc : ∀ k ∈ xs, ∀ n, ns[k]? = some n → n.kind = 10 → ∀ w1, Below w.heap.size w w1 → Calls Tryz.prog 161 #[.slice A ns.length c, .int .i64 (k : Int)] w1 fun e w' => ∃ vs A2 c2 l2, e = .returned (.agg (tc3 vs)) ∧ vs 2 = .slice A2 l2 c2 ∧ Below w1.heap.size w1 w' ∧
      Calls Tryz.prog 96 #[.slice A2 l2 c2] w' fun e w2 => e = .returned (.tuple #[.int .i64 (ra k).1, .int .i64 (ra k).2]) ∧ Below w'.heap.size w' w2) :
    Calls Tryz.prog 96 #[.slice A ns.length c] w fun e w' => e = .returned (.tuple #[.int .i64 (rfold ra xs (0, 0)).1, .int .i64 (rfold ra xs (0, 0)).2]) ∧ Below w.heap.size w w' := by
  have HDI := Lib.hid hdisc
  have HON := Lib.hid hone
  have HRV := Lib.hid hrv
  have HRT := Lib.hid hr
  have HSEG := Lib.hid hseg
  have HITS := Lib.hid (rstarts_any A ns c xs w hl hseg hx h6)
  have hxl := Its.len hx
  have HLT := Lib.hid (Its.lt hx)
  clear hdisc hone hrv hr hseg hx h6
  have HL := Lib.hid (rfl : ns.length = ns.length)
  generalize hlen : ns.length = len at hl HDI HITS HL hxl HLT ⊢
  clear HL
  have HL := Lib.hid hlen
  clear hlen
  go_enter Tryz.func96, Tryz.ntmps96
  go_wp2_with fail
  refine HITS.out.mono ?_
  rintro e w1 ⟨v, rfl, ho, hb1⟩
  obtain ⟨A', c', rfl⟩ := made_len ho
  have HO := Lib.hid ho
  have HB1 := Lib.hid hb1
  clear ho hb1
  go_wp2_with fail
  go_loopw [4, 5, 7] (fun h d i wr => ∃ (k : Nat) (s : Int × Int), k ≤ xs.length ∧ i = .int .i64 k ∧ h = .int .i64 s.1 ∧ d = .int .i64 s.2 ∧ RB s ∧ rfold ra (xs.drop k) s = rfold ra xs (0, 0) ∧ Below w1.heap.size w1 wr) (fun _ _ i _ => xs.length - (intOf i).toNat)
  case atStart => exact ⟨0, (0, 0), by omega, rfl, rfl, rfl, by unfold RB; simp only; omega, rfl, Below.refl _ _⟩
  case round =>
    obtain ⟨k, s, hk, rfl, rfl, rfl, hrb, hfo, hlow⟩ := hrel
    have HRB := Lib.hid hrb
    by_cases hlt : k < xs.length
    · obtain ⟨x, hx, hxd⟩ : ∃ x, xs[k]? = some x ∧ xs.drop k = x :: xs.drop (k + 1) := ⟨xs[k], List.getElem?_eq_getElem hlt, List.drop_eq_getElem_cons hlt⟩
      have hxm : x ∈ xs := List.mem_of_getElem? hx
      have hxl2 := (HLT.out x hxm).2
      obtain ⟨n, hn, hnd⟩ := get_drop (l := ns) (k := x) (by rw [HL.out]; omega)
      have HRN := Lib.hid (HRT.out n (List.mem_of_getElem? hn))
      have HNN := Lib.hid hn
      obtain ⟨b, off, rfl, hb, hnode⟩ := seg_node HSEG.out hn
      have HLW := Lib.hid (andThen HB1.out hlow)
      have hnr : NodeAt wr b (off + x * 19) n := hnode.below HLW.out hb
      have hld0 : (ldN ⟨b, off + x * 19, none⟩).run Tryz.prog wr = .ok (.agg (nc n)) wr := run_ldN hnr
      rw [hxd] at hfo
      have HFO := Lib.hid (show rfold ra (xs.drop (k + 1)) (rstep s (ra x)) = rfold ra xs (0, 0) from hfo)
      obtain ⟨g, rfl, hg⟩ : ∃ g, A' = some ⟨g, 0, none⟩ ∧ g < w1.heap.size := by
        rcases id HO.out.2 with ⟨_, h5⟩ | ⟨g, _, _, h5, _, h6, _⟩
        · omega
        · simp at h5
          exact ⟨g, h5.1, (Array.getElem?_eq_some_iff.1 h6).1⟩
      have hxc : wr.cell? ⟨g, k, none⟩ = some (.int .i64 x) := by
        rw [hlow.cell (p := ⟨g, k, none⟩) hg, World.ownsRow.cellAt HO.out k (by omega), List.getElem?_map, hx]
        rfl
      have hgl : g < wr.heap.size := Nat.lt_of_lt_of_le hg hlow.size
      clear hn hnd hx hnode hxd hfo hnr hrb
      by_cases h10 : n.kind = 10
      · have e1 : (n.kind == 1) = false := by simp [h10]
        have e2 : (n.kind == 2) = false := by simp [h10]
        have e3 : (n.kind == 3) = false := by simp [h10]
        have e4 : (n.kind == 4) = false := by simp [h10]
        have e5 : (n.kind == 5) = false := by simp [h10]
        have e10 : (n.kind == 10) = true := by simp [h10]
        have HD3 := Lib.hid (HDI.out x hxm n HNN.out h10 (wr.alloc (.cells (nc n) 101)) (andAlloc HLW.out _))
        have hlw2 := andAlloc hlow (.cells (nc n) 101)
        clear h10
        go_wp2_with (first | (with_reducible show wpList _ _ _ _ _ _; refine wpList_alloc_node rfl rfl ?_) | (with_reducible show wpList _ _ _ _ _ _; refine wpList_store_node rfl _ _ rfl _ _ _ rfl rfl _ (by repeat (first | (apply Blk.new'; first | rfl | (simp; done)) | assumption | apply Blk.alloc)) ?_))
        refine HD3.out.mono ?_
        rintro e w4 ⟨vs, A2, c2, l2, rfl, hv2, hb4, hsum⟩
        have HSU := Lib.hid hsum
        have hlw4 := andThen hlw2 hb4
        have hix : ∀ w, (Instr.index 221 (.agg (tc3 vs)) (.int .i64 2)).run Tryz.prog w = .ok (vs 2) w := fun w => idx2 _ _ _ w
        rw [hv2] at hix
        clear hsum hv2 hb4 HD3 hlw2
        generalize tc3 vs = cs3 at hix ⊢
        go_wp2_with fail
        refine HSU.out.mono ?_
        rintro e w5 ⟨rfl, hb5⟩
        have hlw5 := andThen hlw4 hb5
        clear hb5 hlw4 HSU hix
        go_wp2_with fail
        go_roundw
        case rel => exact ⟨k + 1, rstep s (ra x), by omega, by go_num, rfl, rfl, HRB.out.step (HRV.out x hxm), HFO.out, by repeat (first | exact hlw5 | refine below_drewN ?_ _ | refine andAlloc ?_ _)⟩
        case measure => simp [intOf]; omega
      · by_cases hk5 : n.kind = 1 ∨ n.kind = 2 ∨ n.kind = 3 ∨ n.kind = 4 ∨ n.kind = 5
        · rcases hk5 with hk | hk | hk | hk | hk
          · have e1 : (n.kind == 1) = true := by simp [hk]
            have hra := HON.out x hxm n HNN.out (by omega)
            rw [show rowP n = (n.ht, n.dp) by unfold rowP; rw [if_pos (by omega)]] at hra
            have HRA := Lib.hid hra
            clear hra hk
            go_wp2_with (first | (with_reducible show wpList _ _ _ _ _ _; refine wpList_alloc_node rfl rfl ?_) | (with_reducible show wpList _ _ _ _ _ _; refine wpList_store_node rfl _ _ rfl _ _ _ rfl rfl _ (by repeat (first | (apply Blk.new'; first | rfl | (simp; done)) | assumption | apply Blk.alloc)) ?_))
            go_roundw
            case rel => exact ⟨k + 1, rstep s (n.ht, n.dp), by omega, by go_num, rfl, rfl, by rw [← HRA.out]; exact HRB.out.step (HRV.out x hxm), by rw [← HRA.out]; exact HFO.out, by repeat (first | exact hlow | refine below_drewN ?_ _ | refine andAlloc ?_ _)⟩
            case measure => simp [intOf]; omega
          · have e1 : (n.kind == 1) = false := by simp [hk]
            have e2 : (n.kind == 2) = true := by simp [hk]
            have hra := HON.out x hxm n HNN.out (by omega)
            rw [show rowP n = (n.ht, n.dp) by unfold rowP; rw [if_pos (by omega)]] at hra
            have HRA := Lib.hid hra
            clear hra hk
            go_wp2_with (first | (with_reducible show wpList _ _ _ _ _ _; refine wpList_alloc_node rfl rfl ?_) | (with_reducible show wpList _ _ _ _ _ _; refine wpList_store_node rfl _ _ rfl _ _ _ rfl rfl _ (by repeat (first | (apply Blk.new'; first | rfl | (simp; done)) | assumption | apply Blk.alloc)) ?_))
            go_roundw
            case rel => exact ⟨k + 1, rstep s (n.ht, n.dp), by omega, by go_num, rfl, rfl, by rw [← HRA.out]; exact HRB.out.step (HRV.out x hxm), by rw [← HRA.out]; exact HFO.out, by repeat (first | exact hlow | refine below_drewN ?_ _ | refine andAlloc ?_ _)⟩
            case measure => simp [intOf]; omega
          · have e1 : (n.kind == 1) = false := by simp [hk]
            have e2 : (n.kind == 2) = false := by simp [hk]
            have e3 : (n.kind == 3) = true := by simp [hk]
            have hra := HON.out x hxm n HNN.out (by omega)
            rw [show rowP n = (n.ht, n.dp) by unfold rowP; rw [if_pos (by omega)]] at hra
            have HRA := Lib.hid hra
            clear hra hk
            go_wp2_with (first | (with_reducible show wpList _ _ _ _ _ _; refine wpList_alloc_node rfl rfl ?_) | (with_reducible show wpList _ _ _ _ _ _; refine wpList_store_node rfl _ _ rfl _ _ _ rfl rfl _ (by repeat (first | (apply Blk.new'; first | rfl | (simp; done)) | assumption | apply Blk.alloc)) ?_))
            go_roundw
            case rel => exact ⟨k + 1, rstep s (n.ht, n.dp), by omega, by go_num, rfl, rfl, by rw [← HRA.out]; exact HRB.out.step (HRV.out x hxm), by rw [← HRA.out]; exact HFO.out, by repeat (first | exact hlow | refine below_drewN ?_ _ | refine andAlloc ?_ _)⟩
            case measure => simp [intOf]; omega
          · have e1 : (n.kind == 1) = false := by simp [hk]
            have e2 : (n.kind == 2) = false := by simp [hk]
            have e3 : (n.kind == 3) = false := by simp [hk]
            have e4 : (n.kind == 4) = true := by simp [hk]
            have hra := HON.out x hxm n HNN.out (by omega)
            rw [show rowP n = (n.ht - n.shift, n.dp + n.shift) by unfold rowP; rw [if_neg (by omega), if_pos (by omega)]] at hra
            have hd := right_hd HRN.out (by omega)
            unfold dm at hd
            have hsh := box_shift HRN.out (by omega)
            have hw1 : IntKind.i64.wrap (n.ht - n.shift) = n.ht - n.shift := IntWalk.i64_in _ (by omega)
            have hw2 : IntKind.i64.wrap (n.dp + n.shift) = n.dp + n.shift := IntWalk.i64_in _ (by omega)
            clear hd hsh
            have HRA := Lib.hid hra
            clear hra hk
            go_wp2_with (first | (with_reducible show wpList _ _ _ _ _ _; refine wpList_alloc_node rfl rfl ?_) | (with_reducible show wpList _ _ _ _ _ _; refine wpList_store_node rfl _ _ rfl _ _ _ rfl rfl _ (by repeat (first | (apply Blk.new'; first | rfl | (simp; done)) | assumption | apply Blk.alloc)) ?_))
            go_roundw
            case rel => exact ⟨k + 1, rstep s (n.ht - n.shift, n.dp + n.shift), by omega, by go_num, rfl, rfl, by rw [← HRA.out]; exact HRB.out.step (HRV.out x hxm), by rw [← HRA.out]; exact HFO.out, by repeat (first | exact hlow | refine below_drewN ?_ _ | refine andAlloc ?_ _)⟩
            case measure => simp [intOf]; omega
          · have e1 : (n.kind == 1) = false := by simp [hk]
            have e2 : (n.kind == 2) = false := by simp [hk]
            have e3 : (n.kind == 3) = false := by simp [hk]
            have e4 : (n.kind == 4) = false := by simp [hk]
            have e5 : (n.kind == 5) = true := by simp [hk]
            have hra := HON.out x hxm n HNN.out (by omega)
            rw [show rowP n = (n.ht - n.shift, n.dp + n.shift) by unfold rowP; rw [if_neg (by omega), if_pos (by omega)]] at hra
            have hd := right_hd HRN.out (by omega)
            unfold dm at hd
            have hsh := box_shift HRN.out (by omega)
            have hw1 : IntKind.i64.wrap (n.ht - n.shift) = n.ht - n.shift := IntWalk.i64_in _ (by omega)
            have hw2 : IntKind.i64.wrap (n.dp + n.shift) = n.dp + n.shift := IntWalk.i64_in _ (by omega)
            clear hd hsh
            have HRA := Lib.hid hra
            clear hra hk
            go_wp2_with (first | (with_reducible show wpList _ _ _ _ _ _; refine wpList_alloc_node rfl rfl ?_) | (with_reducible show wpList _ _ _ _ _ _; refine wpList_store_node rfl _ _ rfl _ _ _ rfl rfl _ (by repeat (first | (apply Blk.new'; first | rfl | (simp; done)) | assumption | apply Blk.alloc)) ?_))
            go_roundw
            case rel => exact ⟨k + 1, rstep s (n.ht - n.shift, n.dp + n.shift), by omega, by go_num, rfl, rfl, by rw [← HRA.out]; exact HRB.out.step (HRV.out x hxm), by rw [← HRA.out]; exact HFO.out, by repeat (first | exact hlow | refine below_drewN ?_ _ | refine andAlloc ?_ _)⟩
            case measure => simp [intOf]; omega
        · have e1 : (n.kind == 1) = false := by simp; omega
          have e2 : (n.kind == 2) = false := by simp; omega
          have e3 : (n.kind == 3) = false := by simp; omega
          have e4 : (n.kind == 4) = false := by simp; omega
          have e5 : (n.kind == 5) = false := by simp; omega
          have e10 : (n.kind == 10) = false := by simp; omega
          have hra := HON.out x hxm n HNN.out h10
          rw [show rowP n = (0, 0) by unfold rowP; rw [if_neg (by omega), if_neg (by omega)]] at hra
          have HRA := Lib.hid hra
          clear hra h10 hk5
          go_wp2_with (first | (with_reducible show wpList _ _ _ _ _ _; refine wpList_alloc_node rfl rfl ?_) | (with_reducible show wpList _ _ _ _ _ _; refine wpList_store_node rfl _ _ rfl _ _ _ rfl rfl _ (by repeat (first | (apply Blk.new'; first | rfl | (simp; done)) | assumption | apply Blk.alloc)) ?_))
          go_roundw
          case rel =>
            have hz : rstep s (ra x) = s := by
              have h := HRB.out
              rw [HRA.out]
              unfold RB at h
              unfold rstep
              simp only
              exact Prod.ext (by simp only; omega) (by simp only; omega)
            have hf := HFO.out
            rw [hz] at hf
            exact ⟨k + 1, s, by omega, by go_num, rfl, rfl, HRB.out, hf, by repeat (first | exact hlow | refine below_drewN ?_ _ | refine andAlloc ?_ _)⟩
          case measure => simp [intOf]; omega
    · obtain rfl : k = xs.length := by omega
      rw [List.drop_of_length_le (Nat.le_refl _)] at hfo
      have hfo : s = rfold ra xs (0, 0) := hfo
      subst hfo
      have HLW := Lib.hid (andThen HB1.out hlow)
      go_wp2_with fail
      go_ret2
      exact ⟨rfl, HLW.out⟩
end Go.Proofs.YtoboecenlangmaaGreat.No
end
section
namespace Go.Proofs.YtoboecenlangmaaGreat.No
open Go.ChangeShapes Go.WideShapes Go.ChangeAt Go.RowKit
open Me Np
set_option linter.unusedVariables false
set_option linter.unusedSimpArgs false
attribute [local go_sem ↓] ldN_eq
set_option maxHeartbeats 4000000 in
set_option maxRecDepth 100000 in
theorem rcolumn_of (A : Option Addr) (ns : List Nd) (c : Nat) (xs : List Nat) (w : World) (hl : ns.length ≤ 2000) (hseg : Seg w w.heap.size A (ns.flatMap ncs)) (hx : Its xs ns 0) (hr : ∀ x ∈ ns, right x = true) (h6 : ∀ x ∈ xs, ∀ n, ns[x]? = some n → ¬ n.kind = 6) :
    Calls Tryz.prog 97 #[.slice A ns.length c] w fun e w' => e = .returned (.tuple #[.int .i64 (cfold ns xs (0, 0)).1, .int .i64 (cfold ns xs (0, 0)).2]) ∧ Below w.heap.size w w' := by
  have HRT := Lib.hid hr
  have HSEG := Lib.hid hseg
  have HITS := Lib.hid (rstarts_any A ns c xs w hl hseg hx h6)
  have hxl := Its.len hx
  have HLT := Lib.hid (Its.lt hx)
  clear hr hseg hx h6
  have HL := Lib.hid (rfl : ns.length = ns.length)
  generalize hlen : ns.length = len at hl HITS HL hxl HLT ⊢
  clear HL
  have HL := Lib.hid hlen
  clear hlen
  go_enter Tryz.func97, Tryz.ntmps97
  go_wp2_with fail
  refine HITS.out.mono ?_
  rintro e w1 ⟨v, rfl, ho, hb1⟩
  obtain ⟨A', c', rfl⟩ := made_len ho
  have HO := Lib.hid ho
  have HB1 := Lib.hid hb1
  clear ho hb1
  go_wp2_with fail
  go_loopw [4, 5, 7] (fun h d i wr => ∃ (k : Nat) (s : Int × Int), k ≤ xs.length ∧ i = .int .i64 k ∧ h = .int .i64 s.1 ∧ d = .int .i64 s.2 ∧ cfold ns (xs.drop k) s = cfold ns xs (0, 0) ∧ Below w1.heap.size w1 wr) (fun _ _ i _ => xs.length - (intOf i).toNat)
  case atStart => exact ⟨0, (0, 0), by omega, rfl, rfl, rfl, rfl, Below.refl _ _⟩
  case round =>
    obtain ⟨k, s, hk, rfl, rfl, rfl, hfo, hlow⟩ := hrel
    by_cases hlt : k < xs.length
    · obtain ⟨x, hx, hxd⟩ : ∃ x, xs[k]? = some x ∧ xs.drop k = x :: xs.drop (k + 1) := ⟨xs[k], List.getElem?_eq_getElem hlt, List.drop_eq_getElem_cons hlt⟩
      have hxm : x ∈ xs := List.mem_of_getElem? hx
      have hxl2 := (HLT.out x hxm).2
      obtain ⟨n, hn, hnd⟩ := get_drop (l := ns) (k := x) (by rw [HL.out]; omega)
      have HRN := Lib.hid (HRT.out n (List.mem_of_getElem? hn))
      have HNN := Lib.hid hn
      obtain ⟨b, off, rfl, hb, hnode⟩ := seg_node HSEG.out hn
      have HLW := Lib.hid (andThen HB1.out hlow)
      have hnr : NodeAt wr b (off + x * 19) n := hnode.below HLW.out hb
      have hld0 : (ldN ⟨b, off + x * 19, none⟩).run Tryz.prog wr = .ok (.agg (nc n)) wr := run_ldN hnr
      rw [hxd] at hfo
      have HFO := Lib.hid (show cfold ns (xs.drop (k + 1)) (cstep s n) = cfold ns xs (0, 0) by simpa [cfold, hn] using hfo)
      obtain ⟨g, rfl, hg⟩ : ∃ g, A' = some ⟨g, 0, none⟩ ∧ g < w1.heap.size := by
        rcases id HO.out.2 with ⟨_, h5⟩ | ⟨g, _, _, h5, _, h6, _⟩
        · omega
        · simp at h5
          exact ⟨g, h5.1, (Array.getElem?_eq_some_iff.1 h6).1⟩
      have hxc : wr.cell? ⟨g, k, none⟩ = some (.int .i64 x) := by
        rw [hlow.cell (p := ⟨g, k, none⟩) hg, World.ownsRow.cellAt HO.out k (by omega), List.getElem?_map, hx]
        rfl
      have hgl : g < wr.heap.size := Nat.lt_of_lt_of_le hg hlow.size
      clear hn hnd hx hnode hxd hfo hnr
      by_cases hk5 : n.kind = 3 ∨ n.kind = 4 ∨ n.kind = 5
      · rcases hk5 with hk | hk | hk
        · have e3 : (n.kind == 3) = true := by simp [hk]
          have HST := Lib.hid (show cstep s n = (max s.1 n.wd, n.dp) by unfold cstep; rw [if_pos (by omega)])
          clear hk
          go_wp2_with (first | (with_reducible show wpList _ _ _ _ _ _; refine wpList_alloc_node rfl rfl ?_) | (with_reducible show wpList _ _ _ _ _ _; refine wpList_store_node rfl _ _ rfl _ _ _ rfl rfl _ (by repeat (first | (apply Blk.new'; first | rfl | (simp; done)) | assumption | apply Blk.alloc)) ?_))
          go_roundw
          case rel => exact ⟨k + 1, (max s.1 n.wd, n.dp), by omega, by go_num, rfl, rfl, by have hf := HFO.out; rw [HST.out] at hf; exact hf, by repeat (first | exact hlow | refine below_drewN ?_ _ | refine andAlloc ?_ _)⟩
          case measure => simp [intOf]; omega
        · have e3 : (n.kind == 3) = false := by simp [hk]
          have e4 : (n.kind == 4) = true := by simp [hk]
          have HST := Lib.hid (show cstep s n = (max s.1 (n.wd + n.shift), n.dp) by unfold cstep; rw [if_neg (by omega), if_pos (by omega)])
          have hd := right_wd HRN.out (by omega)
          unfold dm at hd
          have hsh := box_shift HRN.out (by omega)
          have hw1 : IntKind.i64.wrap (n.wd + n.shift) = n.wd + n.shift := IntWalk.i64_in _ (by omega)
          clear hd hsh
          clear hk
          go_wp2_with (first | (with_reducible show wpList _ _ _ _ _ _; refine wpList_alloc_node rfl rfl ?_) | (with_reducible show wpList _ _ _ _ _ _; refine wpList_store_node rfl _ _ rfl _ _ _ rfl rfl _ (by repeat (first | (apply Blk.new'; first | rfl | (simp; done)) | assumption | apply Blk.alloc)) ?_))
          go_roundw
          case rel => exact ⟨k + 1, (max s.1 (n.wd + n.shift), n.dp), by omega, by go_num, rfl, rfl, by have hf := HFO.out; rw [HST.out] at hf; exact hf, by repeat (first | exact hlow | refine below_drewN ?_ _ | refine andAlloc ?_ _)⟩
          case measure => simp [intOf]; omega
        · have e3 : (n.kind == 3) = false := by simp [hk]
          have e4 : (n.kind == 4) = false := by simp [hk]
          have e5 : (n.kind == 5) = true := by simp [hk]
          have HST := Lib.hid (show cstep s n = (max s.1 (n.wd + n.shift), n.dp) by unfold cstep; rw [if_neg (by omega), if_pos (by omega)])
          have hd := right_wd HRN.out (by omega)
          unfold dm at hd
          have hsh := box_shift HRN.out (by omega)
          have hw1 : IntKind.i64.wrap (n.wd + n.shift) = n.wd + n.shift := IntWalk.i64_in _ (by omega)
          clear hd hsh
          clear hk
          go_wp2_with (first | (with_reducible show wpList _ _ _ _ _ _; refine wpList_alloc_node rfl rfl ?_) | (with_reducible show wpList _ _ _ _ _ _; refine wpList_store_node rfl _ _ rfl _ _ _ rfl rfl _ (by repeat (first | (apply Blk.new'; first | rfl | (simp; done)) | assumption | apply Blk.alloc)) ?_))
          go_roundw
          case rel => exact ⟨k + 1, (max s.1 (n.wd + n.shift), n.dp), by omega, by go_num, rfl, rfl, by have hf := HFO.out; rw [HST.out] at hf; exact hf, by repeat (first | exact hlow | refine below_drewN ?_ _ | refine andAlloc ?_ _)⟩
          case measure => simp [intOf]; omega
      · have e3 : (n.kind == 3) = false := by simp; omega
        have e4 : (n.kind == 4) = false := by simp; omega
        have e5 : (n.kind == 5) = false := by simp; omega
        have HST := Lib.hid (show cstep s n = (s.1, 0) by unfold cstep; rw [if_neg (by omega), if_neg (by omega)])
        clear hk5
        go_wp2_with (first | (with_reducible show wpList _ _ _ _ _ _; refine wpList_alloc_node rfl rfl ?_) | (with_reducible show wpList _ _ _ _ _ _; refine wpList_store_node rfl _ _ rfl _ _ _ rfl rfl _ (by repeat (first | (apply Blk.new'; first | rfl | (simp; done)) | assumption | apply Blk.alloc)) ?_))
        go_roundw
        case rel => exact ⟨k + 1, (s.1, 0), by omega, by go_num, rfl, rfl, by have hf := HFO.out; rw [HST.out] at hf; exact hf, by repeat (first | exact hlow | refine below_drewN ?_ _ | refine andAlloc ?_ _)⟩
        case measure => simp [intOf]; omega
    · obtain rfl : k = xs.length := by omega
      rw [List.drop_of_length_le (Nat.le_refl _)] at hfo
      have hfo : s = cfold ns xs (0, 0) := hfo
      subst hfo
      have HLW := Lib.hid (andThen HB1.out hlow)
      go_wp2_with fail
      go_ret2
      exact ⟨rfl, HLW.out⟩
end Go.Proofs.YtoboecenlangmaaGreat.No
end
section
namespace Go.Proofs.YtoboecenlangmaaGreat.No
open Go.ChangeShapes Go.WideShapes Go.ChangeAt Go.RowKit
open Me Np
set_option linter.unusedVariables false
set_option linter.unusedSimpArgs false

theorem rrow_any (A : Option Addr) (ns : List Nd) (c : Nat) (xs : List Nat) (w : World) (hc : chk ns = 0) (hcap : ns.length ≤ c) (hseg : Seg w w.heap.size A (ns.flatMap ncs)) (hx : Its xs ns 0) :
    Calls Tryz.prog 96 #[.slice A ns.length c] w fun e w' => e = .returned (.tuple #[.int .i64 (rowD ns xs).1, .int .i64 (rowD ns xs).2]) ∧ Below w.heap.size w w' := by
  have hl := (chk_run hc).1
  have hr := chk_right hc
  refine rrow_of A ns c xs (roD ns) w hl hseg hx hr (fun x hm n hn => by
    obtain ⟨n', hn', h6, _⟩ := its_beg hc hx x hm
    rw [hn] at hn'
    injection hn' with e
    rw [e]
    exact h6) (fun k _ => roD_rv hr k) ?_ ?_
  · intro k hk n hn h10
    exact roD_of ⟨n, hn, by rw [if_neg h10]⟩
  · intro k hk n hn h10 w1 hb1
    obtain ⟨m, hm⟩ := item_ends hc hn (by omega) (by omega)
    obtain ⟨hm2, ss, hss⟩ := disc_steps hc hn h10 hm
    obtain ⟨xs', hxs, hsm⟩ := thr_its 2 0 hss
    have hv : RoV ns k (rfold (ra0 (thr ss (ns.drop (k + 1)) 0 2)) xs' (0, 0)) := ⟨n, hn, by rw [if_pos h10]; exact ⟨ss, m - 2, xs', hss, hxs, rfl⟩⟩
    rw [roD_of hv]
    have hr3 : ∀ y ∈ thr ss (ns.drop (k + 1)) 0 2, right y = true := fun y hy => hr y (List.mem_of_mem_drop (thr_mem y hy))
    have hlen : (thr ss (ns.drop (k + 1)) 0 2).length ≤ 2000 := by
      have h1 := thr_len (j := 2) hss
      have h2 := hss.le
      rw [List.length_drop] at h2
      omega
    refine (rthree_any A ns c k m ss n w1 hc hcap (Seg.belowW hseg hb1) hn hm hss hm2 h10).mono ?_
    rintro e w2 ⟨vs, rfl, ho, hb2⟩
    obtain ⟨A2, c2, h2, hc2, _, hs2⟩ := Seg.of_own (ho.own 2 (by omega))
    refine ⟨vs, A2, c2, _, rfl, h2, hb2, ?_⟩
    have hsm' : ∀ x ∈ xs', ∀ y, (thr ss (ns.drop (k + 1)) 0 2)[x]? = some y → smallB y = true := fun x hx' y hy => by
      obtain ⟨y', hy', hs⟩ := hsm x hx'
      rw [Nat.sub_zero, hy] at hy'
      injection hy' with e
      rw [e]
      exact hs
    refine rrow_of A2 (thr ss (ns.drop (k + 1)) 0 2) c2 xs' (ra0 (thr ss (ns.drop (k + 1)) 0 2)) w2 hlen hs2 hxs hr3 (fun x hx' y hy h => by have := hsm' x hx' y hy; simp [smallB, h] at this) (fun x _ => ra0_rv hr3 x) (fun x hx' y hy _ => by simp [ra0, hy]) (fun x hx' y hy h => ?_)
    have := hsm' x hx' y hy
    simp [smallB, h] at this
set_option maxHeartbeats 1000000 in
set_option maxRecDepth 100000 in
theorem rextent_bad (A : Option Addr) (ns : List Nd) (c : Nat) (down : Bool) (w : World) (hl : ns.length ≤ 9223372036854775806) (hseg : Seg w w.heap.size A (ns.flatMap ncs)) (hc : ¬ chk ns = 0) :
    Calls Tryz.prog 51 #[.slice A ns.length c, .bool down] w fun e w' => e = .returned (.tuple #[.int .i64 0, .int .i64 0, .int .i64 (chk ns)]) ∧ Below w.heap.size w w' := by
  have HC := Lib.hid (rcheckl_any A ns c w (by omega) hseg)
  have e0 : (chk ns != 0) = true := by simp [hc]
  clear hseg hc
  generalize chk ns = v at *
  generalize ns.length = len at *
  go_enter Tryz.func51, Tryz.ntmps51
  go_wp2_with fail
  refine HC.out.mono ?_
  rintro e w1 ⟨rfl, hb1⟩
  go_wp2_with fail
  go_ret3
  exact ⟨rfl, hb1⟩
set_option maxHeartbeats 1000000 in
set_option maxRecDepth 100000 in
theorem rextent_good (A : Option Addr) (ns : List Nd) (c : Nat) (xs : List Nat) (down : Bool) (w : World) (hc : chk ns = 0) (hcap : ns.length ≤ c) (hseg : Seg w w.heap.size A (ns.flatMap ncs)) (hx : Its xs ns 0) :
    Calls Tryz.prog 51 #[.slice A ns.length c, .bool down] w fun e w' => e = .returned (extV (extD ns down xs)) ∧ Below w.heap.size w w' := by
  have hl := (chk_run hc).1
  have hr := chk_right hc
  have h6 : ∀ x ∈ xs, ∀ n, ns[x]? = some n → ¬ n.kind = 6 := fun x hm n hn => by
    obtain ⟨n', hn', h6, _⟩ := its_beg hc hx x hm
    rw [hn] at hn'
    injection hn' with e
    rw [e]
    exact h6
  have HC := Lib.hid (rcheckl_any A ns c w (by omega) hseg)
  have HR := Lib.hid fun w1 (h : Below w.heap.size w w1) => rrow_any A ns c xs w1 hc hcap (Seg.belowW hseg h) hx
  have HCO := Lib.hid fun w1 (h : Below w.heap.size w w1) => rcolumn_of A ns c xs w1 hl (Seg.belowW hseg h) hx hr h6
  rw [hc] at HC
  have HE0 := Lib.hid (show down = false → extD ns down xs = rowD ns xs from fun h => by rw [h]; rfl)
  have HE1 := Lib.hid (show down = true → extD ns down xs = cfold ns xs (0, 0) from fun h => by rw [h]; rfl)
  generalize extD ns down xs = E at *
  clear hseg hc hx hr hcap h6
  generalize hQ : cfold ns xs (0, 0) = Q at *
  generalize hP0 : rowD ns xs = P0 at *
  clear hQ hP0
  generalize ns.length = len at *
  go_enter Tryz.func51, Tryz.ntmps51
  go_wp2_with fail
  refine HC.out.mono ?_
  rintro e w1 ⟨rfl, hb1⟩
  go_wp2_with fail
  refine (HR.out _ hb1).mono ?_
  rintro e w2 ⟨rfl, hb2⟩
  have hb12 := andThen hb1 hb2
  cases down
  · have HLX := Lib.hid hb12
    clear hb1 hb2 hb12
    have hE := HE0.out (by first | rfl | trivial)
    clear HE0 HE1
    subst hE
    cases hDa : dimB E.1
    · have HDa := Lib.hid hDa
      clear hDa
      go_wp2_with (go_at_call 95; refine (rdimen_any _ _).mono ?_; rintro e w' ⟨rfl, rfl⟩; simp only [HDa.out])
      go_ret3
      exact ⟨ext_no (by rw [HDa.out]; rfl), HLX.out⟩
    · have HDa := Lib.hid hDa
      clear hDa
      cases hDb : dimB E.2
      all_goals
        have HDb := Lib.hid hDb
        clear hDb
        go_wp2_with (first | (go_at_call 95; (with_reducible refine (rdimen_any E.1 _).mono ?_); rintro e w' ⟨rfl, rfl⟩; simp only [HDa.out]) | (go_at_call 95; (with_reducible refine (rdimen_any E.2 _).mono ?_); rintro e w' ⟨rfl, rfl⟩; simp only [HDb.out]))
        go_ret3
        exact ⟨by first | exact ext_no (by rw [HDa.out, HDb.out]; rfl) | exact ext_yes (by rw [HDa.out, HDb.out]; rfl), HLX.out⟩
  · go_wp2_with fail
    refine (HCO.out _ hb12).mono ?_
    rintro e w3 ⟨rfl, hb3⟩
    have HLX := Lib.hid (andThen hb12 hb3)
    clear hb1 hb2 hb12 hb3
    have hE := HE1.out (by first | rfl | trivial)
    clear HE0 HE1
    subst hE
    cases hDa : dimB E.1
    · have HDa := Lib.hid hDa
      clear hDa
      go_wp2_with (go_at_call 95; refine (rdimen_any _ _).mono ?_; rintro e w' ⟨rfl, rfl⟩; simp only [HDa.out])
      go_ret3
      exact ⟨ext_no (by rw [HDa.out]; rfl), HLX.out⟩
    · have HDa := Lib.hid hDa
      clear hDa
      cases hDb : dimB E.2
      all_goals
        have HDb := Lib.hid hDb
        clear hDb
        go_wp2_with (first | (go_at_call 95; (with_reducible refine (rdimen_any E.1 _).mono ?_); rintro e w' ⟨rfl, rfl⟩; simp only [HDa.out]) | (go_at_call 95; (with_reducible refine (rdimen_any E.2 _).mono ?_); rintro e w' ⟨rfl, rfl⟩; simp only [HDb.out]))
        go_ret3
        exact ⟨by first | exact ext_no (by rw [HDa.out, HDb.out]; rfl) | exact ext_yes (by rw [HDa.out, HDb.out]; rfl), HLX.out⟩
end Go.Proofs.YtoboecenlangmaaGreat.No
end
section
namespace Go.Proofs.YtoboecenlangmaaGreat.No
open Go.ChangeShapes Go.WideShapes Go.ChangeAt Go.RowKit
open Me Np
set_option linter.unusedVariables false
set_option linter.unusedSimpArgs false

attribute [local go_sem ↓] ldN_eq bldN_eq
set_option maxHeartbeats 2000000 in
set_option maxRecDepth 100000 in
theorem wrap_r (n : Nd) (A : Option Addr) (l : List Nd) (c : Nat) (w : World) (hr : right n = false) :
    Calls Tryz.prog 88 #[.agg (nc n), .slice A l.length c] w fun e w' => e = .returned (.tuple #[.slice none 0 0, .int .i64 1]) ∧ Below w.heap.size w w' := by
  have HR := Lib.hid hr
  clear hr
  generalize l.length = len at *
  go_enter Tryz.func88, Tryz.ntmps88
  go_wp2_with fail
  refine (kinds_any _).mono ?_
  rintro e w1 ⟨rfl, hq, hz1, hb1⟩
  have HQ := Lib.hid hq
  have HZ1 := Lib.hid hz1
  have hn1 : NodeAt w1 w.heap.size 0 n := NodeAt.below (Blk.node (Blk.new' rfl)) hb1 (by simp)
  have hl1 : Below w.heap.size w w1 := andThen (andAlloc (Below.refl _ _) _) hb1
  clear hq hz1 hb1
  have hld1 : ∀ o : Obj, (ldN ⟨w.heap.size, 0, none⟩).run Tryz.prog (w1.alloc o) = .ok (.agg (nc n)) (w1.alloc o) := fun o => run_ldN (hn1.alloc o)
  go_wp2_with (first
    | (refine wpList_store_row rfl 168 _ _ rfl w1.heap.size (ktab (w.heap.size + 1 + 1)) rfl rfl 168 Tryz.zeroCells168 (Blk.new' rfl) (by rw [ktab_size]; exact kinds_info) (by rw [ktab_size]; exact zero_size) (ktab_one _) ?_)
    | fail)
  have hq2 : (w1.alloc (.cells (ktab (w.heap.size + 1 + 1)) 168)).cell? ⟨w.heap.size + 1 + 1, 0, none⟩ = some (.func (.func 125) #[] #[]) := by
    have h1 := HQ.out
    have h2 := HZ1.out
    simp at h1 h2
    exact (World.cell?_alloc_past (w := w1) _ _ _ (by omega)).trans h1
  have hw2 := andAlloc hl1 (.cells (ktab (w.heap.size + 1 + 1)) 168)
  have hn2 := hn1.alloc (.cells (ktab (w.heap.size + 1 + 1)) 168)
  refine (right_any n w1.heap.size (w.heap.size + 1 + 1) _ (Blk.new' rfl) hq2).mono ?_
  rintro e w2 ⟨rfl, hb2⟩
  have hl2 := andThen hw2 hb2
  have hn2' := hn2.below hb2 hn2.lt
  have hc2 : w2.cell? ⟨w.heap.size, 0, none⟩ = some (.int .i64 n.kind) := hn2' 0 _ rfl
  have hz2 := hn2'.lt
  rw [HR.out]
  clear hq2 hw2 hn2 hb2 hn1 hl1 HQ HZ1 hld1
  go_wp2_with fail
  go_ret2
  exact ⟨rfl, hl2⟩
set_option maxHeartbeats 2000000 in
set_option maxRecDepth 100000 in
theorem wrap_o (n : Nd) (A : Option Addr) (l : List Nd) (c : Nat) (w : World) (hr : right n = true) (ho : opensB n = false) :
    Calls Tryz.prog 88 #[.agg (nc n), .slice A l.length c] w fun e w' => e = .returned (.tuple #[.slice none 0 0, .int .i64 1]) ∧ Below w.heap.size w w' := by
  have HR := Lib.hid hr
  have HO := Lib.hid ho
  clear hr ho
  generalize l.length = len at *
  go_enter Tryz.func88, Tryz.ntmps88
  go_wp2_with fail
  refine (kinds_any _).mono ?_
  rintro e w1 ⟨rfl, hq, hz1, hb1⟩
  have HQ := Lib.hid hq
  have HZ1 := Lib.hid hz1
  have hn1 : NodeAt w1 w.heap.size 0 n := NodeAt.below (Blk.node (Blk.new' rfl)) hb1 (by simp)
  have hl1 : Below w.heap.size w w1 := andThen (andAlloc (Below.refl _ _) _) hb1
  clear hq hz1 hb1
  have hld1 : ∀ o : Obj, (ldN ⟨w.heap.size, 0, none⟩).run Tryz.prog (w1.alloc o) = .ok (.agg (nc n)) (w1.alloc o) := fun o => run_ldN (hn1.alloc o)
  go_wp2_with (first
    | (refine wpList_store_row rfl 168 _ _ rfl w1.heap.size (ktab (w.heap.size + 1 + 1)) rfl rfl 168 Tryz.zeroCells168 (Blk.new' rfl) (by rw [ktab_size]; exact kinds_info) (by rw [ktab_size]; exact zero_size) (ktab_one _) ?_)
    | fail)
  have hq2 : (w1.alloc (.cells (ktab (w.heap.size + 1 + 1)) 168)).cell? ⟨w.heap.size + 1 + 1, 0, none⟩ = some (.func (.func 125) #[] #[]) := by
    have h1 := HQ.out
    have h2 := HZ1.out
    simp at h1 h2
    exact (World.cell?_alloc_past (w := w1) _ _ _ (by omega)).trans h1
  have hw2 := andAlloc hl1 (.cells (ktab (w.heap.size + 1 + 1)) 168)
  have hn2 := hn1.alloc (.cells (ktab (w.heap.size + 1 + 1)) 168)
  refine (right_any n w1.heap.size (w.heap.size + 1 + 1) _ (Blk.new' rfl) hq2).mono ?_
  rintro e w2 ⟨rfl, hb2⟩
  have hl2 := andThen hw2 hb2
  have hn2' := hn2.below hb2 hn2.lt
  have hc2 : w2.cell? ⟨w.heap.size, 0, none⟩ = some (.int .i64 n.kind) := hn2' 0 _ rfl
  have hz2 := hn2'.lt
  rw [HR.out]
  have hld2 : (ldN ⟨w.heap.size, 0, none⟩).run Tryz.prog w2 = .ok (.agg (nc n)) w2 := run_ldN hn2'
  have hld3 : ∀ o : Obj, (ldN ⟨w.heap.size, 0, none⟩).run Tryz.prog (w2.alloc o) = .ok (.agg (nc n)) (w2.alloc o) := fun o => run_ldN (hn2'.alloc o)
  clear hq2 hw2 hn2 hb2 hn1 hl1 HQ HZ1 hld1
  go_wp2_with (first
    | (go_at_call 79; (with_reducible refine (opens_any _ _).mono ?_); rintro e w' ⟨rfl, rfl⟩; simp only [HO.out]))
  go_ret2
  exact ⟨rfl, andAlloc hl2 _⟩
set_option maxHeartbeats 2000000 in
set_option maxRecDepth 100000 in
theorem wrap_d (n : Nd) (A : Option Addr) (l : List Nd) (c : Nat) (w : World) (hr : right n = true) (ho : opensB n = true) (h10 : n.kind = 10) :
    Calls Tryz.prog 88 #[.agg (nc n), .slice A l.length c] w fun e w' => e = .returned (.tuple #[.slice none 0 0, .int .i64 1]) ∧ Below w.heap.size w w' := by
  have HR := Lib.hid hr
  have HO := Lib.hid ho
  have e10 : (n.kind == 10) = true := by simp [h10]
  clear hr ho h10
  generalize l.length = len at *
  go_enter Tryz.func88, Tryz.ntmps88
  go_wp2_with fail
  refine (kinds_any _).mono ?_
  rintro e w1 ⟨rfl, hq, hz1, hb1⟩
  have HQ := Lib.hid hq
  have HZ1 := Lib.hid hz1
  have hn1 : NodeAt w1 w.heap.size 0 n := NodeAt.below (Blk.node (Blk.new' rfl)) hb1 (by simp)
  have hl1 : Below w.heap.size w w1 := andThen (andAlloc (Below.refl _ _) _) hb1
  clear hq hz1 hb1
  have hld1 : ∀ o : Obj, (ldN ⟨w.heap.size, 0, none⟩).run Tryz.prog (w1.alloc o) = .ok (.agg (nc n)) (w1.alloc o) := fun o => run_ldN (hn1.alloc o)
  go_wp2_with (first
    | (refine wpList_store_row rfl 168 _ _ rfl w1.heap.size (ktab (w.heap.size + 1 + 1)) rfl rfl 168 Tryz.zeroCells168 (Blk.new' rfl) (by rw [ktab_size]; exact kinds_info) (by rw [ktab_size]; exact zero_size) (ktab_one _) ?_)
    | fail)
  have hq2 : (w1.alloc (.cells (ktab (w.heap.size + 1 + 1)) 168)).cell? ⟨w.heap.size + 1 + 1, 0, none⟩ = some (.func (.func 125) #[] #[]) := by
    have h1 := HQ.out
    have h2 := HZ1.out
    simp at h1 h2
    exact (World.cell?_alloc_past (w := w1) _ _ _ (by omega)).trans h1
  have hw2 := andAlloc hl1 (.cells (ktab (w.heap.size + 1 + 1)) 168)
  have hn2 := hn1.alloc (.cells (ktab (w.heap.size + 1 + 1)) 168)
  refine (right_any n w1.heap.size (w.heap.size + 1 + 1) _ (Blk.new' rfl) hq2).mono ?_
  rintro e w2 ⟨rfl, hb2⟩
  have hl2 := andThen hw2 hb2
  have hn2' := hn2.below hb2 hn2.lt
  have hc2 : w2.cell? ⟨w.heap.size, 0, none⟩ = some (.int .i64 n.kind) := hn2' 0 _ rfl
  have hz2 := hn2'.lt
  rw [HR.out]
  have hld2 : (ldN ⟨w.heap.size, 0, none⟩).run Tryz.prog w2 = .ok (.agg (nc n)) w2 := run_ldN hn2'
  have hld3 : ∀ o : Obj, (ldN ⟨w.heap.size, 0, none⟩).run Tryz.prog (w2.alloc o) = .ok (.agg (nc n)) (w2.alloc o) := fun o => run_ldN (hn2'.alloc o)
  clear hq2 hw2 hn2 hb2 hn1 hl1 HQ HZ1 hld1
  go_wp2_with (first
    | (go_at_call 79; (with_reducible refine (opens_any _ _).mono ?_); rintro e w' ⟨rfl, rfl⟩; simp only [HO.out]))
  go_ret2
  exact ⟨rfl, andAlloc hl2 _⟩
set_option maxHeartbeats 2000000 in
set_option maxRecDepth 100000 in
theorem wrap_c (n : Nd) (A : Option Addr) (l : List Nd) (c : Nat) (w : World) (hl : l.length ≤ 9223372036854775806) (hseg : Seg w w.heap.size A (l.flatMap ncs)) (hr : right n = true) (ho : opensB n = true) (h10 : ¬ n.kind = 10) (hc : ¬ chk l = 0) :
    Calls Tryz.prog 88 #[.agg (nc n), .slice A l.length c] w fun e w' => e = .returned (.tuple #[.slice none 0 0, .int .i64 (chk l)]) ∧ Below w.heap.size w w' := by
  have e10 : (n.kind == 10) = false := by simp [h10]
  have HO := Lib.hid ho
  have HR := Lib.hid hr
  have HC := Lib.hid fun w1 (h : Below w.heap.size w w1) => check_any A l c w1 (by omega) (Seg.belowW hseg h)
  have e0 : (chk l != 0) = true := by simp [hc]
  clear hc ho hr hseg h10
  generalize chk l = q0 at *
  generalize l.length = len at *
  go_enter Tryz.func88, Tryz.ntmps88
  go_wp2_with fail
  refine (kinds_any _).mono ?_
  rintro e w1 ⟨rfl, hq, hz1, hb1⟩
  have HQ := Lib.hid hq
  have HZ1 := Lib.hid hz1
  have hn1 : NodeAt w1 w.heap.size 0 n := NodeAt.below (Blk.node (Blk.new' rfl)) hb1 (by simp)
  have hl1 : Below w.heap.size w w1 := andThen (andAlloc (Below.refl _ _) _) hb1
  clear hq hz1 hb1
  have hld1 : ∀ o : Obj, (ldN ⟨w.heap.size, 0, none⟩).run Tryz.prog (w1.alloc o) = .ok (.agg (nc n)) (w1.alloc o) := fun o => run_ldN (hn1.alloc o)
  go_wp2_with (first
    | (refine wpList_store_row rfl 168 _ _ rfl w1.heap.size (ktab (w.heap.size + 1 + 1)) rfl rfl 168 Tryz.zeroCells168 (Blk.new' rfl) (by rw [ktab_size]; exact kinds_info) (by rw [ktab_size]; exact zero_size) (ktab_one _) ?_)
    | fail)
  have hq2 : (w1.alloc (.cells (ktab (w.heap.size + 1 + 1)) 168)).cell? ⟨w.heap.size + 1 + 1, 0, none⟩ = some (.func (.func 125) #[] #[]) := by
    have h1 := HQ.out
    have h2 := HZ1.out
    simp at h1 h2
    exact (World.cell?_alloc_past (w := w1) _ _ _ (by omega)).trans h1
  have hw2 := andAlloc hl1 (.cells (ktab (w.heap.size + 1 + 1)) 168)
  have hn2 := hn1.alloc (.cells (ktab (w.heap.size + 1 + 1)) 168)
  refine (right_any n w1.heap.size (w.heap.size + 1 + 1) _ (Blk.new' rfl) hq2).mono ?_
  rintro e w2 ⟨rfl, hb2⟩
  have hl2 := andThen hw2 hb2
  have hn2' := hn2.below hb2 hn2.lt
  have hc2 : w2.cell? ⟨w.heap.size, 0, none⟩ = some (.int .i64 n.kind) := hn2' 0 _ rfl
  have hz2 := hn2'.lt
  rw [HR.out]
  have hld2 : (ldN ⟨w.heap.size, 0, none⟩).run Tryz.prog w2 = .ok (.agg (nc n)) w2 := run_ldN hn2'
  have hld3 : ∀ o : Obj, (ldN ⟨w.heap.size, 0, none⟩).run Tryz.prog (w2.alloc o) = .ok (.agg (nc n)) (w2.alloc o) := fun o => run_ldN (hn2'.alloc o)
  clear hq2 hw2 hn2 hb2 hn1 hl1 HQ HZ1 hld1
  go_wp2_with (first
    | (go_at_call 79; (with_reducible refine (opens_any _ _).mono ?_); rintro e w' ⟨rfl, rfl⟩; simp only [HO.out]))
  have hl3 := andAlloc hl2 (.cells (nc n) 101)
  have hn3 := hn2'.alloc (.cells (nc n) 101)
  refine (HC.out _ hl3).mono ?_
  rintro e w3 ⟨rfl, hb3⟩
  have HL3 := Lib.hid (andThen hl3 hb3)
  clear hl2 hn2' hc2 hz2 hld2 hld3 hl3 hn3 hb3 HC
  go_wp2_with fail
  go_ret2
  exact ⟨rfl, HL3.out⟩
set_option maxHeartbeats 2000000 in
set_option maxRecDepth 100000 in
theorem wrap_w (n : Nd) (A : Option Addr) (l : List Nd) (c : Nat) (w : World) (hsrc : Src w A c l) (hr : right n = true) (ho : opensB n = true) (h10 : ¬ n.kind = 10) (hc : chk l = 0) (hw : ¬ chk (wrapL n l) = 0) :
    Calls Tryz.prog 88 #[.agg (nc n), .slice A l.length c] w fun e w' => e = .returned (.tuple #[.slice none 0 0, .int .i64 (chk (wrapL n l))]) ∧ Below w.heap.size w w' := by
  have hl := (chk_run hc).1
  have e10 : (n.kind == 10) = false := by simp [h10]
  have HO := Lib.hid ho
  have HR := Lib.hid hr
  have HC := Lib.hid fun w1 (h : Below w.heap.size w w1) => check_any A l c w1 (by omega) (Src.below hsrc h).seg
  have HE := Lib.hid hc
  have HS := Lib.hid hsrc
  have e0 : (chk (wrapL n l) != 0) = true := by simp [hw]
  generalize hqw : chk (wrapL n l) = q0 at *
  have HQW := Lib.hid hqw
  rw [HE.out] at HC
  clear hc ho hr hsrc hw h10 hqw
  go_enter Tryz.func88, Tryz.ntmps88
  go_wp2_with fail
  refine (kinds_any _).mono ?_
  rintro e w1 ⟨rfl, hq, hz1, hb1⟩
  have HQ := Lib.hid hq
  have HZ1 := Lib.hid hz1
  have hn1 : NodeAt w1 w.heap.size 0 n := NodeAt.below (Blk.node (Blk.new' rfl)) hb1 (by simp)
  have hl1 : Below w.heap.size w w1 := andThen (andAlloc (Below.refl _ _) _) hb1
  clear hq hz1 hb1
  have hld1 : ∀ o : Obj, (ldN ⟨w.heap.size, 0, none⟩).run Tryz.prog (w1.alloc o) = .ok (.agg (nc n)) (w1.alloc o) := fun o => run_ldN (hn1.alloc o)
  go_wp2_with (first
    | (refine wpList_store_row rfl 168 _ _ rfl w1.heap.size (ktab (w.heap.size + 1 + 1)) rfl rfl 168 Tryz.zeroCells168 (Blk.new' rfl) (by rw [ktab_size]; exact kinds_info) (by rw [ktab_size]; exact zero_size) (ktab_one _) ?_)
    | fail)
  have hq2 : (w1.alloc (.cells (ktab (w.heap.size + 1 + 1)) 168)).cell? ⟨w.heap.size + 1 + 1, 0, none⟩ = some (.func (.func 125) #[] #[]) := by
    have h1 := HQ.out
    have h2 := HZ1.out
    simp at h1 h2
    exact (World.cell?_alloc_past (w := w1) _ _ _ (by omega)).trans h1
  have hw2 := andAlloc hl1 (.cells (ktab (w.heap.size + 1 + 1)) 168)
  have hn2 := hn1.alloc (.cells (ktab (w.heap.size + 1 + 1)) 168)
  refine (right_any n w1.heap.size (w.heap.size + 1 + 1) _ (Blk.new' rfl) hq2).mono ?_
  rintro e w2 ⟨rfl, hb2⟩
  have hl2 := andThen hw2 hb2
  have hn2' := hn2.below hb2 hn2.lt
  have hc2 : w2.cell? ⟨w.heap.size, 0, none⟩ = some (.int .i64 n.kind) := hn2' 0 _ rfl
  have hz2 := hn2'.lt
  rw [HR.out]
  have hld2 : (ldN ⟨w.heap.size, 0, none⟩).run Tryz.prog w2 = .ok (.agg (nc n)) w2 := run_ldN hn2'
  have hld3 : ∀ o : Obj, (ldN ⟨w.heap.size, 0, none⟩).run Tryz.prog (w2.alloc o) = .ok (.agg (nc n)) (w2.alloc o) := fun o => run_ldN (hn2'.alloc o)
  clear hq2 hw2 hn2 hb2 hn1 hl1 HQ HZ1 hld1
  go_wp2_with (first
    | (go_at_call 79; (with_reducible refine (opens_any _ _).mono ?_); rintro e w' ⟨rfl, rfl⟩; simp only [HO.out]))
  have hl3 := andAlloc hl2 (.cells (nc n) 101)
  have hn3 := hn2'.alloc (.cells (nc n) 101)
  refine (HC.out _ hl3).mono ?_
  rintro e w3 ⟨rfl, hb3⟩
  have HL3 := Lib.hid (andThen hl3 hb3)
  have hn4 := hn3.below hb3 hn3.lt
  have hld4 : (ldN ⟨w.heap.size, 0, none⟩).run Tryz.prog w3 = .ok (.agg (nc n)) w3 := run_ldN hn4
  have hb6 := run_bldN 6
  have HSR := Lib.hid (fun (W : World) (h : Below w.heap.size w W) => Src.below HS.out h)
  have HO1 := Lib.hid (own_one w3 n)
  have HLA := Lib.hid (andAlloc HL3.out (.cells (nc n) 101))
  clear hl2 hn2' hc2 hz2 hld2 hld3 hl3 hn3 hb3 hn4 HC
  go_wp2_with (first
    | (refine wpList_ex (o := ⟨some 30, _, _, _, _, _⟩) (v := .slice (some ⟨w3.heap.size, 0, none⟩) 1 1) (w' := w3.alloc (.cells (nc n) 101)) rfl (by kernel_rfl) ?_)
    | (at_builtin; refine wpList_append_nodes rfl (.tmp 30) (.tmp 31) rfl w3.heap.size ?_ _ 1 _ rfl HO1.out A c l rfl (HSR.out _ HLA.out) ?_ ?_; simp; omega; intro v1 W1 hown1 hg1; have hlw1 : Below w.heap.size w W1 := below_grown (Nat.le_refl _) HLA.out hg1 (fun g hg => by have hh := HL3.out.size; have hg' : some w3.heap.size = some g := hg; injection hg' with hg'; omega))
    | (refine wpList_build_eq (o := ⟨some 34, _, _, _, _, _⟩) rfl _ _ rfl (nc (nz 6)) (by kernel_rfl) ?_)
    | (refine wpList_ex (o := ⟨some 35, _, _, _, _, _⟩) (v := .slice (some ⟨W1.heap.size, 0, none⟩) 1 1) (w' := W1.alloc (.cells (nc (nz 6)) 101)) rfl (by kernel_rfl) ?_)
    | (at_builtin; refine wpList_push rfl (.tmp 33) (.tmp 35) 39 rfl w3.heap.size 101 _ 19 160 Tryz.underlying39 node_row rfl (by decide) (by decide) _ _ _ rfl hown1 ?_ _ rfl rfl rfl rfl ?_ ?_; (have hh := hg1.size; simp at hh; omega); omega; intro v2 W2 hown2 hg2 hnn2)
    | fail)
  have hg2' : (W1.alloc (.cells (nc (nz 6)) 101)).grownBy W2 v1.ownBlock := hg2
  clear hg2 hnn2
  have hlw2 : Below w.heap.size w W2 := below_grown (Nat.le_refl _) (andAlloc hlw1 _) hg2' (fun g hg => by
    have h1 := hown1.lt g hg
    have h2 := HL3.out.size
    omega)
  have hfl : (wrapL n l).flatMap ncs = ncs n ++ l.flatMap ncs ++ (nc (nz 6)).toList := by
    show _ = ncs n ++ l.flatMap ncs ++ ncs (nz 6)
    simp [wrapL, List.flatMap_append]
  have hln : 1 + l.length + 1 = (wrapL n l).length := by
    simp [wrapL]
    omega
  rw [← hfl, hln] at hown2
  have HOW := Lib.hid (own_base hown2 (show w.heap.size ≤ w3.heap.size from HL3.out.size))
  obtain ⟨A2, c2, rfl, hc2, hm2, hs2⟩ := Seg.of_own hown2
  have hch := check_any A2 (wrapL n l) c2 W2 (by rw [← hln]; omega) hs2
  rw [HQW.out] at hch
  have HLW2 := Lib.hid hlw2
  clear hg2' hown2 hown1 hg1 hlw1 hlw2 hfl hs2 hm2 HSR HO1 HLA hld4 hb6
  generalize hwl : (wrapL n l).length = wl at *
  have HWL := Lib.hid hwl
  clear hwl
  refine hch.mono ?_
  rintro e w5 ⟨rfl, hb5⟩
  have HLF := Lib.hid (andThen HLW2.out hb5)
  clear hch hb5 HOW HLW2
  go_wp2_with fail
  go_ret2
  exact ⟨rfl, HLF.out⟩
end Go.Proofs.YtoboecenlangmaaGreat.No
end
section
namespace Go.Proofs.YtoboecenlangmaaGreat.No
open Go.ChangeShapes Go.WideShapes Go.ChangeAt Go.RowKit
open Me Np
set_option linter.unusedVariables false
set_option linter.unusedSimpArgs false

attribute [local go_sem ↓] ldN_eq bldN_eq
set_option maxHeartbeats 2000000 in
set_option maxRecDepth 100000 in
theorem rwrap_r (n : Nd) (A : Option Addr) (l : List Nd) (c : Nat) (w : World) (hr : right n = false) :
    Calls Tryz.prog 99 #[.agg (nc n), .slice A l.length c] w fun e w' => e = .returned (.tuple #[.slice none 0 0, .int .i64 1]) ∧ Below w.heap.size w w' := by
  have HR := Lib.hid hr
  clear hr
  generalize l.length = len at *
  go_enter Tryz.func99, Tryz.ntmps99
  have hn1 : NodeAt (w.alloc (.cells (nc n) 101)) w.heap.size 0 n := Blk.node (Blk.new' rfl)
  have hld1 := run_ldN hn1
  go_wp2_with fail
  refine (good_any n _).mono ?_
  rintro e w2 ⟨rfl, hb2⟩
  have hl2 : Below w.heap.size w w2 := andThen (andAlloc (Below.refl _ _) _) hb2
  have hn2' := hn1.below hb2 hn1.lt
  have hc2 : w2.cell? ⟨w.heap.size, 0, none⟩ = some (.int .i64 n.kind) := hn2' 0 _ rfl
  have hz2 := hn2'.lt
  rw [HR.out]
  clear hb2 hn1 hld1
  go_wp2_with fail
  go_ret2
  exact ⟨rfl, hl2⟩
set_option maxHeartbeats 2000000 in
set_option maxRecDepth 100000 in
theorem rwrap_o (n : Nd) (A : Option Addr) (l : List Nd) (c : Nat) (w : World) (hr : right n = true) (ho : opensB n = false) :
    Calls Tryz.prog 99 #[.agg (nc n), .slice A l.length c] w fun e w' => e = .returned (.tuple #[.slice none 0 0, .int .i64 1]) ∧ Below w.heap.size w w' := by
  have HR := Lib.hid hr
  have HO := Lib.hid ho
  clear hr ho
  generalize l.length = len at *
  go_enter Tryz.func99, Tryz.ntmps99
  have hn1 : NodeAt (w.alloc (.cells (nc n) 101)) w.heap.size 0 n := Blk.node (Blk.new' rfl)
  have hld1 := run_ldN hn1
  go_wp2_with fail
  refine (good_any n _).mono ?_
  rintro e w2 ⟨rfl, hb2⟩
  have hl2 : Below w.heap.size w w2 := andThen (andAlloc (Below.refl _ _) _) hb2
  have hn2' := hn1.below hb2 hn1.lt
  have hc2 : w2.cell? ⟨w.heap.size, 0, none⟩ = some (.int .i64 n.kind) := hn2' 0 _ rfl
  have hz2 := hn2'.lt
  rw [HR.out]
  have hld2 : (ldN ⟨w.heap.size, 0, none⟩).run Tryz.prog w2 = .ok (.agg (nc n)) w2 := run_ldN hn2'
  have hld3 : ∀ o : Obj, (ldN ⟨w.heap.size, 0, none⟩).run Tryz.prog (w2.alloc o) = .ok (.agg (nc n)) (w2.alloc o) := fun o => run_ldN (hn2'.alloc o)
  clear hb2 hn1 hld1
  go_wp2_with (first
    | (go_at_call 91; (with_reducible refine (ropens_any _ _).mono ?_); rintro e w' ⟨rfl, rfl⟩; simp only [HO.out]))
  go_ret2
  exact ⟨rfl, andAlloc hl2 _⟩
set_option maxHeartbeats 2000000 in
set_option maxRecDepth 100000 in
theorem rwrap_d (n : Nd) (A : Option Addr) (l : List Nd) (c : Nat) (w : World) (hr : right n = true) (ho : opensB n = true) (h10 : n.kind = 10) :
    Calls Tryz.prog 99 #[.agg (nc n), .slice A l.length c] w fun e w' => e = .returned (.tuple #[.slice none 0 0, .int .i64 1]) ∧ Below w.heap.size w w' := by
  have HR := Lib.hid hr
  have HO := Lib.hid ho
  have e10 : (n.kind == 10) = true := by simp [h10]
  clear hr ho h10
  generalize l.length = len at *
  go_enter Tryz.func99, Tryz.ntmps99
  have hn1 : NodeAt (w.alloc (.cells (nc n) 101)) w.heap.size 0 n := Blk.node (Blk.new' rfl)
  have hld1 := run_ldN hn1
  go_wp2_with fail
  refine (good_any n _).mono ?_
  rintro e w2 ⟨rfl, hb2⟩
  have hl2 : Below w.heap.size w w2 := andThen (andAlloc (Below.refl _ _) _) hb2
  have hn2' := hn1.below hb2 hn1.lt
  have hc2 : w2.cell? ⟨w.heap.size, 0, none⟩ = some (.int .i64 n.kind) := hn2' 0 _ rfl
  have hz2 := hn2'.lt
  rw [HR.out]
  have hld2 : (ldN ⟨w.heap.size, 0, none⟩).run Tryz.prog w2 = .ok (.agg (nc n)) w2 := run_ldN hn2'
  have hld3 : ∀ o : Obj, (ldN ⟨w.heap.size, 0, none⟩).run Tryz.prog (w2.alloc o) = .ok (.agg (nc n)) (w2.alloc o) := fun o => run_ldN (hn2'.alloc o)
  clear hb2 hn1 hld1
  go_wp2_with (first
    | (go_at_call 91; (with_reducible refine (ropens_any _ _).mono ?_); rintro e w' ⟨rfl, rfl⟩; simp only [HO.out]))
  go_ret2
  exact ⟨rfl, andAlloc hl2 _⟩
set_option maxHeartbeats 2000000 in
set_option maxRecDepth 100000 in
theorem rwrap_c (n : Nd) (A : Option Addr) (l : List Nd) (c : Nat) (w : World) (hl : l.length ≤ 9223372036854775806) (hseg : Seg w w.heap.size A (l.flatMap ncs)) (hr : right n = true) (ho : opensB n = true) (h10 : ¬ n.kind = 10) (hc : ¬ chk l = 0) :
    Calls Tryz.prog 99 #[.agg (nc n), .slice A l.length c] w fun e w' => e = .returned (.tuple #[.slice none 0 0, .int .i64 (chk l)]) ∧ Below w.heap.size w w' := by
  have e10 : (n.kind == 10) = false := by simp [h10]
  have HO := Lib.hid ho
  have HR := Lib.hid hr
  have HC := Lib.hid fun w1 (h : Below w.heap.size w w1) => rcheckl_any A l c w1 (by omega) (Seg.belowW hseg h)
  have e0 : (chk l != 0) = true := by simp [hc]
  clear hc ho hr hseg h10
  generalize chk l = q0 at *
  generalize l.length = len at *
  go_enter Tryz.func99, Tryz.ntmps99
  have hn1 : NodeAt (w.alloc (.cells (nc n) 101)) w.heap.size 0 n := Blk.node (Blk.new' rfl)
  have hld1 := run_ldN hn1
  go_wp2_with fail
  refine (good_any n _).mono ?_
  rintro e w2 ⟨rfl, hb2⟩
  have hl2 : Below w.heap.size w w2 := andThen (andAlloc (Below.refl _ _) _) hb2
  have hn2' := hn1.below hb2 hn1.lt
  have hc2 : w2.cell? ⟨w.heap.size, 0, none⟩ = some (.int .i64 n.kind) := hn2' 0 _ rfl
  have hz2 := hn2'.lt
  rw [HR.out]
  have hld2 : (ldN ⟨w.heap.size, 0, none⟩).run Tryz.prog w2 = .ok (.agg (nc n)) w2 := run_ldN hn2'
  have hld3 : ∀ o : Obj, (ldN ⟨w.heap.size, 0, none⟩).run Tryz.prog (w2.alloc o) = .ok (.agg (nc n)) (w2.alloc o) := fun o => run_ldN (hn2'.alloc o)
  clear hb2 hn1 hld1
  go_wp2_with (first
    | (go_at_call 91; (with_reducible refine (ropens_any _ _).mono ?_); rintro e w' ⟨rfl, rfl⟩; simp only [HO.out]))
  have hl3 := andAlloc hl2 (.cells (nc n) 101)
  have hn3 := hn2'.alloc (.cells (nc n) 101)
  refine (HC.out _ hl3).mono ?_
  rintro e w3 ⟨rfl, hb3⟩
  have HL3 := Lib.hid (andThen hl3 hb3)
  clear hl2 hn2' hc2 hz2 hld2 hld3 hl3 hn3 hb3 HC
  go_wp2_with fail
  go_ret2
  exact ⟨rfl, HL3.out⟩
set_option maxHeartbeats 2000000 in
set_option maxRecDepth 100000 in
theorem rwrap_w (n : Nd) (A : Option Addr) (l : List Nd) (c : Nat) (w : World) (hseg0 : Seg w w.heap.size A (l.flatMap ncs)) (hA : A = none → c = 0) (hr : right n = true) (ho : opensB n = true) (h10 : ¬ n.kind = 10) (hc : chk l = 0) (hw : ¬ chk (wrapL n l) = 0) :
    Calls Tryz.prog 99 #[.agg (nc n), .slice A l.length c] w fun e w' => e = .returned (.tuple #[.slice none 0 0, .int .i64 (chk (wrapL n l))]) ∧ Below w.heap.size w w' := by
  have hl := (chk_run hc).1
  have e10 : (n.kind == 10) = false := by simp [h10]
  have HO := Lib.hid ho
  have HR := Lib.hid hr
  have HC := Lib.hid fun w1 (h : Below w.heap.size w w1) => rcheckl_any A l c w1 (by omega) (Seg.belowW hseg0 h)
  have HE := Lib.hid hc
  have HS := Lib.hid hseg0
  have HA := Lib.hid hA
  have e0 : (chk (wrapL n l) != 0) = true := by simp [hw]
  generalize hqw : chk (wrapL n l) = q0 at *
  have HQW := Lib.hid hqw
  rw [HE.out] at HC
  clear hc ho hr hseg0 hA hw h10 hqw
  go_enter Tryz.func99, Tryz.ntmps99
  have hn1 : NodeAt (w.alloc (.cells (nc n) 101)) w.heap.size 0 n := Blk.node (Blk.new' rfl)
  have hld1 := run_ldN hn1
  go_wp2_with fail
  refine (good_any n _).mono ?_
  rintro e w2 ⟨rfl, hb2⟩
  have hl2 : Below w.heap.size w w2 := andThen (andAlloc (Below.refl _ _) _) hb2
  have hn2' := hn1.below hb2 hn1.lt
  have hc2 : w2.cell? ⟨w.heap.size, 0, none⟩ = some (.int .i64 n.kind) := hn2' 0 _ rfl
  have hz2 := hn2'.lt
  rw [HR.out]
  have hld2 : (ldN ⟨w.heap.size, 0, none⟩).run Tryz.prog w2 = .ok (.agg (nc n)) w2 := run_ldN hn2'
  have hld3 : ∀ o : Obj, (ldN ⟨w.heap.size, 0, none⟩).run Tryz.prog (w2.alloc o) = .ok (.agg (nc n)) (w2.alloc o) := fun o => run_ldN (hn2'.alloc o)
  clear hb2 hn1 hld1
  go_wp2_with (first
    | (go_at_call 91; (with_reducible refine (ropens_any _ _).mono ?_); rintro e w' ⟨rfl, rfl⟩; simp only [HO.out]))
  have hl3 := andAlloc hl2 (.cells (nc n) 101)
  have hn3 := hn2'.alloc (.cells (nc n) 101)
  refine (HC.out _ hl3).mono ?_
  rintro e w3 ⟨rfl, hb3⟩
  have HL3 := Lib.hid (andThen hl3 hb3)
  have hn4 := hn3.below hb3 hn3.lt
  have hld4 : (ldN ⟨w.heap.size, 0, none⟩).run Tryz.prog w3 = .ok (.agg (nc n)) w3 := run_ldN hn4
  have hb6 := run_bldN 6
  have HSR := Lib.hid (fun (W : World) (h : Below w.heap.size w W) => Seg.below HS.out h)
  have HO1 := Lib.hid (own_one w3 n)
  have HLA := Lib.hid (andAlloc HL3.out (.cells (nc n) 101))
  clear hl2 hn2' hc2 hz2 hld2 hld3 hl3 hn3 hb3 hn4 HC
  go_wp2_with (first
    | (refine wpList_ex (o := ⟨some 27, _, _, _, _, _⟩) (v := .slice (some ⟨w3.heap.size, 0, none⟩) 1 1) (w' := w3.alloc (.cells (nc n) 101)) rfl (by kernel_rfl) ?_)
    | (at_builtin; refine wpList_append_seg rfl (.tmp 27) (.tmp 28) rfl w3.heap.size ?_ _ 1 _ rfl HO1.out _ A c _ l rfl rfl (HSR.out _ HLA.out) HA.out ?_ ?_; simp; omega; intro v1 W1 hown1 hg1; have hlw1 : Below w.heap.size w W1 := below_grown (Nat.le_refl _) HLA.out hg1 (fun g hg => by have hh := HL3.out.size; have hg' : some w3.heap.size = some g := hg; injection hg' with hg'; omega))
    | (refine wpList_build_eq (o := ⟨some 31, _, _, _, _, _⟩) rfl _ _ rfl (nc (nz 6)) (by kernel_rfl) ?_)
    | (refine wpList_ex (o := ⟨some 32, _, _, _, _, _⟩) (v := .slice (some ⟨W1.heap.size, 0, none⟩) 1 1) (w' := W1.alloc (.cells (nc (nz 6)) 101)) rfl (by kernel_rfl) ?_)
    | (at_builtin; refine wpList_push rfl (.tmp 30) (.tmp 32) 39 rfl w3.heap.size 101 _ 19 160 Tryz.underlying39 node_row rfl (by decide) (by decide) _ _ _ rfl hown1 ?_ _ rfl rfl rfl rfl ?_ ?_; (have hh := hg1.size; simp at hh; omega); omega; intro v2 W2 hown2 hg2 hnn2)
    | fail)
  have hg2' : (W1.alloc (.cells (nc (nz 6)) 101)).grownBy W2 v1.ownBlock := hg2
  clear hg2 hnn2
  have hlw2 : Below w.heap.size w W2 := below_grown (Nat.le_refl _) (andAlloc hlw1 _) hg2' (fun g hg => by
    have h1 := hown1.lt g hg
    have h2 := HL3.out.size
    omega)
  have hfl : (wrapL n l).flatMap ncs = ncs n ++ l.flatMap ncs ++ (nc (nz 6)).toList := by
    show _ = ncs n ++ l.flatMap ncs ++ ncs (nz 6)
    simp [wrapL, List.flatMap_append]
  have hln : 1 + l.length + 1 = (wrapL n l).length := by
    simp [wrapL]
    omega
  rw [← hfl, hln] at hown2
  have HOW := Lib.hid (own_base hown2 (show w.heap.size ≤ w3.heap.size from HL3.out.size))
  obtain ⟨A2, c2, rfl, hc2, hm2, hs2⟩ := Seg.of_own hown2
  have hch := rcheckl_any A2 (wrapL n l) c2 W2 (by rw [← hln]; omega) hs2
  rw [HQW.out] at hch
  have HLW2 := Lib.hid hlw2
  clear hg2' hown2 hown1 hg1 hlw1 hlw2 hfl hs2 hm2 HSR HO1 HLA hld4 hb6
  generalize hwl : (wrapL n l).length = wl at *
  have HWL := Lib.hid hwl
  clear hwl
  refine hch.mono ?_
  rintro e w5 ⟨rfl, hb5⟩
  have HLF := Lib.hid (andThen HLW2.out hb5)
  clear hch hb5 HOW HLW2
  go_wp2_with fail
  go_ret2
  exact ⟨rfl, HLF.out⟩
set_option maxHeartbeats 2000000 in
set_option maxRecDepth 100000 in
theorem rwrap_ok (n : Nd) (A : Option Addr) (l : List Nd) (c : Nat) (w : World) (hseg0 : Seg w w.heap.size A (l.flatMap ncs)) (hA : A = none → c = 0) (hr : right n = true) (ho : opensB n = true) (h10 : ¬ n.kind = 10) (hc : chk l = 0) (hw : chk (wrapL n l) = 0) :
    Calls Tryz.prog 99 #[.agg (nc n), .slice A l.length c] w (MadeNE w (wrapL n l)) := by
  have hl := (chk_run hc).1
  have e10 : (n.kind == 10) = false := by simp [h10]
  have HO := Lib.hid ho
  have HR := Lib.hid hr
  have HC := Lib.hid fun w1 (h : Below w.heap.size w w1) => rcheckl_any A l c w1 (by omega) (Seg.belowW hseg0 h)
  have HE := Lib.hid hc
  have HS := Lib.hid hseg0
  have HA := Lib.hid hA
  have HW := Lib.hid hw
  rw [HE.out] at HC
  clear hc ho hr hseg0 hA hw h10
  go_enter Tryz.func99, Tryz.ntmps99
  have hn1 : NodeAt (w.alloc (.cells (nc n) 101)) w.heap.size 0 n := Blk.node (Blk.new' rfl)
  have hld1 := run_ldN hn1
  go_wp2_with fail
  refine (good_any n _).mono ?_
  rintro e w2 ⟨rfl, hb2⟩
  have hl2 : Below w.heap.size w w2 := andThen (andAlloc (Below.refl _ _) _) hb2
  have hn2' := hn1.below hb2 hn1.lt
  have hc2 : w2.cell? ⟨w.heap.size, 0, none⟩ = some (.int .i64 n.kind) := hn2' 0 _ rfl
  have hz2 := hn2'.lt
  rw [HR.out]
  have hld2 : (ldN ⟨w.heap.size, 0, none⟩).run Tryz.prog w2 = .ok (.agg (nc n)) w2 := run_ldN hn2'
  have hld3 : ∀ o : Obj, (ldN ⟨w.heap.size, 0, none⟩).run Tryz.prog (w2.alloc o) = .ok (.agg (nc n)) (w2.alloc o) := fun o => run_ldN (hn2'.alloc o)
  clear hb2 hn1 hld1
  go_wp2_with (first
    | (go_at_call 91; (with_reducible refine (ropens_any _ _).mono ?_); rintro e w' ⟨rfl, rfl⟩; simp only [HO.out]))
  have hl3 := andAlloc hl2 (.cells (nc n) 101)
  have hn3 := hn2'.alloc (.cells (nc n) 101)
  refine (HC.out _ hl3).mono ?_
  rintro e w3 ⟨rfl, hb3⟩
  have HL3 := Lib.hid (andThen hl3 hb3)
  have hn4 := hn3.below hb3 hn3.lt
  have hld4 : (ldN ⟨w.heap.size, 0, none⟩).run Tryz.prog w3 = .ok (.agg (nc n)) w3 := run_ldN hn4
  have hb6 := run_bldN 6
  have HSR := Lib.hid (fun (W : World) (h : Below w.heap.size w W) => Seg.below HS.out h)
  have HO1 := Lib.hid (own_one w3 n)
  have HLA := Lib.hid (andAlloc HL3.out (.cells (nc n) 101))
  clear hl2 hn2' hc2 hz2 hld2 hld3 hl3 hn3 hb3 hn4 HC
  go_wp2_with (first
    | (refine wpList_ex (o := ⟨some 27, _, _, _, _, _⟩) (v := .slice (some ⟨w3.heap.size, 0, none⟩) 1 1) (w' := w3.alloc (.cells (nc n) 101)) rfl (by kernel_rfl) ?_)
    | (at_builtin; refine wpList_append_seg rfl (.tmp 27) (.tmp 28) rfl w3.heap.size ?_ _ 1 _ rfl HO1.out _ A c _ l rfl rfl (HSR.out _ HLA.out) HA.out ?_ ?_; simp; omega; intro v1 W1 hown1 hg1; have hlw1 : Below w.heap.size w W1 := below_grown (Nat.le_refl _) HLA.out hg1 (fun g hg => by have hh := HL3.out.size; have hg' : some w3.heap.size = some g := hg; injection hg' with hg'; omega))
    | (refine wpList_build_eq (o := ⟨some 31, _, _, _, _, _⟩) rfl _ _ rfl (nc (nz 6)) (by kernel_rfl) ?_)
    | (refine wpList_ex (o := ⟨some 32, _, _, _, _, _⟩) (v := .slice (some ⟨W1.heap.size, 0, none⟩) 1 1) (w' := W1.alloc (.cells (nc (nz 6)) 101)) rfl (by kernel_rfl) ?_)
    | (at_builtin; refine wpList_push rfl (.tmp 30) (.tmp 32) 39 rfl w3.heap.size 101 _ 19 160 Tryz.underlying39 node_row rfl (by decide) (by decide) _ _ _ rfl hown1 ?_ _ rfl rfl rfl rfl ?_ ?_; (have hh := hg1.size; simp at hh; omega); omega; intro v2 W2 hown2 hg2 hnn2)
    | fail)
  have hg2' : (W1.alloc (.cells (nc (nz 6)) 101)).grownBy W2 v1.ownBlock := hg2
  clear hg2 hnn2
  have hlw2 : Below w.heap.size w W2 := below_grown (Nat.le_refl _) (andAlloc hlw1 _) hg2' (fun g hg => by
    have h1 := hown1.lt g hg
    have h2 := HL3.out.size
    omega)
  have hfl : (wrapL n l).flatMap ncs = ncs n ++ l.flatMap ncs ++ (nc (nz 6)).toList := by
    show _ = ncs n ++ l.flatMap ncs ++ ncs (nz 6)
    simp [wrapL, List.flatMap_append]
  have hln : 1 + l.length + 1 = (wrapL n l).length := by
    simp [wrapL]
    omega
  rw [← hfl, hln] at hown2
  have HOW := Lib.hid (own_base hown2 (show w.heap.size ≤ w3.heap.size from HL3.out.size))
  obtain ⟨A2, c2, rfl, hc2, hm2, hs2⟩ := Seg.of_own hown2
  have hch := rcheckl_any A2 (wrapL n l) c2 W2 (by rw [← hln]; omega) hs2
  rw [HW.out] at hch
  have HLW2 := Lib.hid hlw2
  clear hg2' hown2 hown1 hg1 hlw1 hlw2 hfl hs2 hm2 HSR HO1 HLA hld4 hb6
  generalize hwl : (wrapL n l).length = wl at *
  have HWL := Lib.hid hwl
  clear hwl
  refine hch.mono ?_
  rintro e w5 ⟨rfl, hb5⟩
  have HF := Lib.hid (own_below HOW.out hb5)
  have HLF := Lib.hid (andThen HLW2.out hb5)
  clear hch hb5 HOW HLW2
  go_wp2_with fail
  go_ret2
  exact ⟨.slice A2 wl c2, rfl, by rw [HWL.out]; exact HF.out, HLF.out⟩
end Go.Proofs.YtoboecenlangmaaGreat.No
end
section
namespace Go.Proofs.YtoboecenlangmaaGreat.Pk
open Go.ChangeShapes Go.WideShapes Go.ChangeAt Go.RowKit
open Me Np No
set_option linter.unusedVariables false
set_option linter.unusedSimpArgs false

/-- The document's measures are the same. -/
structure MsrR (l : List Nd) (down : Bool) (x a b c d p q r s e1 h v e2 : Int) : Prop where
  tot : ∀ (A : Option Addr) (k : Nat) (w : World), l.length ≤ k → Seg w w.heap.size A (l.flatMap ncs) → Calls Tryz.prog 50 #[.slice A l.length k, .bool down] w fun e w' => e = .returned (.tuple #[.agg #[.int .i64 x, .int .i64 a, .int .i64 b, .int .i64 c, .int .i64 d, .int .i64 p, .int .i64 q, .int .i64 r, .int .i64 s], .int .i64 e1]) ∧ Below w.heap.size w w'
  ext : ∀ (A : Option Addr) (k : Nat) (w : World), l.length ≤ k → Seg w w.heap.size A (l.flatMap ncs) → Calls Tryz.prog 51 #[.slice A l.length k, .bool down] w fun e w' => e = .returned (.tuple #[.int .i64 h, .int .i64 v, .int .i64 e2]) ∧ Below w.heap.size w w'
theorem msr_case (l : List Nd) (down : Bool) (hl : l.length ≤ 879609302220) : ∃ x a b c d p q r s e1 h v e2, Msr l down x a b c d p q r s e1 h v e2 ∧ MsrR l down x a b c d p q r s e1 h v e2 := by
  by_cases hc : chk l = 0
  · obtain ⟨xs, hx⟩ := its_of_chk hc
    have hT := totR_len l down xs
    have hB := totD_tb down hc hx
    obtain ⟨⟨x, st, sh⟩, hTe⟩ : ∃ T, totR l down xs = T := ⟨_, rfl⟩
    rw [hTe] at hT
    match st, sh, hT.1, hT.2 with
    | [a, b, c, d], [p, q, r, s], _, _ =>
    have ht := fun A k w h hs => totals_any A l k xs down w hc h hs hx
    have hr := fun A k w h hs => rtotals_good A l k xs down w hc h hs hx
    simp only [hTe] at ht hr
    obtain ⟨ext, hext⟩ : ∃ E, extD l down xs = E := ⟨_, rfl⟩
    have hu := fun A k w h hs => extent_good A l k xs down w hc h hs hx
    have hv := fun A k w h hs => rextent_good A l k xs down w hc h hs hx
    simp only [hext] at hu hv
    refine ⟨x, a, b, c, d, p, q, r, s, _, _, _, _, ⟨ht, hu, ?_, ?_, ?_, ?_⟩, ⟨hr, hv⟩⟩
    · intro h0
      have hd : dimB (totD l down xs).nat = true := by
        by_cases hd : dimB (totD l down xs).nat = true
        · exact hd
        · rw [if_neg hd] at h0; cases h0
      have : totR l down xs = totD l down xs := if_pos hd
      rw [hTe] at this
      rw [← this] at hd
      exact hd
    · intro h0
      have hd : dimB (totD l down xs).nat = true := by
        by_cases hd : dimB (totD l down xs).nat = true
        · exact hd
        · rw [if_neg hd] at h0; cases h0
      have he : totR l down xs = totD l down xs := if_pos hd
      rw [hTe] at he
      rw [← he] at hB
      exact ⟨near_of (hB.st 0), near_of (hB.st 1), near_of (hB.st 2), near_of (hB.st 3), near_of (hB.sh 0), near_of (hB.sh 1), near_of (hB.sh 2), near_of (hB.sh 3)⟩
    · intro _
      split
      · exact .inl rfl
      · exact .inr rfl
    · intro h0
      split at h0
      · rename_i h1
        rw [if_pos h1, if_pos h1]
        simp only [Bool.and_eq_true] at h1
        exact h1
      · cases h0
  · refine ⟨0, 0, 0, 0, 0, 0, 0, 0, 0, chk l, 0, 0, chk l, ⟨fun A k w h hs => totals_bad A l k down w (by omega) hs hc, fun A k w h hs => extent_bad A l k down w (by omega) hs hc, fun h => absurd h hc, fun h => absurd h hc, fun h => absurd h hc, fun h => absurd h hc⟩, ⟨fun A k w h hs => rtotals_bad A l k down w (by omega) hs hc, fun A k w h hs => rextent_bad A l k down w (by omega) hs hc⟩⟩
end Go.Proofs.YtoboecenlangmaaGreat.Pk
end
section
namespace Go.Proofs.YtoboecenlangmaaGreat.Gl
open Go.ChangeShapes Go.WideShapes Go.ChangeAt Go.RowKit
open Me
set_option linter.unusedVariables false
set_option linter.unusedSimpArgs false

theorem rfit_all (n a b c d p q r s ex : Int) (w : World) (e0 : nearB ex = true) (e1 : nearB a = true) (e2 : nearB p = true) (e3 : nearB b = true) (e4 : nearB q = true) (e5 : nearB c = true) (e6 : nearB r = true) (e7 : nearB d = true) (e8 : nearB s = true) : Calls Tryz.prog 98 #[.agg #[.int .i64 n, .int .i64 a, .int .i64 b, .int .i64 c, .int .i64 d, .int .i64 p, .int .i64 q, .int .i64 r, .int .i64 s], .int .i64 ex] w fun e w' => e = .returned (.tuple #[.int .i64 (fit a b c d p q r s ex).1, .int .i64 (fit a b c d p q r s ex).2.1, .int .i64 (fit a b c d p q r s ex).2.2.1, .int .i64 (fit a b c d p q r s ex).2.2.2, .int .i64 0]) ∧ Below w.heap.size w w' := by
  have hx0 : -70368744177664 ≤ ex := by simp [nearB] at e0; omega
  rcases Int.lt_trichotomy 0 ex with hx | hx | hx
  · rcases great_cases a b c d with ⟨hg, h⟩ | ⟨hg, h⟩ | ⟨hg, h⟩ | ⟨hg, h⟩ | ⟨hg, h⟩
    · exact ref_upm n a b c d p q r s ex w e0 e1 e2 e3 e4 e5 e6 e7 e8 hx0 hx hg h.2.2.2 h.2.2.1 h.2.1 h.1
    · exact ref_up0 n a b c d p q r s ex w e0 e1 e2 e3 e4 e5 e6 e7 e8 hx0 hx hg h.2.2.2 h.2.2.1 h.2.1 h.1
    · exact ref_up1 n a b c d p q r s ex w e0 e1 e2 e3 e4 e5 e6 e7 e8 hx0 hx hg h.2.2 h.2.1 h.1
    · exact ref_up2 n a b c d p q r s ex w e0 e1 e2 e3 e4 e5 e6 e7 e8 hx0 hx hg h.2 h.1
    · exact ref_up3 n a b c d p q r s ex w e0 e1 e2 e3 e4 e5 e6 e7 e8 hx0 hx hg h
  · subst hx
    refine (ref_zero n a b c d p q r s w e0 e1 e2 e3 e4 e5 e6 e7 e8).mono ?_
    rintro e w' ⟨rfl, hb⟩
    exact ⟨rfl, hb⟩
  · rcases great_cases p q r s with ⟨hg, h⟩ | ⟨hg, h⟩ | ⟨hg, h⟩ | ⟨hg, h⟩ | ⟨hg, h⟩
    · exact ref_downm n a b c d p q r s ex w e0 e1 e2 e3 e4 e5 e6 e7 e8 hx0 hx hg h.2.2.2 h.2.2.1 h.2.1 h.1
    · by_cases hm : p < -ex
      · exact ref_downm0 n a b c d p q r s ex w e0 e1 e2 e3 e4 e5 e6 e7 e8 hx0 hx hg h.2.2.2 h.2.2.1 h.2.1 h.1 hm
      · exact ref_down0 n a b c d p q r s ex w e0 e1 e2 e3 e4 e5 e6 e7 e8 hx0 hx hg h.2.2.2 h.2.2.1 h.2.1 h.1 hm
    · exact ref_down1 n a b c d p q r s ex w e0 e1 e2 e3 e4 e5 e6 e7 e8 hx0 hx hg h.2.2 h.2.1 h.1
    · exact ref_down2 n a b c d p q r s ex w e0 e1 e2 e3 e4 e5 e6 e7 e8 hx0 hx hg h.2 h.1
    · exact ref_down3 n a b c d p q r s ex w e0 e1 e2 e3 e4 e5 e6 e7 e8 hx0 hx hg h
end Go.Proofs.YtoboecenlangmaaGreat.Gl
end
section
namespace Go.Proofs.YtoboecenlangmaaGreat.Ss
open Go.ChangeShapes Go.WideShapes Go.ChangeAt Go.RowKit
open Me Sc
set_option linter.unusedVariables false
set_option linter.unusedSimpArgs false

theorem refFar (x : Int) (w : World) : Calls Tryz.prog 159 #[.int .i64 x] w fun e w' => e = .returned (.bool (farB x)) ∧ w = w' := by
  by_cases h0 : x < -2147483647
  · go_enter Tryz.func159, Tryz.ntmps159
    go_wp2
    go_ret
    exact ⟨ret_bool (decide_eq_true (.inl h0)).symm, rfl⟩
  · by_cases h1 : 2147483647 < x
    · go_enter Tryz.func159, Tryz.ntmps159
      go_wp2
      go_ret
      exact ⟨ret_bool (decide_eq_true (.inr h1)).symm, rfl⟩
    · go_enter Tryz.func159, Tryz.ntmps159
      go_wp2
      go_ret
      exact ⟨ret_bool (decide_eq_false (by omega)).symm, rfl⟩
end Go.Proofs.YtoboecenlangmaaGreat.Ss
end
section
namespace Go.Proofs.YtoboecenlangmaaGreat.Ss
open Go.ChangeShapes Go.WideShapes Go.ChangeAt Go.RowKit
open Me Sc
set_option linter.unusedVariables false
set_option linter.unusedSimpArgs false

set_option maxHeartbeats 1000000 in
theorem refBad (t s : Int) (w : World) : Calls Tryz.prog 164 #[.int .i64 t, .int .i64 s] w fun e w' => e = .returned (.tuple #[.int .i64 (bdV t s), .int .i64 (bdE t s)]) ∧ Below w.heap.size w w' := by
  cases ht : farB t
  · obtain ⟨t0, t1⟩ := farB_no ht
    have HT := Lib.hid ht
    cases hs : farB s
    · obtain ⟨s0, s1⟩ := farB_no hs
      have HS := Lib.hid hs
      by_cases n0 : t < 0
      · go_enter Tryz.func164, Tryz.ntmps164
        go_wp2_with (first | (go_at_call 159; refine (refFar _ _).mono ?_; rintro e w' ⟨rfl, rfl⟩))
        go_ret2
        exact ⟨ret_ints (by rw [(bd_neg HT.out HS.out n0).1]) (by rw [(bd_neg HT.out HS.out n0).2]), (by repeat (first | exact Below.refl _ _ | assumption | apply below_drewN | apply andAlloc))⟩
      · by_cases n1 : t = 0
        · have e1 : (t == 0) = true := by simpa using n1
          have N1 := Lib.hid n1
          clear n1
          go_enter Tryz.func164, Tryz.ntmps164
          go_wp2_with (first | (go_at_call 159; refine (refFar _ _).mono ?_; rintro e w' ⟨rfl, rfl⟩))
          go_ret2
          exact ⟨ret_ints (by rw [(bd_zero HT.out HS.out N1.out).1]) (by rw [(bd_zero HT.out HS.out N1.out).2]), (by repeat (first | exact Below.refl _ _ | assumption | apply below_drewN | apply andAlloc))⟩
        · have hp : 0 < t := by omega
          have e1 : (t == 0) = false := by simpa using n1
          clear n1
          by_cases n2 : s < 1
          · go_enter Tryz.func164, Tryz.ntmps164
            go_wp2_with (first | (go_at_call 159; refine (refFar _ _).mono ?_; rintro e w' ⟨rfl, rfl⟩))
            go_ret2
            exact ⟨ret_ints (by rw [(bd_none HT.out HS.out hp n2).1]) (by rw [(bd_none HT.out HS.out hp n2).2]), (by repeat (first | exact Below.refl _ _ | assumption | apply below_drewN | apply andAlloc))⟩
          · have hs1 : 1 ≤ s := by omega
            by_cases c1 : t ≤ 7230584
            · have v0 : 0 ≤ 297 * t / s := Int.ediv_nonneg (by omega) (by omega)
              have v1 : 297 * t / s ≤ 297 * t := Int.ediv_le_self _ (by omega)
              by_cases big : 1290 < 297 * t / s
              · go_enter Tryz.func164, Tryz.ntmps164
                go_wp2_with (first | (go_at_call 159; refine (refFar _ _).mono ?_; rintro e w' ⟨rfl, rfl⟩))
                go_ret2
                exact ⟨ret_ints (by rw [(bd_inf HT.out HS.out hp hs1 (show bdR t s = 297 * t / s by rw [bdR_a hp hs1 c1]) big).1]) (by rw [(bd_inf HT.out HS.out hp hs1 (show bdR t s = 297 * t / s by rw [bdR_a hp hs1 c1]) big).2]), (by repeat (first | exact Below.refl _ _ | assumption | apply below_drewN | apply andAlloc))⟩
              · obtain ⟨u0, u1, u2, u3⟩ := cube_bd (r := 297 * t / s) (by omega) (by omega)
                go_enter Tryz.func164, Tryz.ntmps164
                go_wp2_with (first | (go_at_call 159; refine (refFar _ _).mono ?_; rintro e w' ⟨rfl, rfl⟩))
                go_ret2
                exact ⟨ret_ints (by rw [(bd_fin HT.out HS.out hp hs1 (show bdR t s = 297 * t / s by rw [bdR_a hp hs1 c1]) (by omega)).1]) (by rw [(bd_fin HT.out HS.out hp hs1 (show bdR t s = 297 * t / s by rw [bdR_a hp hs1 c1]) (by omega)).2]), (by repeat (first | exact Below.refl _ _ | assumption | apply below_drewN | apply andAlloc))⟩
            · by_cases c2 : 1663497 ≤ s
              · have v0 : 0 ≤ t / (s / 297) := Int.ediv_nonneg (by omega) (by omega)
                have v1 : t / (s / 297) ≤ t := Int.ediv_le_self _ (by omega)
                have v2 : 1 ≤ s / 297 := by omega
                by_cases big : 1290 < t / (s / 297)
                · go_enter Tryz.func164, Tryz.ntmps164
                  go_wp2_with (first | (go_at_call 159; refine (refFar _ _).mono ?_; rintro e w' ⟨rfl, rfl⟩))
                  go_ret2
                  exact ⟨ret_ints (by rw [(bd_inf HT.out HS.out hp hs1 (bdR_b hp (by omega) c2) big).1]) (by rw [(bd_inf HT.out HS.out hp hs1 (bdR_b hp (by omega) c2) big).2]), (by repeat (first | exact Below.refl _ _ | assumption | apply below_drewN | apply andAlloc))⟩
                · obtain ⟨u0, u1, u2, u3⟩ := cube_bd (r := t / (s / 297)) (by omega) (by omega)
                  go_enter Tryz.func164, Tryz.ntmps164
                  go_wp2_with (first | (go_at_call 159; refine (refFar _ _).mono ?_; rintro e w' ⟨rfl, rfl⟩))
                  go_ret2
                  exact ⟨ret_ints (by rw [(bd_fin HT.out HS.out hp hs1 (bdR_b hp (by omega) c2) (by omega)).1]) (by rw [(bd_fin HT.out HS.out hp hs1 (bdR_b hp (by omega) c2) (by omega)).2]), (by repeat (first | exact Below.refl _ _ | assumption | apply below_drewN | apply andAlloc))⟩
              · have c3 : 1290 < t := by omega
                go_enter Tryz.func164, Tryz.ntmps164
                go_wp2_with (first | (go_at_call 159; refine (refFar _ _).mono ?_; rintro e w' ⟨rfl, rfl⟩))
                go_ret2
                exact ⟨ret_ints (by rw [(bd_inf HT.out HS.out hp hs1 (bdR_c (by omega) (by omega)) c3).1]) (by rw [(bd_inf HT.out HS.out hp hs1 (bdR_c (by omega) (by omega)) c3).2]), (by repeat (first | exact Below.refl _ _ | assumption | apply below_drewN | apply andAlloc))⟩
    · have HS := Lib.hid hs
      go_enter Tryz.func164, Tryz.ntmps164
      go_wp2_with (first | (go_at_call 159; refine (refFar _ _).mono ?_; rintro e w' ⟨rfl, rfl⟩))
      go_ret2
      exact ⟨ret_ints (by rw [(bd_far (.inr HS.out)).1]) (by rw [(bd_far (.inr HS.out)).2]), (by repeat (first | exact Below.refl _ _ | assumption | apply below_drewN | apply andAlloc))⟩
  · have HT := Lib.hid ht
    go_enter Tryz.func164, Tryz.ntmps164
    go_wp2_with (first | (go_at_call 159; refine (refFar _ _).mono ?_; rintro e w' ⟨rfl, rfl⟩))
    go_ret2
    exact ⟨ret_ints (by rw [(bd_far (.inl HT.out)).1]) (by rw [(bd_far (.inl HT.out)).2]), (by repeat (first | exact Below.refl _ _ | assumption | apply below_drewN | apply andAlloc))⟩
end Go.Proofs.YtoboecenlangmaaGreat.Ss
end
section
namespace Go.Proofs.YtoboecenlangmaaGreat.Pk
open Go.ChangeShapes Go.WideShapes Go.ChangeAt Go.RowKit
open Me Np No
set_option linter.unusedVariables false
set_option linter.unusedSimpArgs false

theorem rdimen_any (z : Int) (w : World) : Calls Tryz.prog 48 #[.int .i64 z] w fun e w' => e = .returned (.bool (dimB z)) ∧ w = w' := by
  by_cases h0 : -1073741823 ≤ z
  · by_cases h1 : z ≤ 1073741823
    · have HD := Lib.hid (show dimB z = true by simp [dimB, h0, h1])
      go_enter Tryz.func48, Tryz.ntmps48
      go_wp2
      go_ret
      exact ⟨ret_bool (by rw [HD.out]), rfl⟩
    · have HD := Lib.hid (show dimB z = false by simp [dimB]; omega)
      go_enter Tryz.func48, Tryz.ntmps48
      go_wp2
      go_ret
      exact ⟨ret_bool (by rw [HD.out]), rfl⟩
  · have HD := Lib.hid (show dimB z = false by simp [dimB]; omega)
    go_enter Tryz.func48, Tryz.ntmps48
    go_wp2
    go_ret
    exact ⟨ret_bool (by rw [HD.out]), rfl⟩
theorem rheld_any (z : Int) (w : World) : Calls Tryz.prog 165 #[.int .i64 z] w fun e w' => e = .returned (.int .i64 (held z)) ∧ w = w' := by
  by_cases h0 : z < 0
  · have HD := Lib.hid (show held z = 0 from if_pos h0)
    go_enter Tryz.func165, Tryz.ntmps165
    go_wp2_with fail
    go_ret
    exact ⟨ret_int (by rw [HD.out]), rfl⟩
  · by_cases h1 : 2147483647 < z
    · have HD := Lib.hid (show held z = 2147483647 by unfold held; rw [if_neg h0, if_pos h1])
      go_enter Tryz.func165, Tryz.ntmps165
      go_wp2_with fail
      go_ret
      exact ⟨ret_int (by rw [HD.out]), rfl⟩
    · have HD := Lib.hid (show held z = z by unfold held; rw [if_neg h0, if_neg h1])
      go_enter Tryz.func165, Tryz.ntmps165
      go_wp2_with fail
      go_ret
      exact ⟨ret_int (by rw [HD.out]), rfl⟩
theorem fit_up {a b c d p q r s ex : Int} (h : 0 < ex) : (Gl.fit a b c d p q r s ex).1 = 0 ∧ (Gl.fit a b c d p q r s ex).2.1 = 0 ∨ (Gl.fit a b c d p q r s ex).1 = 1 := by
  unfold Gl.fit
  rw [if_pos h]
  split
  · exact .inl ⟨rfl, rfl⟩
  · exact .inr rfl
theorem fit_dn {a b c d p q r s ex : Int} (h : ex < 0) : (Gl.fit a b c d p q r s ex).1 = 0 ∧ (Gl.fit a b c d p q r s ex).2.1 = 0 ∨ (Gl.fit a b c d p q r s ex).1 = 2 := by
  unfold Gl.fit
  rw [if_neg (by omega), if_pos h]
  split
  · exact .inl ⟨rfl, rfl⟩
  · exact .inr rfl
end Go.Proofs.YtoboecenlangmaaGreat.Pk
end
section
namespace Go.Proofs.YtoboecenlangmaaGreat.Pk
open Go.ChangeShapes Go.WideShapes Go.ChangeAt Go.RowKit
open Me Np No
set_option linter.unusedVariables false
set_option linter.unusedSimpArgs false

def BadO (w : World) (V : Int × Int) (e : Ending) (w' : World) : Prop := e = .returned (.tuple #[.int .i64 V.1, .int .i64 V.2]) ∧ Below w.heap.size w w'
theorem bad_zero (x a b c d p q r s ex : Int) (n : Nd) (em : Bool) (w : World) (h : em = true ∨ ex = 0) :
    Calls Tryz.prog 100 #[.bool em, .agg #[.int .i64 x, .int .i64 a, .int .i64 b, .int .i64 c, .int .i64 d, .int .i64 p, .int .i64 q, .int .i64 r, .int .i64 s], .int .i64 ex] w (BadO w (setV n a p em ex (0, 0))) := by
  have HE := Lib.hid (show setV n a p em ex (0, 0) = (0, 0) from if_pos h)
  generalize setV n a p em ex (0, 0) = V at HE ⊢
  cases em with
  | true =>
    clear h
    go_enter Tryz.func100, Tryz.ntmps100
    go_wp2_with fail
    go_returns
    rw [HE.out]
    exact ⟨rfl, andAlloc (Below.refl _ _) _⟩
  | false =>
    have h0 : ex = 0 := by simpa using h
    subst h0
    clear h
    go_enter Tryz.func100, Tryz.ntmps100
    go_wp2_with fail
    go_returns
    rw [HE.out]
    exact ⟨rfl, andAlloc (Below.refl _ _) _⟩
set_option maxHeartbeats 1000000 in
theorem bad_up (x a b c d p q r s ex : Int) (n : Nd) (w : World) (hx : 0 < ex) (e0 : Gl.nearB ex = true) (e1 : Gl.nearB a = true) (e2 : Gl.nearB p = true) (e3 : Gl.nearB b = true) (e4 : Gl.nearB q = true) (e5 : Gl.nearB c = true) (e6 : Gl.nearB r = true) (e7 : Gl.nearB d = true) (e8 : Gl.nearB s = true) :
    Calls Tryz.prog 100 #[.bool false, .agg #[.int .i64 x, .int .i64 a, .int .i64 b, .int .i64 c, .int .i64 d, .int .i64 p, .int .i64 q, .int .i64 r, .int .i64 s], .int .i64 ex] w (BadO w (setV (fitN n (Gl.fit a b c d p q r s ex)) a p false ex (0, 0))) := by
  have HF := Lib.hid (fun w => Gl.rfit_all x a b c d p q r s ex w e0 e1 e2 e3 e4 e5 e6 e7 e8)
  have hu := fit_up (a := a) (b := b) (c := c) (d := d) (p := p) (q := q) (r := r) (s := s) hx
  generalize Gl.fit a b c d p q r s ex = F at HF hu ⊢
  obtain ⟨sg, od, nu, de⟩ := F
  simp only at HF hu
  have h64 : ex ≤ 70368744177664 := by simp [Gl.nearB] at e0; omega
  clear e0 e1 e2 e3 e4 e5 e6 e7 e8
  have HV := Lib.hid (show setV (fitN n (sg, od, nu, de)) a p false ex (0, 0) = (if sg = 1 ∧ 0 < od then 0 else Sc.bdV (held ex) (held a), 0) by
    unfold setV
    rw [if_neg (by simp; omega), if_pos hx]
    rfl)
  generalize setV (fitN n (sg, od, nu, de)) a p false ex (0, 0) = V at HV ⊢
  by_cases hs : sg = 1 ∧ 0 < od
  · have HE := Lib.hid (show V = (0, 0) by rw [HV.out, if_pos hs])
    obtain ⟨rfl, ho⟩ := hs
    clear HV hu
    go_enter Tryz.func100, Tryz.ntmps100
    go_wp2_with (go_at_call 98; refine (HF.out _).mono ?_; rintro e w2 ⟨rfl, hb2⟩; have hk2 : Blk w2 w.heap.size 109 #[.int .i64 x, .int .i64 a, .int .i64 b, .int .i64 c, .int .i64 d, .int .i64 p, .int .i64 q, .int .i64 r, .int .i64 s] := Blk.below (Blk.new w _ _) hb2 (by simp); have hc1 : w2.cell? ⟨w.heap.size, 1, none⟩ = some (.int .i64 a) := Blk.cell hk2 1; have hc5 : w2.cell? ⟨w.heap.size, 5, none⟩ = some (.int .i64 p) := Blk.cell hk2 5; have hf5 := Blk.free hk2 5; have HB2 := Lib.hid (andThen (andAlloc (Below.refl _ w) (.cells #[.int .i64 x, .int .i64 a, .int .i64 b, .int .i64 c, .int .i64 d, .int .i64 p, .int .i64 q, .int .i64 r, .int .i64 s] 109)) hb2); clear hk2 hb2)
    go_returns
    rw [HE.out]
    exact ⟨rfl, HB2.out⟩
  · have HE := Lib.hid (show V = (Sc.bdV (held ex) (held a), 0) by rw [HV.out, if_neg hs])
    have hh : sg = 0 ∨ (sg = 1 ∧ od ≤ 0) := by
      rcases hu with ⟨h1, _⟩ | h1
      · exact .inl h1
      · exact .inr ⟨h1, by have : ¬ 0 < od := fun h => hs ⟨h1, h⟩; omega⟩
    clear HV hu hs
    rcases hh with rfl | ⟨rfl, ho⟩
    all_goals
      go_enter Tryz.func100, Tryz.ntmps100
      go_upto_region 7 with (go_at_call 98; refine (HF.out _).mono ?_; rintro e w2 ⟨rfl, hb2⟩; have hk2 : Blk w2 w.heap.size 109 #[.int .i64 x, .int .i64 a, .int .i64 b, .int .i64 c, .int .i64 d, .int .i64 p, .int .i64 q, .int .i64 r, .int .i64 s] := Blk.below (Blk.new w _ _) hb2 (by simp); have hc1 : w2.cell? ⟨w.heap.size, 1, none⟩ = some (.int .i64 a) := Blk.cell hk2 1; have hc5 : w2.cell? ⟨w.heap.size, 5, none⟩ = some (.int .i64 p) := Blk.cell hk2 5; have hf5 := Blk.free hk2 5; have HB2 := Lib.hid (andThen (andAlloc (Below.refl _ w) (.cells #[.int .i64 x, .int .i64 a, .int .i64 b, .int .i64 c, .int .i64 d, .int .i64 p, .int .i64 q, .int .i64 r, .int .i64 s] 109)) hb2); clear hk2 hb2)
      go_region_with (first | (go_at_call 165; refine (rheld_any _ _).mono ?_; rintro e w' ⟨rfl, rfl⟩) | (go_at_call 164; refine (Ss.refBad _ _ _).mono ?_; rintro e w3 ⟨rfl, hb3⟩))
      all_goals
        go_wp2_with fail
        go_returns
        rw [HE.out]
        first
          | exact ⟨rfl, andThen HB2.out hb3⟩
          | exact ⟨rfl, andThen HB2.out.drew hb3⟩
          | exact ⟨rfl, andThen (below_drewN HB2.out _) hb3⟩
set_option maxHeartbeats 2000000 in
theorem bad_dn (x a b c d p q r s ex : Int) (n : Nd) (w : World) (hx : ex < 0) (e0 : Gl.nearB ex = true) (e1 : Gl.nearB a = true) (e2 : Gl.nearB p = true) (e3 : Gl.nearB b = true) (e4 : Gl.nearB q = true) (e5 : Gl.nearB c = true) (e6 : Gl.nearB r = true) (e7 : Gl.nearB d = true) (e8 : Gl.nearB s = true) :
    Calls Tryz.prog 100 #[.bool false, .agg #[.int .i64 x, .int .i64 a, .int .i64 b, .int .i64 c, .int .i64 d, .int .i64 p, .int .i64 q, .int .i64 r, .int .i64 s], .int .i64 ex] w (BadO w (setV (fitN n (Gl.fit a b c d p q r s ex)) a p false ex (0, 0))) := by
  have HF := Lib.hid (fun w => Gl.rfit_all x a b c d p q r s ex w e0 e1 e2 e3 e4 e5 e6 e7 e8)
  have hu := fit_dn (a := a) (b := b) (c := c) (d := d) (p := p) (q := q) (r := r) (s := s) hx
  generalize Gl.fit a b c d p q r s ex = F at HF hu ⊢
  obtain ⟨sg, od, nu, de⟩ := F
  simp only at HF hu
  have h64 : -70368744177664 ≤ ex := by simp [Gl.nearB] at e0; omega
  have h65 : -70368744177664 ≤ p ∧ p ≤ 70368744177664 := by simp [Gl.nearB] at e2; omega
  clear e0 e1 e2 e3 e4 e5 e6 e7 e8
  have HV := Lib.hid (show setV (fitN n (sg, od, nu, de)) a p false ex (0, 0) = (if sg = 2 ∧ 0 < od then (0, 0) else if max 0 p < -ex then (1000000, -ex - max 0 p) else (Sc.bdV (held (-ex)) (held p), 0)) by
    unfold setV
    rw [if_neg (by simp; omega), if_neg (by omega)]
    rfl)
  generalize setV (fitN n (sg, od, nu, de)) a p false ex (0, 0) = V at HV ⊢
  by_cases hs : sg = 2 ∧ 0 < od
  · have HE := Lib.hid (show V = (0, 0) by rw [HV.out, if_pos hs])
    obtain ⟨rfl, ho⟩ := hs
    clear HV hu
    go_enter Tryz.func100, Tryz.ntmps100
    go_wp2_with (go_at_call 98; refine (HF.out _).mono ?_; rintro e w2 ⟨rfl, hb2⟩; have hk2 : Blk w2 w.heap.size 109 #[.int .i64 x, .int .i64 a, .int .i64 b, .int .i64 c, .int .i64 d, .int .i64 p, .int .i64 q, .int .i64 r, .int .i64 s] := Blk.below (Blk.new w _ _) hb2 (by simp); have hc1 : w2.cell? ⟨w.heap.size, 1, none⟩ = some (.int .i64 a) := Blk.cell hk2 1; have hc5 : w2.cell? ⟨w.heap.size, 5, none⟩ = some (.int .i64 p) := Blk.cell hk2 5; have hf5 := Blk.free hk2 5; have HB2 := Lib.hid (andThen (andAlloc (Below.refl _ w) (.cells #[.int .i64 x, .int .i64 a, .int .i64 b, .int .i64 c, .int .i64 d, .int .i64 p, .int .i64 q, .int .i64 r, .int .i64 s] 109)) hb2); clear hk2 hb2)
    go_returns
    rw [HE.out]
    exact ⟨rfl, HB2.out⟩
  · have hh : sg = 0 ∨ (sg = 2 ∧ od ≤ 0) := by
      rcases hu with ⟨h1, _⟩ | h1
      · exact .inl h1
      · exact .inr ⟨h1, by have : ¬ 0 < od := fun h => hs ⟨h1, h⟩; omega⟩
    have HV2 := Lib.hid (show V = if max 0 p < -ex then (1000000, -ex - max 0 p) else (Sc.bdV (held (-ex)) (held p), 0) by rw [HV.out, if_neg hs])
    clear HV hu hs
    by_cases hp : p < 0
    · have h1 : (0 : Int) < -ex := by omega
      have HE := Lib.hid (show V = (1000000, -ex) by rw [HV2.out, show max 0 p = 0 by omega, if_pos (by omega), Int.sub_zero])
      clear HV2
      rcases hh with rfl | ⟨rfl, ho⟩
      all_goals
        go_enter Tryz.func100, Tryz.ntmps100
        go_wp2_with (go_at_call 98; refine (HF.out _).mono ?_; rintro e w2 ⟨rfl, hb2⟩; have hk2 : Blk w2 w.heap.size 109 #[.int .i64 x, .int .i64 a, .int .i64 b, .int .i64 c, .int .i64 d, .int .i64 p, .int .i64 q, .int .i64 r, .int .i64 s] := Blk.below (Blk.new w _ _) hb2 (by simp); have hc1 : w2.cell? ⟨w.heap.size, 1, none⟩ = some (.int .i64 a) := Blk.cell hk2 1; have hc5 : w2.cell? ⟨w.heap.size, 5, none⟩ = some (.int .i64 p) := Blk.cell hk2 5; have hf5 := Blk.free hk2 5; have HB2 := Lib.hid (andThen (andAlloc (Below.refl _ w) (.cells #[.int .i64 x, .int .i64 a, .int .i64 b, .int .i64 c, .int .i64 d, .int .i64 p, .int .i64 q, .int .i64 r, .int .i64 s] 109)) hb2); clear hk2 hb2)
        go_returns
        rw [HE.out]
        exact ⟨rfl, HB2.out⟩
    · by_cases hlt : p < -ex
      · have HE := Lib.hid (show V = (1000000, -ex - p) by rw [HV2.out, show max 0 p = p by omega, if_pos hlt])
        clear HV2
        rcases hh with rfl | ⟨rfl, ho⟩
        all_goals
          go_enter Tryz.func100, Tryz.ntmps100
          go_wp2_with (go_at_call 98; refine (HF.out _).mono ?_; rintro e w2 ⟨rfl, hb2⟩; have hk2 : Blk w2 w.heap.size 109 #[.int .i64 x, .int .i64 a, .int .i64 b, .int .i64 c, .int .i64 d, .int .i64 p, .int .i64 q, .int .i64 r, .int .i64 s] := Blk.below (Blk.new w _ _) hb2 (by simp); have hc1 : w2.cell? ⟨w.heap.size, 1, none⟩ = some (.int .i64 a) := Blk.cell hk2 1; have hc5 : w2.cell? ⟨w.heap.size, 5, none⟩ = some (.int .i64 p) := Blk.cell hk2 5; have hf5 := Blk.free hk2 5; have HB2 := Lib.hid (andThen (andAlloc (Below.refl _ w) (.cells #[.int .i64 x, .int .i64 a, .int .i64 b, .int .i64 c, .int .i64 d, .int .i64 p, .int .i64 q, .int .i64 r, .int .i64 s] 109)) hb2); clear hk2 hb2)
          go_returns
          rw [HE.out]
          exact ⟨rfl, HB2.out⟩
      · have HE := Lib.hid (show V = (Sc.bdV (held (-ex)) (held p), 0) by rw [HV2.out, show max 0 p = p by omega, if_neg hlt])
        clear HV2
        rcases hh with rfl | ⟨rfl, ho⟩
        all_goals
          go_enter Tryz.func100, Tryz.ntmps100
          go_wp2_with (first | (go_at_call 98; refine (HF.out _).mono ?_; rintro e w2 ⟨rfl, hb2⟩; have hk2 : Blk w2 w.heap.size 109 #[.int .i64 x, .int .i64 a, .int .i64 b, .int .i64 c, .int .i64 d, .int .i64 p, .int .i64 q, .int .i64 r, .int .i64 s] := Blk.below (Blk.new w _ _) hb2 (by simp); have hc1 : w2.cell? ⟨w.heap.size, 1, none⟩ = some (.int .i64 a) := Blk.cell hk2 1; have hc5 : w2.cell? ⟨w.heap.size, 5, none⟩ = some (.int .i64 p) := Blk.cell hk2 5; have hf5 := Blk.free hk2 5; have HB2 := Lib.hid (andThen (andAlloc (Below.refl _ w) (.cells #[.int .i64 x, .int .i64 a, .int .i64 b, .int .i64 c, .int .i64 d, .int .i64 p, .int .i64 q, .int .i64 r, .int .i64 s] 109)) hb2); clear hk2 hb2) | (go_at_call 165; refine (rheld_any _ _).mono ?_; rintro e w' ⟨rfl, rfl⟩) | (go_at_call 164; refine (Ss.refBad _ _ _).mono ?_; rintro e w3 ⟨rfl, hb3⟩))
          go_returns
          rw [HE.out]
          exact ⟨rfl, andThen HB2.out hb3⟩
theorem rbad_any (x a b c d p q r s ex : Int) (n : Nd) (em : Bool) (w : World) (e0 : Gl.nearB ex = true) (e1 : Gl.nearB a = true) (e2 : Gl.nearB p = true) (e3 : Gl.nearB b = true) (e4 : Gl.nearB q = true) (e5 : Gl.nearB c = true) (e6 : Gl.nearB r = true) (e7 : Gl.nearB d = true) (e8 : Gl.nearB s = true) :
    Calls Tryz.prog 100 #[.bool em, .agg #[.int .i64 x, .int .i64 a, .int .i64 b, .int .i64 c, .int .i64 d, .int .i64 p, .int .i64 q, .int .i64 r, .int .i64 s], .int .i64 ex] w (BadO w (setV (fitN n (Gl.fit a b c d p q r s ex)) a p em ex (0, 0))) := by
  by_cases h0 : em = true ∨ ex = 0
  · exact bad_zero x a b c d p q r s ex _ em w h0
  · have hem : em = false := by cases em <;> simp_all
    subst hem
    have hx : ¬ ex = 0 := fun h => h0 (.inr h)
    rcases Int.lt_trichotomy 0 ex with h | h | h
    · exact bad_up x a b c d p q r s ex n w h e0 e1 e2 e3 e4 e5 e6 e7 e8
    · exact absurd h.symm hx
    · exact bad_dn x a b c d p q r s ex n w h e0 e1 e2 e3 e4 e5 e6 e7 e8
end Go.Proofs.YtoboecenlangmaaGreat.Pk
end
section
namespace Go.Proofs.YtoboecenlangmaaGreat.Pk
open Go.ChangeShapes Go.WideShapes Go.ChangeAt Go.RowKit
open Me Np No
set_option linter.unusedVariables false
set_option linter.unusedSimpArgs false

/-- What the loop of the document's Parted holds. -/
structure InvR (ns : List Nd) (w : World) (R : List Nd × List Nd) (xs : List Nat) (i : Nat) (v u : Value) (wr : World) : Prop where
  rest : ∃ a s, Stand ns a (xs.drop i) ∧ partF ns (xs.drop i) s = R ∧ s.1.length ≤ a ∧ s.2.length ≤ a ∧ Own2 wr w.heap.size v u s.1 s.2
  low : Below w.heap.size w wr
theorem Stand.more {ns : List Nd} {a y : Nat} {ys zs : List Nat} (h : Stand ns a ys) (he : ys = y :: zs) : a < ns.length := by
  have hi := h.its
  rw [he] at hi
  obtain ⟨_, m, hm, _⟩ := hi
  have := endc_bd hm
  rw [List.length_drop] at this
  omega
theorem get_dropN {l : List Nat} {k : Nat} (h : k < l.length) : ∃ x, l[k]? = some x ∧ l.drop k = x :: l.drop (k + 1) := ⟨l[k], List.getElem?_eq_getElem h, List.drop_eq_getElem_cons h⟩
theorem block_cell {w w' : World} {p : Addr} {v : Value} (hb : Below w.heap.size w w') (h : w.cell? p = some v) : w'.cell? p = some v := (hb.cell (block_lt_of_cell h)).trans h
set_option maxHeartbeats 4000000 in
set_option maxRecDepth 100000 in
theorem rparted_any (A : Option Addr) (ns : List Nd) (c : Nat) (w : World) (hc : chk ns = 0) (hcap : ns.length ≤ c) (hseg : Seg w w.heap.size A (ns.flatMap ncs)) :
    Calls Tryz.prog 49 #[.slice A ns.length c] w fun e w' => ∃ v u, e = .returned (.tuple #[v, u]) ∧ Own2 w' w.heap.size v u (partD ns).1 (partD ns).2 ∧ Below w.heap.size w w' := by
  have hl := (chk_run hc).1
  have HEN := Lib.hid (fun (a m : Nat) w1 (h : Below w.heap.size w w1) hm hk => rends_any A ns c a m w1 (by omega) (Seg.belowW hseg h) hm hk)
  have HSR := Lib.hid (rstarts_any A ns c (itsD ns) w hl hseg (itsD_is hc) (fun x hx n hn => by obtain ⟨n', h1, h2, _⟩ := its_beg hc (itsD_is hc) x hx; rw [hn] at h1; injection h1 with h1; rw [h1]; exact h2))
  have HSG := Lib.hid hseg
  have HST := Lib.hid (stand0 hc (itsD_is hc))
  have HCK := Lib.hid hc
  have HR := Lib.hid (show partF ns (itsD ns) ([], []) = partD ns from rfl)
  generalize partD ns = R at HR ⊢
  generalize itsD ns = xs at HR HST HSR
  clear hc hseg
  have hl0 := Lib.hid hl
  generalize hlen : ns.length = len at *
  have HL := Lib.hid hlen
  clear hlen
  go_enter Tryz.func49, Tryz.ntmps49
  go_wp2_with fail
  refine HSR.out.mono ?_
  rintro e w0 ⟨vx, rfl, hox, hb0⟩
  obtain ⟨Ax, cx, hvx⟩ := made_len hox
  have HOX := Lib.hid hox
  have HB0 := Lib.hid hb0
  rw [hvx]
  have HVX := Lib.hid hvx
  clear hox hb0 hvx HSR
  have HXL := Lib.hid (rfl : xs.length = xs.length)
  have hxl : xs.length ≤ 2000 := by have := HST.out.its.len; simp at this; have := HL.out; omega
  go_wp2_with fail
  go_loopw [4, 5, 7] (fun v2 v3 v4 wr => ∃ i : Nat, i ≤ xs.length ∧ v4 = .int .i64 (i : Int) ∧ InvR ns w0 R xs i v2 v3 wr) (fun _ _ v4 _ => xs.length - (intOf v4).toNat)
  case atStart => exact ⟨0, by omega, rfl, ⟨0, ([], []), HST.out, HR.out, by simp, by simp, World.ownsRow_nil _ _ _ _, World.ownsRow_nil _ _ _ _, .inl rfl, .inl rfl⟩, Below.refl _ _⟩
  case round =>
    obtain ⟨i, hix, rfl, hI⟩ := hrel
    obtain ⟨a, s, hst, hR, h1, h2, hO⟩ := hI.rest
    have HLOW0 := Lib.hid hI.low
    have HLOW := Lib.hid (andThen HB0.out hI.low)
    have hal := hst.le
    rw [HL.out] at hal
    by_cases hlt : i < xs.length
    · obtain ⟨y, hy, hdy⟩ := get_dropN hlt
      have hlt2 : a < len := by have := Stand.more hst hdy; rw [HL.out] at this; exact this
      obtain ⟨m, zs, x, hyz, hm, hm1, ham, hst', _, hx, h6, h11⟩ := hst.step (by rw [HL.out]; exact hl) (by rw [HL.out]; exact hlt2)
      rw [hdy] at hyz
      injection hyz with e1 e2
      subst e1
      rw [← e2] at hst'
      rw [hdy] at hR
      rw [HL.out] at ham
      obtain ⟨b, off, rfl, hb, hnode⟩ := seg_node HSG.out hx
      have hn1 : wr.cell? ⟨b, off + y * 19, none⟩ = some (.int .i64 x.kind) := (hnode.below HLOW.out hb) 0 _ rfl
      obtain ⟨gx, rfl, hcx⟩ : ∃ gx, Ax = some ⟨gx, 0, none⟩ ∧ wr.cell? ⟨gx, i, none⟩ = some (.int .i64 (y : Int)) := by
        have ho := own_below HOX.out HLOW0.out
        rw [HVX.out] at ho
        rcases ho.2 with ⟨_, h0⟩ | ⟨g, cap, cur, h', _, _, _⟩
        · omega
        · injection h' with h' _ _
          subst h'
          refine ⟨g, rfl, (ho.cellAt i (by omega)).trans ?_⟩
          rw [List.getElem?_map, hy]
          rfl
      have HS := Lib.hid (And.intro hst' (And.intro hR hO))
      have HX := Lib.hid (And.intro hx hm)
      have HB := Lib.hid (show ∀ n, ns[y]? = some n → ¬ n.kind = 6 from fun n hn => by rw [hx] at hn; injection hn with hn; rw [← hn]; exact h6)
      have HH := Lib.hid (And.intro h1 h2)
      clear hst' hR hO hx hm hnode hI hst h1 h2 hdy hy
      have hifs : (if c = y then some (⟨b, off, none⟩ : Addr) else some ⟨b, off + y * 19, none⟩) = some ⟨b, off + y * 19, none⟩ := if_neg (by omega)
      have HIF := Lib.hid hifs
      have HTL := Lib.hid (show ((ns.drop y).take m).length = m from take_len (by rw [HL.out]; exact ham))
      have HAD := Lib.hid (fun w1 (h : Below w.heap.size w w1) => show ∀ j u, (((ns.drop y).take m).flatMap ncs)[j]? = some u → w1.cell? ⟨b, off + y * 19 + j, none⟩ = some u by
        rw [flat_take ncs_length, flat_drop ncs_length]
        intro j u hu
        have := seg_cells (Seg.take (Seg.drop (HSG.out.below h) (y * 19)) (m * 19)) j u hu
        have hadd : (⟨b, off + y * 19, none⟩ : Addr).add j = ⟨b, off + y * 19 + j, none⟩ := by unfold Addr.add; split <;> simp_all
        rwa [hadd] at this)
      clear hifs
      have hal1 : (y : Int) + m ≤ len := by omega
      have hal2 : (y : Int) + m ≤ c := by omega
      have hal3 : (y : Int) ≤ y + m := by omega
      have HTI : (inn ns y m).length ≤ m := by unfold inn; rw [List.length_take]; omega
      by_cases k13 : x.kind = 13
      · have e13 : (x.kind == 13) = true := by simp [k13]
        have HP := Lib.hid (pstep_out (s := s) HX.out.1 HX.out.2 (.inl k13))
        clear k13 h6 h11
        go_wp2_with (first | (go_at_call 93; refine (HEN.out y m _ HLOW.out HX.out.2 HB.out).mono ?_; rintro e w1 ⟨rfl, hb1⟩; have hn2 : w1.cell? ⟨b, off + y * 19, none⟩ = some (.int .i64 x.kind) := (block_cell hb1 hn1); have hcx2 : w1.cell? ⟨gx, i, none⟩ = some (.int .i64 (y : Int)) := (block_cell hb1 hcx); have HB1 := Lib.hid hb1; have HO1 := Lib.hid (HS.out.2.2.below hb1); have HL1 := Lib.hid (andThen HLOW.out hb1); have HL0 := Lib.hid (andThen HLOW0.out hb1); clear hb1) | (at_builtin; go_loud (refine wpList_append_at rfl (.tmp 43) (.tmp 50) rfl w0.heap.size HL0.out.size _ _ _ rfl HO1.out.two b (off + y * 19) (c - y) (y + m - y) ((ns.drop y).take m) rfl (by rw [HTL.out]; omega) (.inr (Nat.lt_of_lt_of_le hb HL1.out.size)) (HAD.out _ HL1.out) (by rw [HTL.out]; have := HH.out.2; omega) ?_; intro v3 W3 hown3 hg3 hv3; have HG3 := Lib.hid (HO1.out.swap.grow hown3 hg3 hv3); have hlow3 := below_grown (Nat.le_refl _) HL0.out hg3 (fun q hq => (HO1.out.two.lt q hq).1); have HLW3 := Lib.hid hlow3; clear hown3 hg3 hv3 hlow3)))
        go_roundw
        case rel =>
          refine ⟨i + 1, by omega, by go_num, ⟨y + m, _, HS.out.1, HS.out.2.1, ?_, ?_, ?_⟩, HLW3.out⟩
          · rw [HP.out]; have := HH.out; have := HTL.out; simp only [List.length_append]; omega
          · rw [HP.out]; have := HH.out; have := HTL.out; have := HTI; simp only [List.length_append]; omega
          · rw [HP.out]; exact HG3.out.swap
        case measure => simp [intOf]; omega
      · have e13 : (x.kind == 13) = false := by simp [k13]
        by_cases k12 : x.kind = 12
        · have e12 : (x.kind == 12) = true := by simp [k12]
          have HP := Lib.hid (pstep_out (s := s) HX.out.1 HX.out.2 (.inr k12))
          clear k13 k12 h6 h11
          go_wp2_with (first | (go_at_call 93; refine (HEN.out y m _ HLOW.out HX.out.2 HB.out).mono ?_; rintro e w1 ⟨rfl, hb1⟩; have hn2 : w1.cell? ⟨b, off + y * 19, none⟩ = some (.int .i64 x.kind) := (block_cell hb1 hn1); have hcx2 : w1.cell? ⟨gx, i, none⟩ = some (.int .i64 (y : Int)) := (block_cell hb1 hcx); have HB1 := Lib.hid hb1; have HO1 := Lib.hid (HS.out.2.2.below hb1); have HL1 := Lib.hid (andThen HLOW.out hb1); have HL0 := Lib.hid (andThen HLOW0.out hb1); clear hb1) | (at_builtin; go_loud (refine wpList_append_at rfl (.tmp 43) (.tmp 50) rfl w0.heap.size HL0.out.size _ _ _ rfl HO1.out.two b (off + y * 19) (c - y) (y + m - y) ((ns.drop y).take m) rfl (by rw [HTL.out]; omega) (.inr (Nat.lt_of_lt_of_le hb HL1.out.size)) (HAD.out _ HL1.out) (by rw [HTL.out]; have := HH.out.2; omega) ?_; intro v3 W3 hown3 hg3 hv3; have HG3 := Lib.hid (HO1.out.swap.grow hown3 hg3 hv3); have hlow3 := below_grown (Nat.le_refl _) HL0.out hg3 (fun q hq => (HO1.out.two.lt q hq).1); have HLW3 := Lib.hid hlow3; clear hown3 hg3 hv3 hlow3)))
          go_roundw
          case rel =>
            refine ⟨i + 1, by omega, by go_num, ⟨y + m, _, HS.out.1, HS.out.2.1, ?_, ?_, ?_⟩, HLW3.out⟩
            · rw [HP.out]; have := HH.out; have := HTL.out; simp only [List.length_append]; omega
            · rw [HP.out]; have := HH.out; have := HTL.out; have := HTI; simp only [List.length_append]; omega
            · rw [HP.out]; exact HG3.out.swap
          case measure => simp [intOf]; omega
        · have e12 : (x.kind == 12) = false := by simp [k12]
          by_cases k17 : x.kind = 17
          · have e17 : (x.kind == 17) = true := by simp [k17]
            have HP := Lib.hid (pstep_in (s := s) HX.out.1 HX.out.2 k17)
            have hm2 : 2 ≤ m := endc_two HX.out.1 (by simp [opensB, k17]) HX.out.2
            have HTN := Lib.hid (inn_len (ns := ns) (by rw [HL.out]; exact ham) hm2)
            have HAI := Lib.hid (fun w1 (h : Below w.heap.size w w1) => show ∀ j u, ((inn ns y m).flatMap ncs)[j]? = some u → w1.cell? ⟨b, off + (y + 1) * 19 + j, none⟩ = some u by
              unfold inn
              rw [flat_take ncs_length, flat_drop ncs_length]
              intro j u hu
              have := seg_cells (Seg.take (Seg.drop (HSG.out.below h) ((y + 1) * 19)) ((m - 2) * 19)) j u hu
              have hadd : (⟨b, off + (y + 1) * 19, none⟩ : Addr).add j = ⟨b, off + (y + 1) * 19 + j, none⟩ := by unfold Addr.add; split <;> simp_all
              rwa [hadd] at this)
            clear k13 k12 k17 h6 h11
            go_wp2_with (first | (go_at_call 93; refine (HEN.out y m _ HLOW.out HX.out.2 HB.out).mono ?_; rintro e w1 ⟨rfl, hb1⟩; have hn2 : w1.cell? ⟨b, off + y * 19, none⟩ = some (.int .i64 x.kind) := (block_cell hb1 hn1); have hcx2 : w1.cell? ⟨gx, i, none⟩ = some (.int .i64 (y : Int)) := (block_cell hb1 hcx); have HB1 := Lib.hid hb1; have HO1 := Lib.hid (HS.out.2.2.below hb1); have HL1 := Lib.hid (andThen HLOW.out hb1); have HL0 := Lib.hid (andThen HLOW0.out hb1); clear hb1) | (at_builtin; go_loud (refine wpList_append_at rfl (.tmp 54) (.tmp 63) rfl w0.heap.size HL0.out.size _ _ _ rfl HO1.out.two b (off + (y + 1) * 19) (c - (y + 1)) (y + m - 1 - (y + 1)) (inn ns y m) rfl (by rw [HTN.out]; omega) (.inr (Nat.lt_of_lt_of_le hb HL1.out.size)) (HAI.out _ HL1.out) (by rw [HTN.out]; have := HH.out.2; omega) ?_; intro v3 W3 hown3 hg3 hv3; have HG3 := Lib.hid (HO1.out.swap.grow hown3 hg3 hv3); have hlow3 := below_grown (Nat.le_refl _) HL0.out hg3 (fun q hq => (HO1.out.two.lt q hq).1); have HLW3 := Lib.hid hlow3; clear hown3 hg3 hv3 hlow3)))
            go_roundw
            case rel =>
              refine ⟨i + 1, by omega, by go_num, ⟨y + m, _, HS.out.1, HS.out.2.1, ?_, ?_, ?_⟩, HLW3.out⟩
              · rw [HP.out]; have := HH.out; simp only; omega
              · rw [HP.out]; have := HH.out; have := HTI; simp only [List.length_append]; omega
              · rw [HP.out]; exact HG3.out.swap
            case measure => simp [intOf]; omega
          · have e17 : (x.kind == 17) = false := by simp [k17]
            have HP := Lib.hid (pstep_stay (s := s) HX.out.1 HX.out.2 k13 k12 k17)
            clear k13 k12 k17 h6 h11
            go_wp2_with (first | (go_at_call 93; refine (HEN.out y m _ HLOW.out HX.out.2 HB.out).mono ?_; rintro e w1 ⟨rfl, hb1⟩; have hn2 : w1.cell? ⟨b, off + y * 19, none⟩ = some (.int .i64 x.kind) := (block_cell hb1 hn1); have hcx2 : w1.cell? ⟨gx, i, none⟩ = some (.int .i64 (y : Int)) := (block_cell hb1 hcx); have HB1 := Lib.hid hb1; have HO1 := Lib.hid (HS.out.2.2.below hb1); have HL1 := Lib.hid (andThen HLOW.out hb1); have HL0 := Lib.hid (andThen HLOW0.out hb1); clear hb1) | (at_builtin; go_loud (refine wpList_append_at rfl (.tmp 31) (.tmp 38) rfl w0.heap.size HL0.out.size _ _ _ rfl HO1.out.one b (off + y * 19) (c - y) (y + m - y) ((ns.drop y).take m) rfl (by rw [HTL.out]; omega) (.inr (Nat.lt_of_lt_of_le hb HL1.out.size)) (HAD.out _ HL1.out) (by rw [HTL.out]; have := HH.out.1; omega) ?_; intro v3 W3 hown3 hg3 hv3; have HG3 := Lib.hid (HO1.out.grow hown3 hg3 hv3); have hlow3 := below_grown (Nat.le_refl _) HL0.out hg3 (fun q hq => (HO1.out.one.lt q hq).1); have HLW3 := Lib.hid hlow3; clear hown3 hg3 hv3 hlow3)))
            go_roundw
            case rel =>
              refine ⟨i + 1, by omega, by go_num, ⟨y + m, _, HS.out.1, HS.out.2.1, ?_, ?_, ?_⟩, HLW3.out⟩
              · rw [HP.out]; have := HH.out; have := HTL.out; simp only [List.length_append]; omega
              · rw [HP.out]; have := HH.out; have := HTL.out; have := HTI; simp only [List.length_append]; omega
              · rw [HP.out]; exact HG3.out
            case measure => simp [intOf]; omega
    · obtain rfl : i = xs.length := by omega
      rw [List.drop_length] at hst hR
      have HS := Lib.hid (And.intro hR hO)
      clear hI hst hR hO h1 h2
      go_wp2_with fail
      go_ret2
      exact ⟨_, _, rfl, HS.out.1 ▸ ⟨own_base HS.out.2.one HB0.out.size, own_base HS.out.2.two HB0.out.size, HS.out.2.dist, HS.out.2.dist'⟩, HLOW.out⟩
end Go.Proofs.YtoboecenlangmaaGreat.Pk
end
section
namespace Go.Proofs.YtoboecenlangmaaGreat.Pk
open Go.ChangeShapes Go.WideShapes Go.ChangeAt Go.RowKit
open Me Np No
set_option linter.unusedVariables false
set_option linter.unusedSimpArgs false

theorem blkFit {w : World} {g : Nat} {n : Nd} (h : Blk w g 101 (nc n)) (sg od nu de : Int) :
    Blk ((((w.setCell ⟨g, 12, none⟩ (.int .i64 sg)).setCell ⟨g, 13, none⟩ (.int .i64 od)).setCell ⟨g, 14, none⟩ (.int .i64 nu)).setCell ⟨g, 15, none⟩ (.int .i64 de)) g 101 (nc (fitN n (sg, od, nu, de))) :=
  Blk.set (Blk.set (Blk.set (Blk.set h 12 (.int .i64 sg)) 13 (.int .i64 od)) 14 (.int .i64 nu)) 15 (.int .i64 de)
theorem nodeFit {w : World} {g : Nat} {n : Nd} (h : Blk w g 101 (nc n)) (sg od nu de : Int) :
    NodeAt ((((w.setCell ⟨g, 12, none⟩ (.int .i64 sg)).setCell ⟨g, 13, none⟩ (.int .i64 od)).setCell ⟨g, 14, none⟩ (.int .i64 nu)).setCell ⟨g, 15, none⟩ (.int .i64 de)) g 0 (fitN n (sg, od, nu, de)) :=
  Blk.node (blkFit h sg od nu de)
theorem setFour {w0 w : World} (h : Below w0.heap.size w0 w) (sg od nu de : Int) :
    Below w0.heap.size w0 ((((w.setCell ⟨w0.heap.size, 12, none⟩ (.int .i64 sg)).setCell ⟨w0.heap.size, 13, none⟩ (.int .i64 od)).setCell ⟨w0.heap.size, 14, none⟩ (.int .i64 nu)).setCell ⟨w0.heap.size, 15, none⟩ (.int .i64 de)) :=
  by
  refine Below.setCell ?_ (by exact Nat.le_refl _) _
  refine Below.setCell ?_ (by exact Nat.le_refl _) _
  refine Below.setCell ?_ (by exact Nat.le_refl _) _
  refine Below.setCell ?_ (by exact Nat.le_refl _) _
  exact h
theorem keepFour {w : World} {g t : Nat} {cs : Array Value} (h : Blk w (g + 1) t cs) (sg od nu de : Int) :
    Blk ((((w.setCell ⟨g, 12, none⟩ (.int .i64 sg)).setCell ⟨g, 13, none⟩ (.int .i64 od)).setCell ⟨g, 14, none⟩ (.int .i64 nu)).setCell ⟨g, 15, none⟩ (.int .i64 de)) (g + 1) t cs :=
  (((h.far (p := ⟨g, 12, none⟩) (by simp) (.int .i64 sg)).far (p := ⟨g, 13, none⟩) (by simp) (.int .i64 od)).far (p := ⟨g, 14, none⟩) (by simp) (.int .i64 nu)).far (p := ⟨g, 15, none⟩) (by simp) (.int .i64 de)
def BxO (L : List Nd) (V : Int × Int) (e3 : Int) (w : World) (e : Ending) (w' : World) : Prop :=
  if e3 = 0 then (∃ v, e = .returned (.tuple #[v, .int .i64 V.1, .int .i64 V.2, .int .i64 0]) ∧ w'.ownsRow w.heap.size 101 19 v L.length (L.flatMap ncs) ∧ Below w.heap.size w w')
  else e = .returned (.tuple #[.slice none 0 0, .int .i64 0, .int .i64 0, .int .i64 e3]) ∧ Below w.heap.size w w'
attribute [local go_sem ↓] ldN_eq
set_option maxHeartbeats 2000000 in
set_option maxRecDepth 100000 in
theorem rboxed_any (n : Nd) (A : Option Addr) (S L : List Nd) (k : Nat) (x a b c d p q r s ex e3 : Int) (em : Bool) (w : World) (hem : ((S.length : Int) == 0) = em) (hS : S.length ≤ 2000) (hseg : Seg w w.heap.size A (S.flatMap ncs)) (hA : A = none → k = 0)
    (hw : ∀ (A : Option Addr) (c' : Nat) (w : World), Seg w w.heap.size A (S.flatMap ncs) → (A = none → c' = 0) → Calls Tryz.prog 99 #[.agg (nc (fitN n (Gl.fit a b c d p q r s ex))), .slice A S.length c'] w fun e' w' => ∃ v, e' = .returned (.tuple #[v, .int .i64 e3]) ∧ w'.ownsRow w.heap.size 101 19 v L.length (L.flatMap ncs) ∧ Below w.heap.size w w')
    (e0 : Gl.nearB ex = true) (e1 : Gl.nearB a = true) (e2 : Gl.nearB p = true) (e4 : Gl.nearB b = true) (e5 : Gl.nearB q = true) (e6 : Gl.nearB c = true) (e7 : Gl.nearB r = true) (e8 : Gl.nearB d = true) (e9 : Gl.nearB s = true) :
    Calls Tryz.prog 52 #[.agg (nc n), .slice A S.length k, .agg #[.int .i64 x, .int .i64 a, .int .i64 b, .int .i64 c, .int .i64 d, .int .i64 p, .int .i64 q, .int .i64 r, .int .i64 s], .int .i64 ex] w (BxO L (setV (fitN n (Gl.fit a b c d p q r s ex)) a p em ex (0, 0)) e3 w) := by
  have HF := Lib.hid (fun w => Gl.rfit_all x a b c d p q r s ex w e0 e1 e2 e4 e5 e6 e7 e8 e9)
  have HBD := Lib.hid (fun w => rbad_any x a b c d p q r s ex n em w e0 e1 e2 e4 e5 e6 e7 e8 e9)
  have HWR := Lib.hid (fun (w1 : World) (hb : Below w.heap.size w w1) => hw A k w1 (Seg.belowW hseg hb) hA)
  have HB0 := Lib.hid (andAlloc (andAlloc (Below.refl _ w) (.cells (nc n) 101)) (.cells #[.int .i64 x, .int .i64 a, .int .i64 b, .int .i64 c, .int .i64 d, .int .i64 p, .int .i64 q, .int .i64 r, .int .i64 s] 109))
  have HN0 := Lib.hid (show Blk ((w.alloc (.cells (nc n) 101)).alloc (.cells #[.int .i64 x, .int .i64 a, .int .i64 b, .int .i64 c, .int .i64 d, .int .i64 p, .int .i64 q, .int .i64 r, .int .i64 s] 109)) w.heap.size 101 (nc n) from (Blk.new w _ _).alloc _)
  have HT0 := Lib.hid (show Blk ((w.alloc (.cells (nc n) 101)).alloc (.cells #[.int .i64 x, .int .i64 a, .int .i64 b, .int .i64 c, .int .i64 d, .int .i64 p, .int .i64 q, .int .i64 r, .int .i64 s] 109)) (w.heap.size + 1) 109 #[.int .i64 x, .int .i64 a, .int .i64 b, .int .i64 c, .int .i64 d, .int .i64 p, .int .i64 q, .int .i64 r, .int .i64 s] from Blk.new' (by first | rfl | (simp; done)))
  generalize Gl.fit a b c d p q r s ex = F at *
  obtain ⟨sg, od, nu, de⟩ := F
  simp only at HF
  generalize setV (fitN n (sg, od, nu, de)) a p em ex (0, 0) = V at *
  generalize S.length = len at *
  clear hw hseg
  by_cases h3 : e3 = 0
  · have t3 : (e3 != 0) = false := by simp [h3]
    go_enter Tryz.func52, Tryz.ntmps52
    go_wp2_with (first | (go_at_call 98; refine (HF.out _).mono ?_; rintro e w2 ⟨rfl, hb2⟩; have HB2 := Lib.hid (andThen HB0.out hb2); have HN2 := Lib.hid (show Blk w2 w.heap.size 101 (nc n) from Blk.below HN0.out hb2 (Blk.lt HN0.out)); have HT2 := Lib.hid (show Blk w2 (w.heap.size + 1) 109 #[.int .i64 x, .int .i64 a, .int .i64 b, .int .i64 c, .int .i64 d, .int .i64 p, .int .i64 q, .int .i64 r, .int .i64 s] from Blk.below HT0.out hb2 (Blk.lt HT0.out)); have hd12 : w2.cell? ⟨w.heap.size, 12, none⟩ = some (.int .i64 n.sign) := Blk.cell HN2.out 12; have hf12 := Blk.free HN2.out 12; have hd13 : w2.cell? ⟨w.heap.size, 13, none⟩ = some (.int .i64 n.order) := Blk.cell HN2.out 13; have hf13 := Blk.free HN2.out 13; have hd14 : w2.cell? ⟨w.heap.size, 14, none⟩ = some (.int .i64 n.num) := Blk.cell HN2.out 14; have hf14 := Blk.free HN2.out 14; have hd15 : w2.cell? ⟨w.heap.size, 15, none⟩ = some (.int .i64 n.den) := Blk.cell HN2.out 15; have hf15 := Blk.free HN2.out 15; have hld := run_ldN (nodeFit HN2.out sg od nu de); have HW2 := Lib.hid (setFour HB2.out sg od nu de); have HT3 := Lib.hid (keepFour HT2.out sg od nu de); clear hb2) | (go_at_call 99; refine (HWR.out _ HW2.out).mono ?_; rintro e w3 ⟨v, rfl, ho3, hb3⟩; have HO3 := Lib.hid (And.intro ho3 hb3); have hT3 : Blk w3 (w.heap.size + 1) 109 #[.int .i64 x, .int .i64 a, .int .i64 b, .int .i64 c, .int .i64 d, .int .i64 p, .int .i64 q, .int .i64 r, .int .i64 s] := Blk.below HT3.out hb3 (by have := Blk.lt HT3.out; exact this); have ht0 : w3.cell? ⟨w.heap.size + 1, 0, none⟩ = some (.int .i64 x) := Blk.cell hT3 0; have ht1 : w3.cell? ⟨w.heap.size + 1, 1, none⟩ = some (.int .i64 a) := Blk.cell hT3 1; have ht2 : w3.cell? ⟨w.heap.size + 1, 2, none⟩ = some (.int .i64 b) := Blk.cell hT3 2; have ht3 : w3.cell? ⟨w.heap.size + 1, 3, none⟩ = some (.int .i64 c) := Blk.cell hT3 3; have ht4 : w3.cell? ⟨w.heap.size + 1, 4, none⟩ = some (.int .i64 d) := Blk.cell hT3 4; have ht5 : w3.cell? ⟨w.heap.size + 1, 5, none⟩ = some (.int .i64 p) := Blk.cell hT3 5; have ht6 : w3.cell? ⟨w.heap.size + 1, 6, none⟩ = some (.int .i64 q) := Blk.cell hT3 6; have ht7 : w3.cell? ⟨w.heap.size + 1, 7, none⟩ = some (.int .i64 r) := Blk.cell hT3 7; have ht8 : w3.cell? ⟨w.heap.size + 1, 8, none⟩ = some (.int .i64 s) := Blk.cell hT3 8; clear ho3 hb3 hT3) | (go_at_call 100; refine (HBD.out _).mono ?_; rintro e w4 ⟨rfl, hb4⟩; have HB4 := Lib.hid hb4; clear hb4))
    go_returns
    unfold BxO
    rw [if_pos h3]
    exact ⟨_, rfl, own_below (own_base HO3.out.1 HW2.out.size) HB4.out, andThen (andThen HW2.out HO3.out.2) HB4.out⟩
  · have t3 : (e3 != 0) = true := by simp [h3]
    go_enter Tryz.func52, Tryz.ntmps52
    go_wp2_with (first | (go_at_call 98; refine (HF.out _).mono ?_; rintro e w2 ⟨rfl, hb2⟩; have HB2 := Lib.hid (andThen HB0.out hb2); have HN2 := Lib.hid (show Blk w2 w.heap.size 101 (nc n) from Blk.below HN0.out hb2 (Blk.lt HN0.out)); have HT2 := Lib.hid (show Blk w2 (w.heap.size + 1) 109 #[.int .i64 x, .int .i64 a, .int .i64 b, .int .i64 c, .int .i64 d, .int .i64 p, .int .i64 q, .int .i64 r, .int .i64 s] from Blk.below HT0.out hb2 (Blk.lt HT0.out)); have hd12 : w2.cell? ⟨w.heap.size, 12, none⟩ = some (.int .i64 n.sign) := Blk.cell HN2.out 12; have hf12 := Blk.free HN2.out 12; have hd13 : w2.cell? ⟨w.heap.size, 13, none⟩ = some (.int .i64 n.order) := Blk.cell HN2.out 13; have hf13 := Blk.free HN2.out 13; have hd14 : w2.cell? ⟨w.heap.size, 14, none⟩ = some (.int .i64 n.num) := Blk.cell HN2.out 14; have hf14 := Blk.free HN2.out 14; have hd15 : w2.cell? ⟨w.heap.size, 15, none⟩ = some (.int .i64 n.den) := Blk.cell HN2.out 15; have hf15 := Blk.free HN2.out 15; have hld := run_ldN (nodeFit HN2.out sg od nu de); have HW2 := Lib.hid (setFour HB2.out sg od nu de); have HT3 := Lib.hid (keepFour HT2.out sg od nu de); clear hb2) | (go_at_call 99; refine (HWR.out _ HW2.out).mono ?_; rintro e w3 ⟨v, rfl, ho3, hb3⟩; have HO3 := Lib.hid (And.intro ho3 hb3); have hT3 : Blk w3 (w.heap.size + 1) 109 #[.int .i64 x, .int .i64 a, .int .i64 b, .int .i64 c, .int .i64 d, .int .i64 p, .int .i64 q, .int .i64 r, .int .i64 s] := Blk.below HT3.out hb3 (by have := Blk.lt HT3.out; exact this); have ht0 : w3.cell? ⟨w.heap.size + 1, 0, none⟩ = some (.int .i64 x) := Blk.cell hT3 0; have ht1 : w3.cell? ⟨w.heap.size + 1, 1, none⟩ = some (.int .i64 a) := Blk.cell hT3 1; have ht2 : w3.cell? ⟨w.heap.size + 1, 2, none⟩ = some (.int .i64 b) := Blk.cell hT3 2; have ht3 : w3.cell? ⟨w.heap.size + 1, 3, none⟩ = some (.int .i64 c) := Blk.cell hT3 3; have ht4 : w3.cell? ⟨w.heap.size + 1, 4, none⟩ = some (.int .i64 d) := Blk.cell hT3 4; have ht5 : w3.cell? ⟨w.heap.size + 1, 5, none⟩ = some (.int .i64 p) := Blk.cell hT3 5; have ht6 : w3.cell? ⟨w.heap.size + 1, 6, none⟩ = some (.int .i64 q) := Blk.cell hT3 6; have ht7 : w3.cell? ⟨w.heap.size + 1, 7, none⟩ = some (.int .i64 r) := Blk.cell hT3 7; have ht8 : w3.cell? ⟨w.heap.size + 1, 8, none⟩ = some (.int .i64 s) := Blk.cell hT3 8; clear ho3 hb3 hT3) | (go_at_call 100; refine (HBD.out _).mono ?_; rintro e w4 ⟨rfl, hb4⟩; have HB4 := Lib.hid hb4; clear hb4))
    go_returns
    unfold BxO
    rw [if_neg h3]
    exact ⟨rfl, andThen HW2.out HO3.out.2⟩
end Go.Proofs.YtoboecenlangmaaGreat.Pk
end
section
namespace Go.Proofs.YtoboecenlangmaaGreat.Pk
open Go.ChangeShapes Go.WideShapes Go.ChangeAt Go.RowKit
open Me Np No
set_option linter.unusedVariables false
set_option linter.unusedSimpArgs false

theorem Src.none0 {w : World} {A : Option Addr} {c : Nat} {l : List Nd} (h : Src w A c l) : A = none → c = 0 := by
  rcases h with ⟨b, off, rfl, _⟩ | ⟨_, rfl, _⟩
  · intro e; cases e
  · intro _; rfl
theorem out2 {w0 w w' : World} {v u : Value} {S O L : List Nd} {base : Nat} (h : Own2 w w0.heap.size v u S O) (hl : Below w0.heap.size w0 w) {vL : Value} (ho : w'.ownsRow base 101 19 vL L.length (L.flatMap ncs)) (hB : w.heap.size ≤ base) (hb : Below w.heap.size w w') (y z : Int) :
    HOut (L, O, y, z, 0) w0 (.returned (.tuple #[vL, u, .int .i64 y, .int .i64 z, .int .i64 0])) w' := by
  have hq : ∀ q, vL.ownBlock = some q → u.ownBlock ≠ some q := fun q h1 h2 => by
    have := (ho.lt q h1).1
    have := (h.two.lt q h2).2
    omega
  refine ⟨vL, u, rfl, ⟨own_base ho (Nat.le_trans hl.size hB), own_below h.two hb, ?_, ?_⟩, andThen hl hb⟩
  · cases e : vL.ownBlock with
    | none => exact .inl rfl
    | some q => exact .inr (fun e' => hq q e e'.symm)
  · cases e : u.ownBlock with
    | none => exact .inl rfl
    | some q => exact .inr (fun e' => hq q e'.symm e)
theorem rhpack_err (A : Option Addr) (ns : List Nd) (k : Nat) (tw : Int) (ex : Bool) (w : World) (hl : ns.length ≤ 9223372036854775806) (hseg : Seg w w.heap.size A (ns.flatMap ncs)) (hc : ¬ chk ns = 0) :
    Calls Tryz.prog 17 #[.slice A ns.length k, .int .i64 tw, .bool ex] w (HOut ([], [], 0, 0, chk ns) w) := by
  have e0 : (chk ns != 0) = true := by simp [hc]
  have e1 : (chk ns == 0) = false := by simp [hc]
  have HC := Lib.hid (rcheckl_any A ns k w (by omega) hseg)
  clear hseg hc
  generalize chk ns = q0 at *
  generalize ns.length = len at *
  go_enter Tryz.func17, Tryz.ntmps17
  go_wp2_with fail
  refine HC.out.mono ?_
  rintro e w1 ⟨rfl, hb1⟩
  go_wp2_with fail
  go_returns
  exact HOut.no hb1 _
theorem rhpack_far (A : Option Addr) (ns : List Nd) (k : Nat) (tw : Int) (ex : Bool) (w : World) (hl : ns.length ≤ 9223372036854775806) (hseg : Seg w w.heap.size A (ns.flatMap ncs)) (hc : chk ns = 0) (ht : dimB tw = false) :
    Calls Tryz.prog 17 #[.slice A ns.length k, .int .i64 tw, .bool ex] w (HOut ([], [], 0, 0, 11) w) := by
  have HC := Lib.hid (rcheckl_any A ns k w (by omega) hseg)
  rw [hc] at HC
  have HD := Lib.hid (fun w => rdimen_any tw w)
  rw [ht] at HD
  clear hseg hc
  generalize ns.length = len at *
  go_enter Tryz.func17, Tryz.ntmps17
  go_wp2_with fail
  refine HC.out.mono ?_
  rintro e w1 ⟨rfl, hb1⟩
  go_wp2_with (go_at_call 48; refine (HD.out _).mono ?_; rintro e w' ⟨rfl, rfl⟩)
  go_returns
  exact HOut.no hb1 _
end Go.Proofs.YtoboecenlangmaaGreat.Pk
end
section
namespace Go.Proofs.YtoboecenlangmaaGreat.Pk
open Go.ChangeShapes Go.WideShapes Go.ChangeAt Go.RowKit
open Me Np No
set_option linter.unusedVariables false
set_option linter.unusedSimpArgs false

theorem run_bldH (W h v : Int) (w : World) : (bldN #[(0, .int .i64 4), (3, .int .i64 W), (4, .int .i64 h), (5, .int .i64 v)]).run Tryz.prog w = .ok (.agg (nc (hN W h v))) w := by
  rw [← bldN_eq]
  exact run_build w 101 #[(0, .int .i64 4), (3, .int .i64 W), (4, .int .i64 h), (5, .int .i64 v)] (nc (hN W h v)) (by kernel_rfl)
attribute [local go_sem ↓] bldN_eq
set_option maxHeartbeats 4000000 in
set_option maxRecDepth 100000 in
theorem rhpack_main (A : Option Addr) (ns S O L : List Nd) (k : Nat) (tw : Int) (ex : Bool) (w : World) (hc : chk ns = 0) (hcap : ns.length ≤ k) (hseg : Seg w w.heap.size A (ns.flatMap ncs)) (ht : dimB tw = true) (hS : partD ns = (S, O)) (x a b c d p q r s e1 h v e2 e3 W : Int) (M : Msr S false x a b c d p q r s e1 h v e2) (MR : MsrR S false x a b c d p q r s e1 h v e2)
    (hW : W = if ex = true then tw else x + tw)
    (hw : ∀ (A : Option Addr) (c' : Nat) (w : World), Seg w w.heap.size A (S.flatMap ncs) → (A = none → c' = 0) → Calls Tryz.prog 99 #[.agg (nc (fitN (hN W h v) (Gl.fit a b c d p q r s (W - x)))), .slice A S.length c'] w fun e' w' => ∃ v, e' = .returned (.tuple #[v, .int .i64 e3]) ∧ w'.ownsRow w.heap.size 101 19 v L.length (L.flatMap ncs) ∧ Below w.heap.size w w') :
    Calls Tryz.prog 17 #[.slice A ns.length k, .int .i64 tw, .bool ex] w (HOut (hpkR e1 e2 (dimB W) e3 L O (setV (fitN (hN W h v) (Gl.fit a b c d p q r s (W - x))) a p ((S.length : Int) == 0) (W - x) (0, 0)).1 (setV (fitN (hN W h v) (Gl.fit a b c d p q r s (W - x))) a p ((S.length : Int) == 0) (W - x) (0, 0)).2) w) := by
  have hSl : S.length ≤ 2000 := by have := (partD_len hc).1; rw [hS] at this; exact this
  have HC := Lib.hid (rcheckl_any A ns k w (by have := (chk_run hc).1; omega) hseg)
  rw [hc] at HC
  have HD := Lib.hid (fun w => rdimen_any tw w)
  rw [ht] at HD
  have HP := Lib.hid (fun w1 (hb : Below w.heap.size w w1) => rparted_any A ns k w1 hc hcap (Seg.belowW hseg hb))
  rw [hS] at HP
  have HM := Lib.hid M
  have HMT := Lib.hid MR.tot
  have HME := Lib.hid MR.ext
  have HW := Lib.hid hw
  obtain ⟨R, hR⟩ : ∃ R, R = hpkR e1 e2 (dimB W) e3 L O (setV (fitN (hN W h v) (Gl.fit a b c d p q r s (W - x))) a p ((S.length : Int) == 0) (W - x) (0, 0)).1 (setV (fitN (hN W h v) (Gl.fit a b c d p q r s (W - x))) a p ((S.length : Int) == 0) (W - x) (0, 0)).2 := ⟨_, rfl⟩
  rw [← hR]
  have HR := Lib.hid hR
  have HWE := Lib.hid hW
  have htw : -1073741823 ≤ tw ∧ tw ≤ 1073741823 := by simpa [dimB] using ht
  clear hR hseg hc hS M MR hw hW ht
  generalize ns.length = len at *
  have hbH := run_bldH
  go_enter Tryz.func17, Tryz.ntmps17
  go_wp2_with fail
  refine HC.out.mono ?_
  rintro e w1 ⟨rfl, hb1⟩
  go_wp2_with (go_at_call 48; refine (HD.out _).mono ?_; rintro e w' ⟨rfl, rfl⟩)
  refine (HP.out _ hb1).mono ?_
  rintro e w2 ⟨vS, vO, rfl, hO, hb2⟩
  have hb12 := andThen hb1 hb2
  obtain ⟨AS, kS, hvS, hkS, hsrc⟩ : ∃ A c, vS = .slice A S.length c ∧ S.length ≤ c ∧ Src w2 A c S := by
    obtain ⟨A, c, h1, h2, _, h4⟩ := Src.own hO.one
    exact ⟨A, c, h1, h2, h4⟩
  subst hvS
  have HH := Lib.hid (show Own2 w2 w.heap.size (.slice AS S.length kS) vO S O from ⟨own_base hO.one hb1.size, own_base hO.two hb1.size, hO.dist, hO.dist'⟩)
  have HB2 := Lib.hid hb12
  have HSG := Lib.hid (fun (w3 : World) (hb : Below w2.heap.size w2 w3) => Seg.belowW hsrc.seg hb)
  have HN0 := Lib.hid (Src.none0 hsrc)
  have HBX := Lib.hid (fun (w3 : World) (hb : Below w2.heap.size w2 w3) (em : Bool) (hem : ((S.length : Int) == 0) = em) e0 e1 e2 e4 e5 e6 e7 e8 e9 => rboxed_any (hN W h v) AS S L kS x a b c d p q r s (W - x) e3 em w3 hem hSl (Seg.belowW hsrc.seg hb) (Src.none0 hsrc) HW.out e0 e1 e2 e4 e5 e6 e7 e8 e9)
  clear hO hb1 hb2 hb12 HC HP HW hsrc
  go_wp2_with fail
  refine (HMT.out AS kS w2 hkS (HSG.out w2 (Below.refl _ _))).mono ?_
  rintro e w4 ⟨rfl, hb4⟩
  have HBA := Lib.hid (fun ob => andAlloc hb4 ob)
  have HB4 := Lib.hid hb4
  clear hb4
  by_cases he1 : e1 = 0
  · have u1 : (e1 != 0) = false := by simp [he1]
    cases ex with
    | true =>
      have hnx := HM.out.nat he1
      have hnx' : -1073741823 ≤ x ∧ x ≤ 1073741823 := by simpa [dimB] using hnx
      have hwe : W = tw := HWE.out
      subst hwe
      have HNW := Lib.hid (show Gl.nearB (W - x) = true by unfold Gl.nearB; rw [decide_eq_true_eq]; omega)
      clear hnx
      by_cases he2 : e2 = 0
      · have u2 : (e2 != 0) = false := by simp [he2]
        by_cases hdw : dimB (W) = true
        · by_cases he3 : e3 = 0
          · have u3 : (e3 != 0) = false := by simp [he3]
            have hr := HR.out
            unfold hpkR at hr
            rw [if_pos he1, if_pos he2, if_pos hdw, if_pos he3] at hr
            have HR' := Lib.hid hr
            clear hr HR
            go_wp2_with (first | (go_at_call 51; refine (HME.out AS kS _ hkS (HSG.out _ (HBA.out _))).mono ?_; rintro e w6 ⟨rfl, hb6⟩; have hT6 : Blk w6 w4.heap.size 109 #[.int .i64 x, .int .i64 a, .int .i64 b, .int .i64 c, .int .i64 d, .int .i64 p, .int .i64 q, .int .i64 r, .int .i64 s] := Blk.below (Blk.new w4 _ _) hb6 (Blk.lt (Blk.new w4 109 #[.int .i64 x, .int .i64 a, .int .i64 b, .int .i64 c, .int .i64 d, .int .i64 p, .int .i64 q, .int .i64 r, .int .i64 s])); have ht0 : w6.cell? ⟨w4.heap.size, 0, none⟩ = some (.int .i64 x) := Blk.cell hT6 0; have ht1 : w6.cell? ⟨w4.heap.size, 1, none⟩ = some (.int .i64 a) := Blk.cell hT6 1; have ht2 : w6.cell? ⟨w4.heap.size, 2, none⟩ = some (.int .i64 b) := Blk.cell hT6 2; have ht3 : w6.cell? ⟨w4.heap.size, 3, none⟩ = some (.int .i64 c) := Blk.cell hT6 3; have ht4 : w6.cell? ⟨w4.heap.size, 4, none⟩ = some (.int .i64 d) := Blk.cell hT6 4; have ht5 : w6.cell? ⟨w4.heap.size, 5, none⟩ = some (.int .i64 p) := Blk.cell hT6 5; have ht6 : w6.cell? ⟨w4.heap.size, 6, none⟩ = some (.int .i64 q) := Blk.cell hT6 6; have ht7 : w6.cell? ⟨w4.heap.size, 7, none⟩ = some (.int .i64 r) := Blk.cell hT6 7; have ht8 : w6.cell? ⟨w4.heap.size, 8, none⟩ = some (.int .i64 s) := Blk.cell hT6 8; have HB6 := Lib.hid (andThen (HBA.out _) hb6); clear hb6 hT6) | (go_at_call 48; refine (rdimen_any _ _).mono ?_; rintro e w' ⟨rfl, rfl⟩) | (go_at_call 52; refine (HBX.out _ HB6.out _ rfl HNW.out (HM.out.near he1).1 (HM.out.near he1).2.2.2.2.1 (HM.out.near he1).2.1 (HM.out.near he1).2.2.2.2.2.1 (HM.out.near he1).2.2.1 (HM.out.near he1).2.2.2.2.2.2.1 (HM.out.near he1).2.2.2.1 (HM.out.near he1).2.2.2.2.2.2.2).mono ?_; rintro e w7 hq; unfold BxO at hq; rw [if_pos he3] at hq; obtain ⟨vL, rfl, ho7, hb7⟩ := hq; have HO7 := Lib.hid (And.intro ho7 hb7); clear ho7 hb7))
            go_returns
            rw [HR'.out]
            exact out2 HH.out HB2.out HO7.out.1 HB6.out.size (andThen HB6.out HO7.out.2) _ _
          · have u3 : (e3 != 0) = true := by simp [he3]
            have hr : R = ([], [], 0, 0, e3) := by rw [HR.out]; unfold hpkR; rw [if_pos he1, if_pos he2, if_pos hdw, if_neg he3]
            have HR' := Lib.hid hr
            clear hr HR
            go_wp2_with (first | (go_at_call 51; refine (HME.out AS kS _ hkS (HSG.out _ (HBA.out _))).mono ?_; rintro e w6 ⟨rfl, hb6⟩; have hT6 : Blk w6 w4.heap.size 109 #[.int .i64 x, .int .i64 a, .int .i64 b, .int .i64 c, .int .i64 d, .int .i64 p, .int .i64 q, .int .i64 r, .int .i64 s] := Blk.below (Blk.new w4 _ _) hb6 (Blk.lt (Blk.new w4 109 #[.int .i64 x, .int .i64 a, .int .i64 b, .int .i64 c, .int .i64 d, .int .i64 p, .int .i64 q, .int .i64 r, .int .i64 s])); have ht0 : w6.cell? ⟨w4.heap.size, 0, none⟩ = some (.int .i64 x) := Blk.cell hT6 0; have ht1 : w6.cell? ⟨w4.heap.size, 1, none⟩ = some (.int .i64 a) := Blk.cell hT6 1; have ht2 : w6.cell? ⟨w4.heap.size, 2, none⟩ = some (.int .i64 b) := Blk.cell hT6 2; have ht3 : w6.cell? ⟨w4.heap.size, 3, none⟩ = some (.int .i64 c) := Blk.cell hT6 3; have ht4 : w6.cell? ⟨w4.heap.size, 4, none⟩ = some (.int .i64 d) := Blk.cell hT6 4; have ht5 : w6.cell? ⟨w4.heap.size, 5, none⟩ = some (.int .i64 p) := Blk.cell hT6 5; have ht6 : w6.cell? ⟨w4.heap.size, 6, none⟩ = some (.int .i64 q) := Blk.cell hT6 6; have ht7 : w6.cell? ⟨w4.heap.size, 7, none⟩ = some (.int .i64 r) := Blk.cell hT6 7; have ht8 : w6.cell? ⟨w4.heap.size, 8, none⟩ = some (.int .i64 s) := Blk.cell hT6 8; have HB6 := Lib.hid (andThen (HBA.out _) hb6); clear hb6 hT6) | (go_at_call 48; refine (rdimen_any _ _).mono ?_; rintro e w' ⟨rfl, rfl⟩) | (go_at_call 52; refine (HBX.out _ HB6.out _ rfl HNW.out (HM.out.near he1).1 (HM.out.near he1).2.2.2.2.1 (HM.out.near he1).2.1 (HM.out.near he1).2.2.2.2.2.1 (HM.out.near he1).2.2.1 (HM.out.near he1).2.2.2.2.2.2.1 (HM.out.near he1).2.2.2.1 (HM.out.near he1).2.2.2.2.2.2.2).mono ?_; rintro e w7 hq; unfold BxO at hq; rw [if_neg he3] at hq; obtain ⟨rfl, hb7⟩ := hq; have HB7 := Lib.hid hb7; clear hb7))
            go_returns
            rw [HR'.out]
            exact HOut.no (andThen HB2.out (andThen HB6.out HB7.out)) _
        · have hdw' : dimB (W) = false := by simpa using hdw
          have hr : R = ([], [], 0, 0, 20) := by rw [HR.out]; unfold hpkR; rw [if_pos he1, if_pos he2, if_neg hdw]
          have HR' := Lib.hid hr
          clear hr HR hdw
          go_wp2_with (first | (go_at_call 51; refine (HME.out AS kS _ hkS (HSG.out _ (HBA.out _))).mono ?_; rintro e w6 ⟨rfl, hb6⟩; have hT6 : Blk w6 w4.heap.size 109 #[.int .i64 x, .int .i64 a, .int .i64 b, .int .i64 c, .int .i64 d, .int .i64 p, .int .i64 q, .int .i64 r, .int .i64 s] := Blk.below (Blk.new w4 _ _) hb6 (Blk.lt (Blk.new w4 109 #[.int .i64 x, .int .i64 a, .int .i64 b, .int .i64 c, .int .i64 d, .int .i64 p, .int .i64 q, .int .i64 r, .int .i64 s])); have ht0 : w6.cell? ⟨w4.heap.size, 0, none⟩ = some (.int .i64 x) := Blk.cell hT6 0; have ht1 : w6.cell? ⟨w4.heap.size, 1, none⟩ = some (.int .i64 a) := Blk.cell hT6 1; have ht2 : w6.cell? ⟨w4.heap.size, 2, none⟩ = some (.int .i64 b) := Blk.cell hT6 2; have ht3 : w6.cell? ⟨w4.heap.size, 3, none⟩ = some (.int .i64 c) := Blk.cell hT6 3; have ht4 : w6.cell? ⟨w4.heap.size, 4, none⟩ = some (.int .i64 d) := Blk.cell hT6 4; have ht5 : w6.cell? ⟨w4.heap.size, 5, none⟩ = some (.int .i64 p) := Blk.cell hT6 5; have ht6 : w6.cell? ⟨w4.heap.size, 6, none⟩ = some (.int .i64 q) := Blk.cell hT6 6; have ht7 : w6.cell? ⟨w4.heap.size, 7, none⟩ = some (.int .i64 r) := Blk.cell hT6 7; have ht8 : w6.cell? ⟨w4.heap.size, 8, none⟩ = some (.int .i64 s) := Blk.cell hT6 8; have HB6 := Lib.hid (andThen (HBA.out _) hb6); clear hb6 hT6) | (go_at_call 48; refine (rdimen_any _ _).mono ?_; rintro e w' ⟨rfl, rfl⟩))
          go_returns
          rw [HR'.out]
          exact HOut.no (andThen HB2.out HB6.out) _
      · have u2 : (e2 != 0) = true := by simp [he2]
        have h20 : e2 = 20 := by rcases HM.out.err he1 with h | h; exact absurd h he2; exact h
        have hr : R = ([], [], 0, 0, 20) := by rw [HR.out]; unfold hpkR; rw [if_pos he1, if_neg he2, h20]
        have HR' := Lib.hid hr
        clear hr HR h20
        cases hdw : dimB (W)
        all_goals
          go_wp2_with (first | (go_at_call 51; refine (HME.out AS kS _ hkS (HSG.out _ (HBA.out _))).mono ?_; rintro e w6 ⟨rfl, hb6⟩; have hT6 : Blk w6 w4.heap.size 109 #[.int .i64 x, .int .i64 a, .int .i64 b, .int .i64 c, .int .i64 d, .int .i64 p, .int .i64 q, .int .i64 r, .int .i64 s] := Blk.below (Blk.new w4 _ _) hb6 (Blk.lt (Blk.new w4 109 #[.int .i64 x, .int .i64 a, .int .i64 b, .int .i64 c, .int .i64 d, .int .i64 p, .int .i64 q, .int .i64 r, .int .i64 s])); have ht0 : w6.cell? ⟨w4.heap.size, 0, none⟩ = some (.int .i64 x) := Blk.cell hT6 0; have ht1 : w6.cell? ⟨w4.heap.size, 1, none⟩ = some (.int .i64 a) := Blk.cell hT6 1; have ht2 : w6.cell? ⟨w4.heap.size, 2, none⟩ = some (.int .i64 b) := Blk.cell hT6 2; have ht3 : w6.cell? ⟨w4.heap.size, 3, none⟩ = some (.int .i64 c) := Blk.cell hT6 3; have ht4 : w6.cell? ⟨w4.heap.size, 4, none⟩ = some (.int .i64 d) := Blk.cell hT6 4; have ht5 : w6.cell? ⟨w4.heap.size, 5, none⟩ = some (.int .i64 p) := Blk.cell hT6 5; have ht6 : w6.cell? ⟨w4.heap.size, 6, none⟩ = some (.int .i64 q) := Blk.cell hT6 6; have ht7 : w6.cell? ⟨w4.heap.size, 7, none⟩ = some (.int .i64 r) := Blk.cell hT6 7; have ht8 : w6.cell? ⟨w4.heap.size, 8, none⟩ = some (.int .i64 s) := Blk.cell hT6 8; have HB6 := Lib.hid (andThen (HBA.out _) hb6); clear hb6 hT6) | (go_at_call 48; refine (rdimen_any _ _).mono ?_; rintro e w' ⟨rfl, rfl⟩))
          go_returns
          rw [HR'.out]
          exact HOut.no (andThen HB2.out HB6.out) _
    | false =>
      have hnx := HM.out.nat he1
      have hnx' : -1073741823 ≤ x ∧ x ≤ 1073741823 := by simpa [dimB] using hnx
      have hwe : W = x + tw := HWE.out
      subst hwe
      have HNW := Lib.hid (show Gl.nearB (x + tw - x) = true by unfold Gl.nearB; rw [decide_eq_true_eq]; omega)
      clear hnx
      by_cases he2 : e2 = 0
      · have u2 : (e2 != 0) = false := by simp [he2]
        by_cases hdw : dimB (x + tw) = true
        · by_cases he3 : e3 = 0
          · have u3 : (e3 != 0) = false := by simp [he3]
            have hr := HR.out
            unfold hpkR at hr
            rw [if_pos he1, if_pos he2, if_pos hdw, if_pos he3] at hr
            have HR' := Lib.hid hr
            clear hr HR
            go_wp2_with (first | (go_at_call 51; refine (HME.out AS kS _ hkS (HSG.out _ (HBA.out _))).mono ?_; rintro e w6 ⟨rfl, hb6⟩; have hT6 : Blk w6 w4.heap.size 109 #[.int .i64 x, .int .i64 a, .int .i64 b, .int .i64 c, .int .i64 d, .int .i64 p, .int .i64 q, .int .i64 r, .int .i64 s] := Blk.below (Blk.new w4 _ _) hb6 (Blk.lt (Blk.new w4 109 #[.int .i64 x, .int .i64 a, .int .i64 b, .int .i64 c, .int .i64 d, .int .i64 p, .int .i64 q, .int .i64 r, .int .i64 s])); have ht0 : w6.cell? ⟨w4.heap.size, 0, none⟩ = some (.int .i64 x) := Blk.cell hT6 0; have ht1 : w6.cell? ⟨w4.heap.size, 1, none⟩ = some (.int .i64 a) := Blk.cell hT6 1; have ht2 : w6.cell? ⟨w4.heap.size, 2, none⟩ = some (.int .i64 b) := Blk.cell hT6 2; have ht3 : w6.cell? ⟨w4.heap.size, 3, none⟩ = some (.int .i64 c) := Blk.cell hT6 3; have ht4 : w6.cell? ⟨w4.heap.size, 4, none⟩ = some (.int .i64 d) := Blk.cell hT6 4; have ht5 : w6.cell? ⟨w4.heap.size, 5, none⟩ = some (.int .i64 p) := Blk.cell hT6 5; have ht6 : w6.cell? ⟨w4.heap.size, 6, none⟩ = some (.int .i64 q) := Blk.cell hT6 6; have ht7 : w6.cell? ⟨w4.heap.size, 7, none⟩ = some (.int .i64 r) := Blk.cell hT6 7; have ht8 : w6.cell? ⟨w4.heap.size, 8, none⟩ = some (.int .i64 s) := Blk.cell hT6 8; have HB6 := Lib.hid (andThen (HBA.out _) hb6); clear hb6 hT6) | (go_at_call 48; refine (rdimen_any _ _).mono ?_; rintro e w' ⟨rfl, rfl⟩) | (go_at_call 52; refine (HBX.out _ HB6.out _ rfl HNW.out (HM.out.near he1).1 (HM.out.near he1).2.2.2.2.1 (HM.out.near he1).2.1 (HM.out.near he1).2.2.2.2.2.1 (HM.out.near he1).2.2.1 (HM.out.near he1).2.2.2.2.2.2.1 (HM.out.near he1).2.2.2.1 (HM.out.near he1).2.2.2.2.2.2.2).mono ?_; rintro e w7 hq; unfold BxO at hq; rw [if_pos he3] at hq; obtain ⟨vL, rfl, ho7, hb7⟩ := hq; have HO7 := Lib.hid (And.intro ho7 hb7); clear ho7 hb7))
            go_returns
            rw [HR'.out]
            exact out2 HH.out HB2.out HO7.out.1 HB6.out.size (andThen HB6.out HO7.out.2) _ _
          · have u3 : (e3 != 0) = true := by simp [he3]
            have hr : R = ([], [], 0, 0, e3) := by rw [HR.out]; unfold hpkR; rw [if_pos he1, if_pos he2, if_pos hdw, if_neg he3]
            have HR' := Lib.hid hr
            clear hr HR
            go_wp2_with (first | (go_at_call 51; refine (HME.out AS kS _ hkS (HSG.out _ (HBA.out _))).mono ?_; rintro e w6 ⟨rfl, hb6⟩; have hT6 : Blk w6 w4.heap.size 109 #[.int .i64 x, .int .i64 a, .int .i64 b, .int .i64 c, .int .i64 d, .int .i64 p, .int .i64 q, .int .i64 r, .int .i64 s] := Blk.below (Blk.new w4 _ _) hb6 (Blk.lt (Blk.new w4 109 #[.int .i64 x, .int .i64 a, .int .i64 b, .int .i64 c, .int .i64 d, .int .i64 p, .int .i64 q, .int .i64 r, .int .i64 s])); have ht0 : w6.cell? ⟨w4.heap.size, 0, none⟩ = some (.int .i64 x) := Blk.cell hT6 0; have ht1 : w6.cell? ⟨w4.heap.size, 1, none⟩ = some (.int .i64 a) := Blk.cell hT6 1; have ht2 : w6.cell? ⟨w4.heap.size, 2, none⟩ = some (.int .i64 b) := Blk.cell hT6 2; have ht3 : w6.cell? ⟨w4.heap.size, 3, none⟩ = some (.int .i64 c) := Blk.cell hT6 3; have ht4 : w6.cell? ⟨w4.heap.size, 4, none⟩ = some (.int .i64 d) := Blk.cell hT6 4; have ht5 : w6.cell? ⟨w4.heap.size, 5, none⟩ = some (.int .i64 p) := Blk.cell hT6 5; have ht6 : w6.cell? ⟨w4.heap.size, 6, none⟩ = some (.int .i64 q) := Blk.cell hT6 6; have ht7 : w6.cell? ⟨w4.heap.size, 7, none⟩ = some (.int .i64 r) := Blk.cell hT6 7; have ht8 : w6.cell? ⟨w4.heap.size, 8, none⟩ = some (.int .i64 s) := Blk.cell hT6 8; have HB6 := Lib.hid (andThen (HBA.out _) hb6); clear hb6 hT6) | (go_at_call 48; refine (rdimen_any _ _).mono ?_; rintro e w' ⟨rfl, rfl⟩) | (go_at_call 52; refine (HBX.out _ HB6.out _ rfl HNW.out (HM.out.near he1).1 (HM.out.near he1).2.2.2.2.1 (HM.out.near he1).2.1 (HM.out.near he1).2.2.2.2.2.1 (HM.out.near he1).2.2.1 (HM.out.near he1).2.2.2.2.2.2.1 (HM.out.near he1).2.2.2.1 (HM.out.near he1).2.2.2.2.2.2.2).mono ?_; rintro e w7 hq; unfold BxO at hq; rw [if_neg he3] at hq; obtain ⟨rfl, hb7⟩ := hq; have HB7 := Lib.hid hb7; clear hb7))
            go_returns
            rw [HR'.out]
            exact HOut.no (andThen HB2.out (andThen HB6.out HB7.out)) _
        · have hdw' : dimB (x + tw) = false := by simpa using hdw
          have hr : R = ([], [], 0, 0, 20) := by rw [HR.out]; unfold hpkR; rw [if_pos he1, if_pos he2, if_neg hdw]
          have HR' := Lib.hid hr
          clear hr HR hdw
          go_wp2_with (first | (go_at_call 51; refine (HME.out AS kS _ hkS (HSG.out _ (HBA.out _))).mono ?_; rintro e w6 ⟨rfl, hb6⟩; have hT6 : Blk w6 w4.heap.size 109 #[.int .i64 x, .int .i64 a, .int .i64 b, .int .i64 c, .int .i64 d, .int .i64 p, .int .i64 q, .int .i64 r, .int .i64 s] := Blk.below (Blk.new w4 _ _) hb6 (Blk.lt (Blk.new w4 109 #[.int .i64 x, .int .i64 a, .int .i64 b, .int .i64 c, .int .i64 d, .int .i64 p, .int .i64 q, .int .i64 r, .int .i64 s])); have ht0 : w6.cell? ⟨w4.heap.size, 0, none⟩ = some (.int .i64 x) := Blk.cell hT6 0; have ht1 : w6.cell? ⟨w4.heap.size, 1, none⟩ = some (.int .i64 a) := Blk.cell hT6 1; have ht2 : w6.cell? ⟨w4.heap.size, 2, none⟩ = some (.int .i64 b) := Blk.cell hT6 2; have ht3 : w6.cell? ⟨w4.heap.size, 3, none⟩ = some (.int .i64 c) := Blk.cell hT6 3; have ht4 : w6.cell? ⟨w4.heap.size, 4, none⟩ = some (.int .i64 d) := Blk.cell hT6 4; have ht5 : w6.cell? ⟨w4.heap.size, 5, none⟩ = some (.int .i64 p) := Blk.cell hT6 5; have ht6 : w6.cell? ⟨w4.heap.size, 6, none⟩ = some (.int .i64 q) := Blk.cell hT6 6; have ht7 : w6.cell? ⟨w4.heap.size, 7, none⟩ = some (.int .i64 r) := Blk.cell hT6 7; have ht8 : w6.cell? ⟨w4.heap.size, 8, none⟩ = some (.int .i64 s) := Blk.cell hT6 8; have HB6 := Lib.hid (andThen (HBA.out _) hb6); clear hb6 hT6) | (go_at_call 48; refine (rdimen_any _ _).mono ?_; rintro e w' ⟨rfl, rfl⟩))
          go_returns
          rw [HR'.out]
          exact HOut.no (andThen HB2.out HB6.out) _
      · have u2 : (e2 != 0) = true := by simp [he2]
        have h20 : e2 = 20 := by rcases HM.out.err he1 with h | h; exact absurd h he2; exact h
        have hr : R = ([], [], 0, 0, 20) := by rw [HR.out]; unfold hpkR; rw [if_pos he1, if_neg he2, h20]
        have HR' := Lib.hid hr
        clear hr HR h20
        cases hdw : dimB (x + tw)
        all_goals
          go_wp2_with (first | (go_at_call 51; refine (HME.out AS kS _ hkS (HSG.out _ (HBA.out _))).mono ?_; rintro e w6 ⟨rfl, hb6⟩; have hT6 : Blk w6 w4.heap.size 109 #[.int .i64 x, .int .i64 a, .int .i64 b, .int .i64 c, .int .i64 d, .int .i64 p, .int .i64 q, .int .i64 r, .int .i64 s] := Blk.below (Blk.new w4 _ _) hb6 (Blk.lt (Blk.new w4 109 #[.int .i64 x, .int .i64 a, .int .i64 b, .int .i64 c, .int .i64 d, .int .i64 p, .int .i64 q, .int .i64 r, .int .i64 s])); have ht0 : w6.cell? ⟨w4.heap.size, 0, none⟩ = some (.int .i64 x) := Blk.cell hT6 0; have ht1 : w6.cell? ⟨w4.heap.size, 1, none⟩ = some (.int .i64 a) := Blk.cell hT6 1; have ht2 : w6.cell? ⟨w4.heap.size, 2, none⟩ = some (.int .i64 b) := Blk.cell hT6 2; have ht3 : w6.cell? ⟨w4.heap.size, 3, none⟩ = some (.int .i64 c) := Blk.cell hT6 3; have ht4 : w6.cell? ⟨w4.heap.size, 4, none⟩ = some (.int .i64 d) := Blk.cell hT6 4; have ht5 : w6.cell? ⟨w4.heap.size, 5, none⟩ = some (.int .i64 p) := Blk.cell hT6 5; have ht6 : w6.cell? ⟨w4.heap.size, 6, none⟩ = some (.int .i64 q) := Blk.cell hT6 6; have ht7 : w6.cell? ⟨w4.heap.size, 7, none⟩ = some (.int .i64 r) := Blk.cell hT6 7; have ht8 : w6.cell? ⟨w4.heap.size, 8, none⟩ = some (.int .i64 s) := Blk.cell hT6 8; have HB6 := Lib.hid (andThen (HBA.out _) hb6); clear hb6 hT6) | (go_at_call 48; refine (rdimen_any _ _).mono ?_; rintro e w' ⟨rfl, rfl⟩))
          go_returns
          rw [HR'.out]
          exact HOut.no (andThen HB2.out HB6.out) _
  · have u1 : (e1 != 0) = true := by simp [he1]
    have hr : R = ([], [], 0, 0, e1) := by rw [HR.out]; unfold hpkR; rw [if_neg he1]
    have HR' := Lib.hid hr
    clear hr HR
    go_wp2_with fail
    go_returns
    rw [HR'.out]
    exact HOut.no (andThen HB2.out (HBA.out _)) _
end Go.Proofs.YtoboecenlangmaaGreat.Pk
end
section
namespace Go.Proofs.YtoboecenlangmaaGreat.Pk
open Np
set_option linter.unusedVariables false

/-- A Skip's glue. -/
def gOf (n : Nd) : Gl.G := ⟨n.gn, n.gs, n.gh, n.ga, n.gb⟩
/-- One item more: its glue, if it is a Skip. -/
def skstep (ns : List Nd) (s : List Gl.G) (a : Nat) : List Gl.G := match ns[a]? with
  | some x => if x.kind = 7 then s ++ [gOf x] else s
  | none => s
def skF (ns : List Nd) (xs : List Nat) (s : List Gl.G) : List Gl.G := xs.foldl (skstep ns) s
theorem skF_cons (ns : List Nd) (a : Nat) (xs : List Nat) (s : List Gl.G) : skF ns (a :: xs) s = skF ns xs (skstep ns s a) := rfl
theorem skstep_yes {ns : List Nd} {s : List Gl.G} {a : Nat} {x : Nd} (hx : ns[a]? = some x) (hk : x.kind = 7) : skstep ns s a = s ++ [gOf x] := by
  unfold skstep; rw [hx]; simp only; rw [if_pos hk]
theorem skstep_no {ns : List Nd} {s : List Gl.G} {a : Nat} {x : Nd} (hx : ns[a]? = some x) (hk : ¬ x.kind = 7) : skstep ns s a = s := by
  unfold skstep; rw [hx]; simp only; rw [if_neg hk]
theorem skF_acc (ns : List Nd) : ∀ (xs : List Nat) (s : List Gl.G), skF ns xs s = s ++ skF ns xs []
  | [], s => by simp [skF]
  | a :: xs, s => by
    rw [skF_cons, skF_cons, skF_acc ns xs (skstep ns s a), skF_acc ns xs (skstep ns [] a)]
    unfold skstep
    split
    · split
      · simp
      · simp
    · simp
theorem skF_len (ns : List Nd) : ∀ (xs : List Nat) (s : List Gl.G), (skF ns xs s).length ≤ s.length + xs.length
  | [], s => by simp [skF]
  | a :: xs, s => by
    rw [skF_cons]
    have h := skF_len ns xs (skstep ns s a)
    have h2 : (skstep ns s a).length ≤ s.length + 1 := by
      unfold skstep
      split
      · split
        · simp
        · omega
      · omega
    simp only [List.length_cons]
    omega
/-- How far a walk over the items has come: where the next one stands, the sizes that are left, the places so far. -/
structure Plc where
  x : Int
  sz : List Int
  out : List Int
def plstep (ns : List Nd) (f : Nat → Int) (s : Plc) (a : Nat) : Plc := match ns[a]? with
  | some n => if n.kind = 7 then ⟨s.x + s.sz.headD 0, s.sz.tail, s.out ++ [s.x]⟩ else ⟨s.x + f a, s.sz, s.out ++ [s.x]⟩
  | none => s
def plF (ns : List Nd) (f : Nat → Int) (xs : List Nat) (s : Plc) : Plc := xs.foldl (plstep ns f) s
theorem plF_cons (ns : List Nd) (f : Nat → Int) (a : Nat) (xs : List Nat) (s : Plc) : plF ns f (a :: xs) s = plF ns f xs (plstep ns f s a) := rfl
theorem plstep_yes {ns : List Nd} {f : Nat → Int} {s : Plc} {a : Nat} {x : Nd} (hx : ns[a]? = some x) (hk : x.kind = 7) : plstep ns f s a = ⟨s.x + s.sz.headD 0, s.sz.tail, s.out ++ [s.x]⟩ := by
  unfold plstep; rw [hx]; simp only; rw [if_pos hk]
theorem plstep_no {ns : List Nd} {f : Nat → Int} {s : Plc} {a : Nat} {x : Nd} (hx : ns[a]? = some x) (hk : ¬ x.kind = 7) : plstep ns f s a = ⟨s.x + f a, s.sz, s.out ++ [s.x]⟩ := by
  unfold plstep; rw [hx]; simp only; rw [if_neg hk]
/-- What holds ahead of the items ys, k of them behind: as many sizes are left as Skips come; nothing is too far. -/
structure PlIn (ns : List Nd) (f : Nat → Int) (s : Plc) (ys : List Nat) (k : Nat) : Prop where
  left : s.sz.length = (skF ns ys []).length
  bd : ∀ z ∈ s.sz, -281474976710656 ≤ z ∧ z ≤ 281474976710656
  x : -((k : Int) * 281474976710656) ≤ s.x ∧ s.x ≤ (k : Int) * 281474976710656
  out : s.out.length = k
theorem PlIn.skip {ns : List Nd} {f : Nat → Int} {s : Plc} {a : Nat} {ys : List Nat} {k : Nat} {x : Nd} (h : PlIn ns f s (a :: ys) k) (hx : ns[a]? = some x) (hk : x.kind = 7) :
    ∃ z r, s.sz = z :: r ∧ (-281474976710656 ≤ z ∧ z ≤ 281474976710656) ∧ plstep ns f s a = ⟨s.x + z, r, s.out ++ [s.x]⟩ ∧ PlIn ns f (plstep ns f s a) ys (k + 1) := by
  obtain ⟨h1, h2, h3, h4⟩ := h
  rw [skF_cons, skstep_yes hx hk, skF_acc] at h1
  simp only [List.nil_append, List.length_append, List.length_cons, List.length_nil] at h1
  cases hs : s.sz with
  | nil => rw [hs] at h1; simp at h1; omega
  | cons z r =>
    have hz := h2 z (by rw [hs]; simp)
    have e : plstep ns f s a = ⟨s.x + z, r, s.out ++ [s.x]⟩ := by rw [plstep_yes hx hk, hs]; rfl
    refine ⟨z, r, rfl, hz, e, ?_⟩
    rw [e]
    refine ⟨?_, fun y hy => h2 y (by rw [hs]; simp [hy]), ?_, by simp [h4]⟩
    · rw [hs] at h1; simp at h1; simp only; omega
    · simp only; push_cast; omega
theorem PlIn.other {ns : List Nd} {f : Nat → Int} {s : Plc} {a : Nat} {ys : List Nat} {k : Nat} {x : Nd} (h : PlIn ns f s (a :: ys) k) (hx : ns[a]? = some x) (hk : ¬ x.kind = 7) (hf : -281474976710656 ≤ f a ∧ f a ≤ 281474976710656) :
    plstep ns f s a = ⟨s.x + f a, s.sz, s.out ++ [s.x]⟩ ∧ PlIn ns f (plstep ns f s a) ys (k + 1) := by
  obtain ⟨h1, h2, h3, h4⟩ := h
  rw [skF_cons, skstep_no hx hk] at h1
  have e := plstep_no (f := f) (s := s) hx hk
  refine ⟨e, ?_⟩
  rw [e]
  exact ⟨h1, h2, by simp only; push_cast; omega, by simp [h4]⟩
theorem plF_out (ns : List Nd) (f : Nat → Int) : ∀ (ys : List Nat) (s : Plc), (plF ns f ys s).out.length ≤ s.out.length + ys.length
  | [], s => by simp [plF]
  | a :: ys, s => by
    rw [plF_cons]
    have h := plF_out ns f ys (plstep ns f s a)
    have h2 : (plstep ns f s a).out.length ≤ s.out.length + 1 := by
      unfold plstep
      split
      · split <;> simp
      · omega
    simp only [List.length_cons]
    omega
end Go.Proofs.YtoboecenlangmaaGreat.Pk
namespace Go.Proofs.YtoboecenlangmaaGreat.Gl
/-- Each size is within bounds. -/
theorem step_szb {sign order N D : Int} {z z' : Sz} {g : G} {k : Nat} (h : z.In k) (hb : ∀ y ∈ z.o, -281474976710656 ≤ y ∧ y ≤ 281474976710656) (hg : g.ok = true) (hs : step sign order N D z g = some z') : ∀ y ∈ z'.o, -281474976710656 ≤ y ∧ y ≤ 281474976710656 := by
  obtain ⟨h1, h2, h3, h4⟩ := h
  obtain ⟨⟨m0, m1⟩, ⟨s0, s1⟩, ⟨t0, t1⟩, _, _⟩ := glueB_iff.1 hg
  unfold step at hs
  split at hs
  · split at hs
    · simp only [Option.some.injEq] at hs
      subst hs
      intro y hy
      have hp := psV_bd (z.S + g.s) N D
      rcases List.mem_append.1 hy with hy | hy
      · exact hb y hy
      · simp only [List.mem_singleton] at hy
        subst hy
        omega
    · cases hs
  · split at hs
    · split at hs
      · simp only [Option.some.injEq] at hs
        subst hs
        intro y hy
        have hp := psV_bd (z.S + g.h) N D
        rcases List.mem_append.1 hy with hy | hy
        · exact hb y hy
        · simp only [List.mem_singleton] at hy
          subst hy
          omega
      · cases hs
    · simp only [Option.some.injEq] at hs
      subst hs
      intro y hy
      rcases List.mem_append.1 hy with hy | hy
      · exact hb y hy
      · simp only [List.mem_singleton] at hy
        subst hy
        omega
theorem szrun_in {sign order N D : Int} {l : List G} (hl : l.all G.ok = true) : ∀ (k : Nat), k ≤ l.length → ∀ z, run sign order N D (l.take k) = some z → z.In k ∧ ∀ y ∈ z.o, -281474976710656 ≤ y ∧ y ≤ 281474976710656
  | 0, _, z, h => by
    simp only [List.take_zero, run_nil, Option.some.injEq] at h
    subst h
    exact ⟨Sz.In.zero, by simp⟩
  | k + 1, hk, z, h => by
    obtain ⟨g, hg⟩ : ∃ g, l[k]? = some g := ⟨_, List.getElem?_eq_getElem (by omega)⟩
    have hgo : g.ok = true := List.all_eq_true.1 hl g (List.mem_of_getElem? hg)
    cases hr : run sign order N D (l.take k) with
    | none =>
      have h2 := h
      unfold run at h2 hr
      rw [List.take_add_one, hg, List.foldl_append, hr] at h2
      cases h2
    | some z0 =>
      obtain ⟨h1, h2⟩ := szrun_in hl k (by omega) z0 hr
      have h3 := run_snoc hg hr
      rw [h] at h3
      exact ⟨step_in h1 hgo h3.symm, step_szb h1 h2 hgo h3.symm⟩
/-- The sizes of a row that is set: one each, none too great. -/
theorem szL_in {l : List G} {sign order N D : Int} (h : szE l sign order N D = 0) : (szL l sign order N D).length = l.length ∧ ∀ y ∈ szL l sign order N D, -281474976710656 ≤ y ∧ y ≤ 281474976710656 := by
  obtain ⟨h1, h2, h3, z, hz⟩ := szE_zero h
  have hl := (rowE_zero h1).2
  have h4 := szrun_in hl l.length (Nat.le_refl _) z (by rw [List.take_length]; exact hz)
  rw [(szE_some h1 h2 h3 hz).2]
  exact ⟨h4.1.2.2.2, h4.2⟩
end Go.Proofs.YtoboecenlangmaaGreat.Gl
end
section
namespace Go.Proofs.YtoboecenlangmaaGreat.No
open Go.ChangeShapes Go.WideShapes Go.ChangeAt Go.RowKit
open Me Np
set_option linter.unusedVariables false
set_option linter.unusedSimpArgs false

theorem innerL_len (ns : List Nd) (a m : Nat) : (innerL ns a m).length ≤ ns.length := by
  unfold innerL
  simp only [List.length_take, List.length_drop]
  omega
theorem begB_at {ns : List Nd} {a : Int} (h : begB ns a = true) : ∃ (k : Nat) (x : Nd), a = (k : Int) ∧ ns[k]? = some x ∧ ¬ x.kind = 6 ∧ ¬ x.kind = 11 := by
  unfold begB at h
  simp only [Bool.and_eq_true, decide_eq_true_eq] at h
  obtain ⟨h0, h1⟩ := h
  split at h1
  · cases h1
  · rename_i x hx
    simp only [Bool.and_eq_true, bne_iff_ne, ne_eq] at h1
    exact ⟨a.toNat, x, by omega, hx, h1.1, h1.2⟩
theorem parts_err (A : Option Addr) (ns : List Nd) (c : Nat) (a : Int) (w : World) (hl : ns.length ≤ 9223372036854775806) (hseg : Seg w w.heap.size A (ns.flatMap ncs)) (hc : ¬ chk ns = 0) :
    Calls Tryz.prog 170 #[.slice A ns.length c, .int .i64 a] w fun e w' => e = .returned (.tuple #[.slice none 0 0, .slice none 0 0, .slice none 0 0, .int .i64 (chk ns)]) ∧ Below w.heap.size w w' := by
  have e0 : (chk ns != 0) = true := by simp [hc]
  have HC := Lib.hid (check_any A ns c w (by omega) hseg)
  have HX := Lib.hid hc
  clear hseg hc
  generalize chk ns = v at *
  generalize ns.length = len at *
  go_enter Tryz.func170, Tryz.ntmps170
  go_wp2_with fail
  refine HC.out.mono ?_
  rintro e w1 ⟨rfl, hb1⟩
  go_wp2_with fail
  go_returns
  exact ⟨rfl, hb1⟩
theorem parts_none (A : Option Addr) (ns : List Nd) (c : Nat) (a : Int) (w : World) (hl : ns.length ≤ 9223372036854775806) (hseg : Seg w w.heap.size A (ns.flatMap ncs)) (hc : chk ns = 0) (hb : begB ns a = false) :
    Calls Tryz.prog 170 #[.slice A ns.length c, .int .i64 a] w fun e w' => e = .returned (.tuple #[.slice none 0 0, .slice none 0 0, .slice none 0 0, .int .i64 3]) ∧ Below w.heap.size w w' := by
  have HC := Lib.hid (check_any A ns c w (by omega) hseg)
  have HB := Lib.hid hb
  have HE := Lib.hid hc
  have HBG := Lib.hid fun w1 (h : Below w.heap.size w w1) => begins_any A ns c a w1 (by omega) (Seg.belowW hseg h)
  clear hseg hc hb
  rw [HE.out] at HC
  rw [HB.out] at HBG
  generalize ns.length = len at *
  go_enter Tryz.func170, Tryz.ntmps170
  go_wp2_with fail
  refine HC.out.mono ?_
  rintro e w1 ⟨rfl, hb1⟩
  go_wp2_with fail
  refine (HBG.out w1 hb1).mono ?_
  rintro e w' ⟨rfl, rfl⟩
  go_wp2_with fail
  go_returns
  exact ⟨rfl, hb1⟩
theorem parts_other (A : Option Addr) (ns : List Nd) (c : Nat) (a : Nat) (x : Nd) (w : World) (hl : ns.length ≤ 9223372036854775806) (hseg : Seg w w.heap.size A (ns.flatMap ncs)) (hc : chk ns = 0) (hb : begB ns a = true) (hx : ns[a]? = some x) (h10 : ¬ x.kind = 10) :
    Calls Tryz.prog 170 #[.slice A ns.length c, .int .i64 (a : Int)] w fun e w' => e = .returned (.tuple #[.slice none 0 0, .slice none 0 0, .slice none 0 0, .int .i64 3]) ∧ Below w.heap.size w w' := by
  have HC := Lib.hid (check_any A ns c w (by omega) hseg)
  have HB := Lib.hid hb
  have HE := Lib.hid hc
  have HBG := Lib.hid fun w1 (h : Below w.heap.size w w1) => begins_any A ns c a w1 (by omega) (Seg.belowW hseg h)
  obtain ⟨b, off, rfl, hb', hnode⟩ := seg_node hseg hx
  have hal : a < ns.length := (List.getElem?_eq_some_iff.1 hx).1
  have HN := Lib.hid hnode
  have e10 : (x.kind != 10) = true := by simp [h10]
  clear hseg hc hb hx hnode
  rw [HE.out] at HC
  rw [HB.out] at HBG
  generalize ns.length = len at *
  go_enter Tryz.func170, Tryz.ntmps170
  go_wp2_with fail
  refine HC.out.mono ?_
  rintro e w1 ⟨rfl, hb1⟩
  have hc0 : w1.cell? ⟨b, off + a * 19, none⟩ = some (.int .i64 x.kind) := HN.out.below hb1 hb' 0 _ rfl
  go_wp2_with (first
    | (go_at_call 148; refine (HBG.out w1 hb1).mono ?_; rintro e w' ⟨rfl, rfl⟩))
  go_returns
  exact ⟨rfl, hb1⟩
set_option maxHeartbeats 1000000 in
set_option maxRecDepth 100000 in
theorem parts_ok (A : Option Addr) (ns : List Nd) (c : Nat) (a m : Nat) (x : Nd) (ss : List Nat) (w : World) (hcap : ns.length ≤ c) (hseg : Seg w w.heap.size A (ns.flatMap ncs)) (hc : chk ns = 0) (hb : begB ns a = true) (hx : ns[a]? = some x) (h10 : x.kind = 10) (hm : endc (ns.drop a) 0 = some m) (hd : D3 ss (ns.drop (a + 1)) 0 (m - 2)) (hm2 : 2 ≤ m) :
    Calls Tryz.prog 170 #[.slice A ns.length c, .int .i64 (a : Int)] w fun e w' => ∃ vs, e = .returned (.tuple #[vs 0, vs 1, vs 2, .int .i64 0]) ∧ Own3 w' w.heap.size vs (thr ss (ns.drop (a + 1)) 0) ∧ Below w.heap.size w w' := by
  have hl := (chk_run hc).1
  have HT := Lib.hid fun w1 (h : Below w.heap.size w w1) => three_any A ns c a m ss x w1 hc hcap (Seg.belowW hseg h) hx hm hd hm2
  have HC := Lib.hid (check_any A ns c w (by omega) hseg)
  have HB := Lib.hid hb
  have HE := Lib.hid hc
  have HBG := Lib.hid fun w1 (h : Below w.heap.size w w1) => begins_any A ns c a w1 (by omega) (Seg.belowW hseg h)
  obtain ⟨b, off, rfl, hb', hnode⟩ := seg_node hseg hx
  have hal : a < ns.length := (List.getElem?_eq_some_iff.1 hx).1
  have HN := Lib.hid hnode
  have e10 : (x.kind != 10) = false := by simp [h10]
  clear hseg hc hb hx hnode hm hd
  rw [HE.out] at HC
  rw [HB.out] at HBG
  generalize thr ss (ns.drop (a + 1)) 0 = F at HT ⊢
  generalize ns.length = len at *
  go_enter Tryz.func170, Tryz.ntmps170
  go_wp2_with fail
  refine HC.out.mono ?_
  rintro e w1 ⟨rfl, hb1⟩
  have hc0 : w1.cell? ⟨b, off + a * 19, none⟩ = some (.int .i64 x.kind) := HN.out.below hb1 hb' 0 _ rfl
  go_wp2_with (first
    | (go_at_call 148; refine (HBG.out w1 hb1).mono ?_; rintro e w' ⟨rfl, rfl⟩))
  refine (HT.out _ hb1).mono ?_
  rintro e w2 ⟨vs, rfl, ho, hb2⟩
  have HO := Lib.hid ho
  have HB2 := Lib.hid (andThen hb1 hb2)
  obtain ⟨A0, c0, h0⟩ := own_slice (ho.own 0 (by omega))
  obtain ⟨A1, c1, h1⟩ := own_slice (ho.own 1 (by omega))
  obtain ⟨A2, c2, h2⟩ := own_slice (ho.own 2 (by omega))
  have htc : tc3 vs = #[.slice A0 (F 0).length c0, .slice A1 (F 1).length c1, .slice A2 (F 2).length c2] := by unfold tc3; rw [h0, h1, h2]
  have HH := Lib.hid (And.intro h0 (And.intro h1 h2))
  have h31 := tc3_one vs ho
  have hsz3 : (Tryz.prog.info? 221).map (·.size) = some (tc3 vs).size := by rw [tc3_size]; exact three_info
  rw [htc] at h31 hsz3 ⊢
  have H31 := Lib.hid (And.intro h31 hsz3)
  clear ho hb2 HC HT HBG h0 h1 h2 htc h31 hsz3
  generalize (F 0).length = l0 at *
  generalize (F 1).length = l1 at *
  generalize (F 2).length = l2 at *
  go_wp2_with (first
    | (refine wpList_store_row (o := ⟨none, .store _ (.tmp 9) (.tmp 31), _, _, _, _⟩) rfl 221 _ _ rfl w2.heap.size #[.slice A0 l0 c0, .slice A1 l1 c1, .slice A2 l2 c2] rfl rfl 221 (tc3 fun _ => .slice none 0 0) (Blk.new' rfl) H31.out.2 rfl H31.out.1 ?_))
  go_simp
  have B3 : Blk (w2.alloc (.cells #[.slice A0 l0 c0, .slice A1 l1 c1, .slice A2 l2 c2] 221)) w2.heap.size 221 #[.slice A0 l0 c0, .slice A1 l1 c1, .slice A2 l2 c2] := Blk.new' rfl
  have HO3 := Lib.hid (HO.out.below (andAlloc (Below.refl _ _) (.cells #[.slice A0 l0 c0, .slice A1 l1 c1, .slice A2 l2 c2] 221)))
  have HB3 := Lib.hid (andAlloc HB2.out (.cells #[.slice A0 l0 c0, .slice A1 l1 c1, .slice A2 l2 c2] 221))
  have HS1 := Lib.hid hb1.size
  generalize w2.alloc (.cells #[.slice A0 l0 c0, .slice A1 l1 c1, .slice A2 l2 c2] 221) = w3 at B3 HO3 HB3 ⊢
  generalize w2.heap.size = g3 at *
  have hd0 : w3.cell? ⟨g3, 0, none⟩ = some (.slice A0 l0 c0) := B3.cell 0
  have hd1 : w3.cell? ⟨g3, 1, none⟩ = some (.slice A1 l1 c1) := B3.cell 1
  have hd2 : w3.cell? ⟨g3, 2, none⟩ = some (.slice A2 l2 c2) := B3.cell 2
  clear B3 HB2 HO hb1 hc0
  go_region
  all_goals
    go_wp2_with fail
    go_returns
    exact ⟨vs, by rw [HH.out.1, HH.out.2.1, HH.out.2.2], ⟨fun j hj => own_base ((HO3.out.below (below_drewN (Below.refl _ _) 1)).own j hj) HS1.out, HO3.out.dist⟩, below_drewN HB3.out 1⟩
end Go.Proofs.YtoboecenlangmaaGreat.No
end
section
namespace Go.Proofs.YtoboecenlangmaaGreat.Pk
open Go.ChangeShapes Go.WideShapes Go.ChangeAt Go.RowKit
open Me Np No
set_option linter.unusedVariables false
set_option linter.unusedSimpArgs false

/-- How long a node is that is neither a Disc nor a Skip. -/
def szP (n : Nd) (down : Bool) : Int := if n.kind = 7 then 0 else alongP n down

theorem size_kern_true (A : Option Addr) (ns : List Nd) (c k : Nat) (n : Nd) (w : World) (hl : ns.length ≤ 9223372036854775806) (hseg : Seg w w.heap.size A (ns.flatMap ncs)) (hk : ns[k]? = some n) (hn : n.kind = 8) :
    Calls Tryz.prog 104 #[.slice A ns.length c, .int .i64 (k : Int), .bool true] w fun e w' => e = .returned (.int .i64 (szP n true)) ∧ Below w.heap.size w w' := by
  obtain ⟨b, off, rfl, hb, hnode⟩ := seg_node hseg hk
  have hkl : k < ns.length := (List.getElem?_eq_some_iff.1 hk).1
  clear hseg hk
  have hv : szP n true = n.wd := by simp [szP, alongP, hn]
  have HV := Lib.hid hv
  clear hv
  generalize ns.length = len at *
  go_enter Tryz.func104, Tryz.ntmps104
  go_wp2_with (first | (refine wpList_load_node rfl _ rfl _ _ rfl _ (by repeat (first | apply NodeAt.row | (apply Blk.new'; first | rfl | (simp; done)) | (apply Blk.node; apply Blk.new'; first | rfl | (simp; done)) | assumption | apply NodeAt.alloc)) ?_) | (refine wpList_alloc_node rfl rfl ?_) | (refine wpList_store_node rfl _ _ rfl _ _ _ rfl rfl _ (by repeat (first | (apply Blk.new'; first | rfl | (simp; done)) | assumption | apply Blk.alloc)) ?_))
  (go_ret; exact ⟨ret_int (by rw [HV.out]), (by repeat (first | exact Below.refl _ _ | (refine below_setRow ?_ _ _ ?_; rotate_left; focus (simp; done)) | refine andAlloc ?_ _))⟩)

theorem size_b3_true (A : Option Addr) (ns : List Nd) (c k : Nat) (n : Nd) (w : World) (hl : ns.length ≤ 9223372036854775806) (hseg : Seg w w.heap.size A (ns.flatMap ncs)) (hk : ns[k]? = some n) (hn : n.kind = 3) (hr : right n = true) :
    Calls Tryz.prog 104 #[.slice A ns.length c, .int .i64 (k : Int), .bool true] w fun e w' => e = .returned (.int .i64 (szP n true)) ∧ Below w.heap.size w w' := by
  obtain ⟨b, off, rfl, hb, hnode⟩ := seg_node hseg hk
  have hkl : k < ns.length := (List.getElem?_eq_some_iff.1 hk).1
  clear hseg hk
  have hd := right_hd hr (by omega)
  unfold dm at hd
  obtain ⟨⟨d0, d1⟩, d2, d3⟩ := hd
  clear hr
  have hv : szP n true = n.ht + n.dp := by simp [szP, alongP, hn]
  have HV := Lib.hid hv
  clear hv
  generalize ns.length = len at *
  go_enter Tryz.func104, Tryz.ntmps104
  go_wp2_with (first | (refine wpList_load_node rfl _ rfl _ _ rfl _ (by repeat (first | apply NodeAt.row | (apply Blk.new'; first | rfl | (simp; done)) | (apply Blk.node; apply Blk.new'; first | rfl | (simp; done)) | assumption | apply NodeAt.alloc)) ?_) | (refine wpList_alloc_node rfl rfl ?_) | (refine wpList_store_node rfl _ _ rfl _ _ _ rfl rfl _ (by repeat (first | (apply Blk.new'; first | rfl | (simp; done)) | assumption | apply Blk.alloc)) ?_))
  (go_ret; exact ⟨ret_int (by rw [HV.out]), (by repeat (first | exact Below.refl _ _ | (refine below_setRow ?_ _ _ ?_; rotate_left; focus (simp; done)) | refine andAlloc ?_ _))⟩)

theorem size_b4_true (A : Option Addr) (ns : List Nd) (c k : Nat) (n : Nd) (w : World) (hl : ns.length ≤ 9223372036854775806) (hseg : Seg w w.heap.size A (ns.flatMap ncs)) (hk : ns[k]? = some n) (hn : n.kind = 4) (hr : right n = true) :
    Calls Tryz.prog 104 #[.slice A ns.length c, .int .i64 (k : Int), .bool true] w fun e w' => e = .returned (.int .i64 (szP n true)) ∧ Below w.heap.size w w' := by
  obtain ⟨b, off, rfl, hb, hnode⟩ := seg_node hseg hk
  have hkl : k < ns.length := (List.getElem?_eq_some_iff.1 hk).1
  clear hseg hk
  have hd := right_hd hr (by omega)
  unfold dm at hd
  obtain ⟨⟨d0, d1⟩, d2, d3⟩ := hd
  clear hr
  have hv : szP n true = n.ht + n.dp := by simp [szP, alongP, hn]
  have HV := Lib.hid hv
  clear hv
  generalize ns.length = len at *
  go_enter Tryz.func104, Tryz.ntmps104
  go_wp2_with (first | (refine wpList_load_node rfl _ rfl _ _ rfl _ (by repeat (first | apply NodeAt.row | (apply Blk.new'; first | rfl | (simp; done)) | (apply Blk.node; apply Blk.new'; first | rfl | (simp; done)) | assumption | apply NodeAt.alloc)) ?_) | (refine wpList_alloc_node rfl rfl ?_) | (refine wpList_store_node rfl _ _ rfl _ _ _ rfl rfl _ (by repeat (first | (apply Blk.new'; first | rfl | (simp; done)) | assumption | apply Blk.alloc)) ?_))
  (go_ret; exact ⟨ret_int (by rw [HV.out]), (by repeat (first | exact Below.refl _ _ | (refine below_setRow ?_ _ _ ?_; rotate_left; focus (simp; done)) | refine andAlloc ?_ _))⟩)

theorem size_b5_true (A : Option Addr) (ns : List Nd) (c k : Nat) (n : Nd) (w : World) (hl : ns.length ≤ 9223372036854775806) (hseg : Seg w w.heap.size A (ns.flatMap ncs)) (hk : ns[k]? = some n) (hn : n.kind = 5) (hr : right n = true) :
    Calls Tryz.prog 104 #[.slice A ns.length c, .int .i64 (k : Int), .bool true] w fun e w' => e = .returned (.int .i64 (szP n true)) ∧ Below w.heap.size w w' := by
  obtain ⟨b, off, rfl, hb, hnode⟩ := seg_node hseg hk
  have hkl : k < ns.length := (List.getElem?_eq_some_iff.1 hk).1
  clear hseg hk
  have hd := right_hd hr (by omega)
  unfold dm at hd
  obtain ⟨⟨d0, d1⟩, d2, d3⟩ := hd
  clear hr
  have hv : szP n true = n.ht + n.dp := by simp [szP, alongP, hn]
  have HV := Lib.hid hv
  clear hv
  generalize ns.length = len at *
  go_enter Tryz.func104, Tryz.ntmps104
  go_wp2_with (first | (refine wpList_load_node rfl _ rfl _ _ rfl _ (by repeat (first | apply NodeAt.row | (apply Blk.new'; first | rfl | (simp; done)) | (apply Blk.node; apply Blk.new'; first | rfl | (simp; done)) | assumption | apply NodeAt.alloc)) ?_) | (refine wpList_alloc_node rfl rfl ?_) | (refine wpList_store_node rfl _ _ rfl _ _ _ rfl rfl _ (by repeat (first | (apply Blk.new'; first | rfl | (simp; done)) | assumption | apply Blk.alloc)) ?_))
  (go_ret; exact ⟨ret_int (by rw [HV.out]), (by repeat (first | exact Below.refl _ _ | (refine below_setRow ?_ _ _ ?_; rotate_left; focus (simp; done)) | refine andAlloc ?_ _))⟩)

theorem size_b1_true (A : Option Addr) (ns : List Nd) (c k : Nat) (n : Nd) (w : World) (hl : ns.length ≤ 9223372036854775806) (hseg : Seg w w.heap.size A (ns.flatMap ncs)) (hk : ns[k]? = some n) (hn : n.kind = 1) :
    Calls Tryz.prog 104 #[.slice A ns.length c, .int .i64 (k : Int), .bool true] w fun e w' => e = .returned (.int .i64 (szP n true)) ∧ Below w.heap.size w w' := by
  obtain ⟨b, off, rfl, hb, hnode⟩ := seg_node hseg hk
  have hkl : k < ns.length := (List.getElem?_eq_some_iff.1 hk).1
  clear hseg hk
  have hv : szP n true = 0 := by simp [szP, alongP, hn]
  have HV := Lib.hid hv
  clear hv
  generalize ns.length = len at *
  go_enter Tryz.func104, Tryz.ntmps104
  go_wp2_with (first | (refine wpList_load_node rfl _ rfl _ _ rfl _ (by repeat (first | apply NodeAt.row | (apply Blk.new'; first | rfl | (simp; done)) | (apply Blk.node; apply Blk.new'; first | rfl | (simp; done)) | assumption | apply NodeAt.alloc)) ?_) | (refine wpList_alloc_node rfl rfl ?_) | (refine wpList_store_node rfl _ _ rfl _ _ _ rfl rfl _ (by repeat (first | (apply Blk.new'; first | rfl | (simp; done)) | assumption | apply Blk.alloc)) ?_))
  (go_ret; exact ⟨ret_int (by rw [HV.out]), (by repeat (first | exact Below.refl _ _ | (refine below_setRow ?_ _ _ ?_; rotate_left; focus (simp; done)) | refine andAlloc ?_ _))⟩)

theorem size_b2_true (A : Option Addr) (ns : List Nd) (c k : Nat) (n : Nd) (w : World) (hl : ns.length ≤ 9223372036854775806) (hseg : Seg w w.heap.size A (ns.flatMap ncs)) (hk : ns[k]? = some n) (hn : n.kind = 2) :
    Calls Tryz.prog 104 #[.slice A ns.length c, .int .i64 (k : Int), .bool true] w fun e w' => e = .returned (.int .i64 (szP n true)) ∧ Below w.heap.size w w' := by
  obtain ⟨b, off, rfl, hb, hnode⟩ := seg_node hseg hk
  have hkl : k < ns.length := (List.getElem?_eq_some_iff.1 hk).1
  clear hseg hk
  have hv : szP n true = 0 := by simp [szP, alongP, hn]
  have HV := Lib.hid hv
  clear hv
  generalize ns.length = len at *
  go_enter Tryz.func104, Tryz.ntmps104
  go_wp2_with (first | (refine wpList_load_node rfl _ rfl _ _ rfl _ (by repeat (first | apply NodeAt.row | (apply Blk.new'; first | rfl | (simp; done)) | (apply Blk.node; apply Blk.new'; first | rfl | (simp; done)) | assumption | apply NodeAt.alloc)) ?_) | (refine wpList_alloc_node rfl rfl ?_) | (refine wpList_store_node rfl _ _ rfl _ _ _ rfl rfl _ (by repeat (first | (apply Blk.new'; first | rfl | (simp; done)) | assumption | apply Blk.alloc)) ?_))
  (go_ret; exact ⟨ret_int (by rw [HV.out]), (by repeat (first | exact Below.refl _ _ | (refine below_setRow ?_ _ _ ?_; rotate_left; focus (simp; done)) | refine andAlloc ?_ _))⟩)

theorem size_b15_true (A : Option Addr) (ns : List Nd) (c k : Nat) (n : Nd) (w : World) (hl : ns.length ≤ 9223372036854775806) (hseg : Seg w w.heap.size A (ns.flatMap ncs)) (hk : ns[k]? = some n) (hn : n.kind = 15) :
    Calls Tryz.prog 104 #[.slice A ns.length c, .int .i64 (k : Int), .bool true] w fun e w' => e = .returned (.int .i64 (szP n true)) ∧ Below w.heap.size w w' := by
  obtain ⟨b, off, rfl, hb, hnode⟩ := seg_node hseg hk
  have hkl : k < ns.length := (List.getElem?_eq_some_iff.1 hk).1
  clear hseg hk
  have hv : szP n true = 0 := by simp [szP, alongP, hn]
  have HV := Lib.hid hv
  clear hv
  generalize ns.length = len at *
  go_enter Tryz.func104, Tryz.ntmps104
  go_wp2_with (first | (refine wpList_load_node rfl _ rfl _ _ rfl _ (by repeat (first | apply NodeAt.row | (apply Blk.new'; first | rfl | (simp; done)) | (apply Blk.node; apply Blk.new'; first | rfl | (simp; done)) | assumption | apply NodeAt.alloc)) ?_) | (refine wpList_alloc_node rfl rfl ?_) | (refine wpList_store_node rfl _ _ rfl _ _ _ rfl rfl _ (by repeat (first | (apply Blk.new'; first | rfl | (simp; done)) | assumption | apply Blk.alloc)) ?_))
  (go_ret; exact ⟨ret_int (by rw [HV.out]), (by repeat (first | exact Below.refl _ _ | (refine below_setRow ?_ _ _ ?_; rotate_left; focus (simp; done)) | refine andAlloc ?_ _))⟩)

theorem size_b16_true (A : Option Addr) (ns : List Nd) (c k : Nat) (n : Nd) (w : World) (hl : ns.length ≤ 9223372036854775806) (hseg : Seg w w.heap.size A (ns.flatMap ncs)) (hk : ns[k]? = some n) (hn : n.kind = 16) :
    Calls Tryz.prog 104 #[.slice A ns.length c, .int .i64 (k : Int), .bool true] w fun e w' => e = .returned (.int .i64 (szP n true)) ∧ Below w.heap.size w w' := by
  obtain ⟨b, off, rfl, hb, hnode⟩ := seg_node hseg hk
  have hkl : k < ns.length := (List.getElem?_eq_some_iff.1 hk).1
  clear hseg hk
  have hv : szP n true = 0 := by simp [szP, alongP, hn]
  have HV := Lib.hid hv
  clear hv
  generalize ns.length = len at *
  go_enter Tryz.func104, Tryz.ntmps104
  go_wp2_with (first | (refine wpList_load_node rfl _ rfl _ _ rfl _ (by repeat (first | apply NodeAt.row | (apply Blk.new'; first | rfl | (simp; done)) | (apply Blk.node; apply Blk.new'; first | rfl | (simp; done)) | assumption | apply NodeAt.alloc)) ?_) | (refine wpList_alloc_node rfl rfl ?_) | (refine wpList_store_node rfl _ _ rfl _ _ _ rfl rfl _ (by repeat (first | (apply Blk.new'; first | rfl | (simp; done)) | assumption | apply Blk.alloc)) ?_))
  (go_ret; exact ⟨ret_int (by rw [HV.out]), (by repeat (first | exact Below.refl _ _ | (refine below_setRow ?_ _ _ ?_; rotate_left; focus (simp; done)) | refine andAlloc ?_ _))⟩)

theorem size_disc_true (A : Option Addr) (ns : List Nd) (c k : Nat) (n : Nd) (w : World) (hl : ns.length ≤ 9223372036854775806) (hseg : Seg w w.heap.size A (ns.flatMap ncs)) (hk : ns[k]? = some n) (hn : n.kind = 10) :
    Calls Tryz.prog 104 #[.slice A ns.length c, .int .i64 (k : Int), .bool true] w fun e w' => e = .returned (.int .i64 (szP n true)) ∧ Below w.heap.size w w' := by
  obtain ⟨b, off, rfl, hb, hnode⟩ := seg_node hseg hk
  have hkl : k < ns.length := (List.getElem?_eq_some_iff.1 hk).1
  clear hseg hk
  have hv : szP n true = 0 := by simp [szP, alongP, hn]
  have HV := Lib.hid hv
  clear hv
  generalize ns.length = len at *
  go_enter Tryz.func104, Tryz.ntmps104
  go_wp2_with (first | (refine wpList_load_node rfl _ rfl _ _ rfl _ (by repeat (first | apply NodeAt.row | (apply Blk.new'; first | rfl | (simp; done)) | (apply Blk.node; apply Blk.new'; first | rfl | (simp; done)) | assumption | apply NodeAt.alloc)) ?_) | (refine wpList_alloc_node rfl rfl ?_) | (refine wpList_store_node rfl _ _ rfl _ _ _ rfl rfl _ (by repeat (first | (apply Blk.new'; first | rfl | (simp; done)) | assumption | apply Blk.alloc)) ?_))
  (go_ret; exact ⟨ret_int (by rw [HV.out]), (by repeat (first | exact Below.refl _ _ | (refine below_setRow ?_ _ _ ?_; rotate_left; focus (simp; done)) | refine andAlloc ?_ _))⟩)

theorem size_other_true (A : Option Addr) (ns : List Nd) (c k : Nat) (n : Nd) (w : World) (hl : ns.length ≤ 9223372036854775806) (hseg : Seg w w.heap.size A (ns.flatMap ncs)) (hk : ns[k]? = some n) (h8 : ¬ n.kind = 8) (h3 : ¬ n.kind = 3) (h4 : ¬ n.kind = 4) (h5 : ¬ n.kind = 5) (h1 : ¬ n.kind = 1) (h2 : ¬ n.kind = 2) (h15 : ¬ n.kind = 15) (h16 : ¬ n.kind = 16) (h10 : ¬ n.kind = 10) :
    Calls Tryz.prog 104 #[.slice A ns.length c, .int .i64 (k : Int), .bool true] w fun e w' => e = .returned (.int .i64 (szP n true)) ∧ Below w.heap.size w w' := by
  obtain ⟨b, off, rfl, hb, hnode⟩ := seg_node hseg hk
  have hkl : k < ns.length := (List.getElem?_eq_some_iff.1 hk).1
  clear hseg hk
  have hv : szP n true = 0 := by
    unfold szP
    split
    · rfl
    · rename_i h7
      simp [alongP, h7, h8, h3, h4, h5, h1, h2, h15, h16]
  have HV := Lib.hid hv
  clear hv
  have e8 : (n.kind == 8) = false := by simp [h8]
  have e3 : (n.kind == 3) = false := by simp [h3]
  have e4 : (n.kind == 4) = false := by simp [h4]
  have e5 : (n.kind == 5) = false := by simp [h5]
  have e1 : (n.kind == 1) = false := by simp [h1]
  have e2 : (n.kind == 2) = false := by simp [h2]
  have e15 : (n.kind == 15) = false := by simp [h15]
  have e16 : (n.kind == 16) = false := by simp [h16]
  have e10 : (n.kind == 10) = false := by simp [h10]
  clear h8 h3 h4 h5 h1 h2 h15 h16 h10
  generalize ns.length = len at *
  go_enter Tryz.func104, Tryz.ntmps104
  go_wp2_with (first | (refine wpList_load_node rfl _ rfl _ _ rfl _ (by repeat (first | apply NodeAt.row | (apply Blk.new'; first | rfl | (simp; done)) | (apply Blk.node; apply Blk.new'; first | rfl | (simp; done)) | assumption | apply NodeAt.alloc)) ?_) | (refine wpList_alloc_node rfl rfl ?_) | (refine wpList_store_node rfl _ _ rfl _ _ _ rfl rfl _ (by repeat (first | (apply Blk.new'; first | rfl | (simp; done)) | assumption | apply Blk.alloc)) ?_))
  (go_ret; exact ⟨ret_int (by rw [HV.out]), (by repeat (first | exact Below.refl _ _ | (refine below_setRow ?_ _ _ ?_; rotate_left; focus (simp; done)) | refine andAlloc ?_ _))⟩)

theorem size_kern_false (A : Option Addr) (ns : List Nd) (c k : Nat) (n : Nd) (w : World) (hl : ns.length ≤ 9223372036854775806) (hseg : Seg w w.heap.size A (ns.flatMap ncs)) (hk : ns[k]? = some n) (hn : n.kind = 8) :
    Calls Tryz.prog 104 #[.slice A ns.length c, .int .i64 (k : Int), .bool false] w fun e w' => e = .returned (.int .i64 (szP n false)) ∧ Below w.heap.size w w' := by
  obtain ⟨b, off, rfl, hb, hnode⟩ := seg_node hseg hk
  have hkl : k < ns.length := (List.getElem?_eq_some_iff.1 hk).1
  clear hseg hk
  have hv : szP n false = n.wd := by simp [szP, alongP, hn]
  have HV := Lib.hid hv
  clear hv
  generalize ns.length = len at *
  go_enter Tryz.func104, Tryz.ntmps104
  go_wp2_with (first | (refine wpList_load_node rfl _ rfl _ _ rfl _ (by repeat (first | apply NodeAt.row | (apply Blk.new'; first | rfl | (simp; done)) | (apply Blk.node; apply Blk.new'; first | rfl | (simp; done)) | assumption | apply NodeAt.alloc)) ?_) | (refine wpList_alloc_node rfl rfl ?_) | (refine wpList_store_node rfl _ _ rfl _ _ _ rfl rfl _ (by repeat (first | (apply Blk.new'; first | rfl | (simp; done)) | assumption | apply Blk.alloc)) ?_))
  (go_ret; exact ⟨ret_int (by rw [HV.out]), (by repeat (first | exact Below.refl _ _ | (refine below_setRow ?_ _ _ ?_; rotate_left; focus (simp; done)) | refine andAlloc ?_ _))⟩)

theorem size_b3_false (A : Option Addr) (ns : List Nd) (c k : Nat) (n : Nd) (w : World) (hl : ns.length ≤ 9223372036854775806) (hseg : Seg w w.heap.size A (ns.flatMap ncs)) (hk : ns[k]? = some n) (hn : n.kind = 3) (hr : right n = true) :
    Calls Tryz.prog 104 #[.slice A ns.length c, .int .i64 (k : Int), .bool false] w fun e w' => e = .returned (.int .i64 (szP n false)) ∧ Below w.heap.size w w' := by
  obtain ⟨b, off, rfl, hb, hnode⟩ := seg_node hseg hk
  have hkl : k < ns.length := (List.getElem?_eq_some_iff.1 hk).1
  clear hseg hk
  have hd := right_hd hr (by omega)
  unfold dm at hd
  obtain ⟨⟨d0, d1⟩, d2, d3⟩ := hd
  clear hr
  have hv : szP n false = n.wd := by simp [szP, alongP, hn]
  have HV := Lib.hid hv
  clear hv
  generalize ns.length = len at *
  go_enter Tryz.func104, Tryz.ntmps104
  go_wp2_with (first | (refine wpList_load_node rfl _ rfl _ _ rfl _ (by repeat (first | apply NodeAt.row | (apply Blk.new'; first | rfl | (simp; done)) | (apply Blk.node; apply Blk.new'; first | rfl | (simp; done)) | assumption | apply NodeAt.alloc)) ?_) | (refine wpList_alloc_node rfl rfl ?_) | (refine wpList_store_node rfl _ _ rfl _ _ _ rfl rfl _ (by repeat (first | (apply Blk.new'; first | rfl | (simp; done)) | assumption | apply Blk.alloc)) ?_))
  (go_ret; exact ⟨ret_int (by rw [HV.out]), (by repeat (first | exact Below.refl _ _ | (refine below_setRow ?_ _ _ ?_; rotate_left; focus (simp; done)) | refine andAlloc ?_ _))⟩)

theorem size_b4_false (A : Option Addr) (ns : List Nd) (c k : Nat) (n : Nd) (w : World) (hl : ns.length ≤ 9223372036854775806) (hseg : Seg w w.heap.size A (ns.flatMap ncs)) (hk : ns[k]? = some n) (hn : n.kind = 4) (hr : right n = true) :
    Calls Tryz.prog 104 #[.slice A ns.length c, .int .i64 (k : Int), .bool false] w fun e w' => e = .returned (.int .i64 (szP n false)) ∧ Below w.heap.size w w' := by
  obtain ⟨b, off, rfl, hb, hnode⟩ := seg_node hseg hk
  have hkl : k < ns.length := (List.getElem?_eq_some_iff.1 hk).1
  clear hseg hk
  have hd := right_hd hr (by omega)
  unfold dm at hd
  obtain ⟨⟨d0, d1⟩, d2, d3⟩ := hd
  clear hr
  have hv : szP n false = n.wd := by simp [szP, alongP, hn]
  have HV := Lib.hid hv
  clear hv
  generalize ns.length = len at *
  go_enter Tryz.func104, Tryz.ntmps104
  go_wp2_with (first | (refine wpList_load_node rfl _ rfl _ _ rfl _ (by repeat (first | apply NodeAt.row | (apply Blk.new'; first | rfl | (simp; done)) | (apply Blk.node; apply Blk.new'; first | rfl | (simp; done)) | assumption | apply NodeAt.alloc)) ?_) | (refine wpList_alloc_node rfl rfl ?_) | (refine wpList_store_node rfl _ _ rfl _ _ _ rfl rfl _ (by repeat (first | (apply Blk.new'; first | rfl | (simp; done)) | assumption | apply Blk.alloc)) ?_))
  (go_ret; exact ⟨ret_int (by rw [HV.out]), (by repeat (first | exact Below.refl _ _ | (refine below_setRow ?_ _ _ ?_; rotate_left; focus (simp; done)) | refine andAlloc ?_ _))⟩)

theorem size_b5_false (A : Option Addr) (ns : List Nd) (c k : Nat) (n : Nd) (w : World) (hl : ns.length ≤ 9223372036854775806) (hseg : Seg w w.heap.size A (ns.flatMap ncs)) (hk : ns[k]? = some n) (hn : n.kind = 5) (hr : right n = true) :
    Calls Tryz.prog 104 #[.slice A ns.length c, .int .i64 (k : Int), .bool false] w fun e w' => e = .returned (.int .i64 (szP n false)) ∧ Below w.heap.size w w' := by
  obtain ⟨b, off, rfl, hb, hnode⟩ := seg_node hseg hk
  have hkl : k < ns.length := (List.getElem?_eq_some_iff.1 hk).1
  clear hseg hk
  have hd := right_hd hr (by omega)
  unfold dm at hd
  obtain ⟨⟨d0, d1⟩, d2, d3⟩ := hd
  clear hr
  have hv : szP n false = n.wd := by simp [szP, alongP, hn]
  have HV := Lib.hid hv
  clear hv
  generalize ns.length = len at *
  go_enter Tryz.func104, Tryz.ntmps104
  go_wp2_with (first | (refine wpList_load_node rfl _ rfl _ _ rfl _ (by repeat (first | apply NodeAt.row | (apply Blk.new'; first | rfl | (simp; done)) | (apply Blk.node; apply Blk.new'; first | rfl | (simp; done)) | assumption | apply NodeAt.alloc)) ?_) | (refine wpList_alloc_node rfl rfl ?_) | (refine wpList_store_node rfl _ _ rfl _ _ _ rfl rfl _ (by repeat (first | (apply Blk.new'; first | rfl | (simp; done)) | assumption | apply Blk.alloc)) ?_))
  (go_ret; exact ⟨ret_int (by rw [HV.out]), (by repeat (first | exact Below.refl _ _ | (refine below_setRow ?_ _ _ ?_; rotate_left; focus (simp; done)) | refine andAlloc ?_ _))⟩)

theorem size_b1_false (A : Option Addr) (ns : List Nd) (c k : Nat) (n : Nd) (w : World) (hl : ns.length ≤ 9223372036854775806) (hseg : Seg w w.heap.size A (ns.flatMap ncs)) (hk : ns[k]? = some n) (hn : n.kind = 1) :
    Calls Tryz.prog 104 #[.slice A ns.length c, .int .i64 (k : Int), .bool false] w fun e w' => e = .returned (.int .i64 (szP n false)) ∧ Below w.heap.size w w' := by
  obtain ⟨b, off, rfl, hb, hnode⟩ := seg_node hseg hk
  have hkl : k < ns.length := (List.getElem?_eq_some_iff.1 hk).1
  clear hseg hk
  have hv : szP n false = n.wd := by simp [szP, alongP, hn]
  have HV := Lib.hid hv
  clear hv
  generalize ns.length = len at *
  go_enter Tryz.func104, Tryz.ntmps104
  go_wp2_with (first | (refine wpList_load_node rfl _ rfl _ _ rfl _ (by repeat (first | apply NodeAt.row | (apply Blk.new'; first | rfl | (simp; done)) | (apply Blk.node; apply Blk.new'; first | rfl | (simp; done)) | assumption | apply NodeAt.alloc)) ?_) | (refine wpList_alloc_node rfl rfl ?_) | (refine wpList_store_node rfl _ _ rfl _ _ _ rfl rfl _ (by repeat (first | (apply Blk.new'; first | rfl | (simp; done)) | assumption | apply Blk.alloc)) ?_))
  (go_ret; exact ⟨ret_int (by rw [HV.out]), (by repeat (first | exact Below.refl _ _ | (refine below_setRow ?_ _ _ ?_; rotate_left; focus (simp; done)) | refine andAlloc ?_ _))⟩)

theorem size_b2_false (A : Option Addr) (ns : List Nd) (c k : Nat) (n : Nd) (w : World) (hl : ns.length ≤ 9223372036854775806) (hseg : Seg w w.heap.size A (ns.flatMap ncs)) (hk : ns[k]? = some n) (hn : n.kind = 2) :
    Calls Tryz.prog 104 #[.slice A ns.length c, .int .i64 (k : Int), .bool false] w fun e w' => e = .returned (.int .i64 (szP n false)) ∧ Below w.heap.size w w' := by
  obtain ⟨b, off, rfl, hb, hnode⟩ := seg_node hseg hk
  have hkl : k < ns.length := (List.getElem?_eq_some_iff.1 hk).1
  clear hseg hk
  have hv : szP n false = n.wd := by simp [szP, alongP, hn]
  have HV := Lib.hid hv
  clear hv
  generalize ns.length = len at *
  go_enter Tryz.func104, Tryz.ntmps104
  go_wp2_with (first | (refine wpList_load_node rfl _ rfl _ _ rfl _ (by repeat (first | apply NodeAt.row | (apply Blk.new'; first | rfl | (simp; done)) | (apply Blk.node; apply Blk.new'; first | rfl | (simp; done)) | assumption | apply NodeAt.alloc)) ?_) | (refine wpList_alloc_node rfl rfl ?_) | (refine wpList_store_node rfl _ _ rfl _ _ _ rfl rfl _ (by repeat (first | (apply Blk.new'; first | rfl | (simp; done)) | assumption | apply Blk.alloc)) ?_))
  (go_ret; exact ⟨ret_int (by rw [HV.out]), (by repeat (first | exact Below.refl _ _ | (refine below_setRow ?_ _ _ ?_; rotate_left; focus (simp; done)) | refine andAlloc ?_ _))⟩)

theorem size_b15_false (A : Option Addr) (ns : List Nd) (c k : Nat) (n : Nd) (w : World) (hl : ns.length ≤ 9223372036854775806) (hseg : Seg w w.heap.size A (ns.flatMap ncs)) (hk : ns[k]? = some n) (hn : n.kind = 15) :
    Calls Tryz.prog 104 #[.slice A ns.length c, .int .i64 (k : Int), .bool false] w fun e w' => e = .returned (.int .i64 (szP n false)) ∧ Below w.heap.size w w' := by
  obtain ⟨b, off, rfl, hb, hnode⟩ := seg_node hseg hk
  have hkl : k < ns.length := (List.getElem?_eq_some_iff.1 hk).1
  clear hseg hk
  have hv : szP n false = n.wd := by simp [szP, alongP, hn]
  have HV := Lib.hid hv
  clear hv
  generalize ns.length = len at *
  go_enter Tryz.func104, Tryz.ntmps104
  go_wp2_with (first | (refine wpList_load_node rfl _ rfl _ _ rfl _ (by repeat (first | apply NodeAt.row | (apply Blk.new'; first | rfl | (simp; done)) | (apply Blk.node; apply Blk.new'; first | rfl | (simp; done)) | assumption | apply NodeAt.alloc)) ?_) | (refine wpList_alloc_node rfl rfl ?_) | (refine wpList_store_node rfl _ _ rfl _ _ _ rfl rfl _ (by repeat (first | (apply Blk.new'; first | rfl | (simp; done)) | assumption | apply Blk.alloc)) ?_))
  (go_ret; exact ⟨ret_int (by rw [HV.out]), (by repeat (first | exact Below.refl _ _ | (refine below_setRow ?_ _ _ ?_; rotate_left; focus (simp; done)) | refine andAlloc ?_ _))⟩)

theorem size_b16_false (A : Option Addr) (ns : List Nd) (c k : Nat) (n : Nd) (w : World) (hl : ns.length ≤ 9223372036854775806) (hseg : Seg w w.heap.size A (ns.flatMap ncs)) (hk : ns[k]? = some n) (hn : n.kind = 16) :
    Calls Tryz.prog 104 #[.slice A ns.length c, .int .i64 (k : Int), .bool false] w fun e w' => e = .returned (.int .i64 (szP n false)) ∧ Below w.heap.size w w' := by
  obtain ⟨b, off, rfl, hb, hnode⟩ := seg_node hseg hk
  have hkl : k < ns.length := (List.getElem?_eq_some_iff.1 hk).1
  clear hseg hk
  have hv : szP n false = n.wd := by simp [szP, alongP, hn]
  have HV := Lib.hid hv
  clear hv
  generalize ns.length = len at *
  go_enter Tryz.func104, Tryz.ntmps104
  go_wp2_with (first | (refine wpList_load_node rfl _ rfl _ _ rfl _ (by repeat (first | apply NodeAt.row | (apply Blk.new'; first | rfl | (simp; done)) | (apply Blk.node; apply Blk.new'; first | rfl | (simp; done)) | assumption | apply NodeAt.alloc)) ?_) | (refine wpList_alloc_node rfl rfl ?_) | (refine wpList_store_node rfl _ _ rfl _ _ _ rfl rfl _ (by repeat (first | (apply Blk.new'; first | rfl | (simp; done)) | assumption | apply Blk.alloc)) ?_))
  (go_ret; exact ⟨ret_int (by rw [HV.out]), (by repeat (first | exact Below.refl _ _ | (refine below_setRow ?_ _ _ ?_; rotate_left; focus (simp; done)) | refine andAlloc ?_ _))⟩)

theorem size_other_false (A : Option Addr) (ns : List Nd) (c k : Nat) (n : Nd) (w : World) (hl : ns.length ≤ 9223372036854775806) (hseg : Seg w w.heap.size A (ns.flatMap ncs)) (hk : ns[k]? = some n) (h8 : ¬ n.kind = 8) (h3 : ¬ n.kind = 3) (h4 : ¬ n.kind = 4) (h5 : ¬ n.kind = 5) (h1 : ¬ n.kind = 1) (h2 : ¬ n.kind = 2) (h15 : ¬ n.kind = 15) (h16 : ¬ n.kind = 16) (h10 : ¬ n.kind = 10) :
    Calls Tryz.prog 104 #[.slice A ns.length c, .int .i64 (k : Int), .bool false] w fun e w' => e = .returned (.int .i64 (szP n false)) ∧ Below w.heap.size w w' := by
  obtain ⟨b, off, rfl, hb, hnode⟩ := seg_node hseg hk
  have hkl : k < ns.length := (List.getElem?_eq_some_iff.1 hk).1
  clear hseg hk
  have hv : szP n false = 0 := by
    unfold szP
    split
    · rfl
    · rename_i h7
      simp [alongP, h7, h8, h3, h4, h5, h1, h2, h15, h16]
  have HV := Lib.hid hv
  clear hv
  have e8 : (n.kind == 8) = false := by simp [h8]
  have e3 : (n.kind == 3) = false := by simp [h3]
  have e4 : (n.kind == 4) = false := by simp [h4]
  have e5 : (n.kind == 5) = false := by simp [h5]
  have e1 : (n.kind == 1) = false := by simp [h1]
  have e2 : (n.kind == 2) = false := by simp [h2]
  have e15 : (n.kind == 15) = false := by simp [h15]
  have e16 : (n.kind == 16) = false := by simp [h16]
  have e10 : (n.kind == 10) = false := by simp [h10]
  clear h8 h3 h4 h5 h1 h2 h15 h16 h10
  generalize ns.length = len at *
  go_enter Tryz.func104, Tryz.ntmps104
  go_wp2_with (first | (refine wpList_load_node rfl _ rfl _ _ rfl _ (by repeat (first | apply NodeAt.row | (apply Blk.new'; first | rfl | (simp; done)) | (apply Blk.node; apply Blk.new'; first | rfl | (simp; done)) | assumption | apply NodeAt.alloc)) ?_) | (refine wpList_alloc_node rfl rfl ?_) | (refine wpList_store_node rfl _ _ rfl _ _ _ rfl rfl _ (by repeat (first | (apply Blk.new'; first | rfl | (simp; done)) | assumption | apply Blk.alloc)) ?_))
  (go_ret; exact ⟨ret_int (by rw [HV.out]), (by repeat (first | exact Below.refl _ _ | (refine below_setRow ?_ _ _ ?_; rotate_left; focus (simp; done)) | refine andAlloc ?_ _))⟩)

theorem size_any (A : Option Addr) (ns : List Nd) (c k : Nat) (n : Nd) (down : Bool) (w : World) (hl : ns.length ≤ 9223372036854775806) (hseg : Seg w w.heap.size A (ns.flatMap ncs)) (hk : ns[k]? = some n) (hr : right n = true) (hd : down = true ∨ ¬ n.kind = 10) :
    Calls Tryz.prog 104 #[.slice A ns.length c, .int .i64 (k : Int), .bool down] w fun e w' => e = .returned (.int .i64 (szP n down)) ∧ Below w.heap.size w w' := by
  cases down
  · have hd : ¬ n.kind = 10 := by
      rcases hd with h | h
      · cases h
      · exact h
    by_cases h8 : n.kind = 8
    · exact size_kern_false A ns c k n w hl hseg hk h8
    by_cases h3 : n.kind = 3
    · exact size_b3_false A ns c k n w hl hseg hk h3 hr
    by_cases h4 : n.kind = 4
    · exact size_b4_false A ns c k n w hl hseg hk h4 hr
    by_cases h5 : n.kind = 5
    · exact size_b5_false A ns c k n w hl hseg hk h5 hr
    by_cases h1 : n.kind = 1
    · exact size_b1_false A ns c k n w hl hseg hk h1
    by_cases h2 : n.kind = 2
    · exact size_b2_false A ns c k n w hl hseg hk h2
    by_cases h15 : n.kind = 15
    · exact size_b15_false A ns c k n w hl hseg hk h15
    by_cases h16 : n.kind = 16
    · exact size_b16_false A ns c k n w hl hseg hk h16
    exact size_other_false A ns c k n w hl hseg hk h8 h3 h4 h5 h1 h2 h15 h16 hd
  · by_cases h10 : n.kind = 10
    · exact size_disc_true A ns c k n w hl hseg hk h10
    by_cases h8 : n.kind = 8
    · exact size_kern_true A ns c k n w hl hseg hk h8
    by_cases h3 : n.kind = 3
    · exact size_b3_true A ns c k n w hl hseg hk h3 hr
    by_cases h4 : n.kind = 4
    · exact size_b4_true A ns c k n w hl hseg hk h4 hr
    by_cases h5 : n.kind = 5
    · exact size_b5_true A ns c k n w hl hseg hk h5 hr
    by_cases h1 : n.kind = 1
    · exact size_b1_true A ns c k n w hl hseg hk h1
    by_cases h2 : n.kind = 2
    · exact size_b2_true A ns c k n w hl hseg hk h2
    by_cases h15 : n.kind = 15
    · exact size_b15_true A ns c k n w hl hseg hk h15
    by_cases h16 : n.kind = 16
    · exact size_b16_true A ns c k n w hl hseg hk h16
    exact size_other_true A ns c k n w hl hseg hk h8 h3 h4 h5 h1 h2 h15 h16 h10
set_option maxHeartbeats 2000000 in
set_option maxRecDepth 100000 in
/-- A Disc: what its third list comes to, if that is a dimension. -/
theorem size_disc (A : Option Addr) (ns : List Nd) (c k m : Nat) (ss : List Nat) (n : Nd) (v : Int) (w : World) (hc : chk ns = 0) (hcap : ns.length ≤ c) (hseg : Seg w w.heap.size A (ns.flatMap ncs)) (hk : ns[k]? = some n) (hb : begB ns k = true) (hm : endc (ns.drop k) 0 = some m) (hm2 : 2 ≤ m) (hd : D3 ss (ns.drop (k + 1)) 0 (m - 2)) (hn : n.kind = 10)
    (a b c' d p q r s e1 : Int) (htot : ∀ w1 A1 c1, (thr ss (ns.drop (k + 1)) 0 2).length ≤ c1 → Seg w1 w1.heap.size A1 ((thr ss (ns.drop (k + 1)) 0 2).flatMap ncs) → Calls Tryz.prog 44 #[.slice A1 (thr ss (ns.drop (k + 1)) 0 2).length c1, .bool false] w1 fun e w' => e = .returned (.tuple #[.agg #[.int .i64 v, .int .i64 a, .int .i64 b, .int .i64 c', .int .i64 d, .int .i64 p, .int .i64 q, .int .i64 r, .int .i64 s], .int .i64 e1]) ∧ Below w1.heap.size w1 w') :
    Calls Tryz.prog 104 #[.slice A ns.length c, .int .i64 (k : Int), .bool false] w fun e w' => e = .returned (.int .i64 v) ∧ Below w.heap.size w w' := by
  have hl := (chk_run hc).1
  have HT := Lib.hid fun w1 (h : Below w.heap.size w w1) => parts_ok A ns c k m n ss w1 hcap (Seg.belowW hseg h) hc hb hk hn hm hd hm2
  have HS := Lib.hid htot
  obtain ⟨b, off, rfl, hb, hnode⟩ := seg_node hseg hk
  have hkl : k < ns.length := (List.getElem?_eq_some_iff.1 hk).1
  clear hseg hk htot hm hd hc
  generalize thr ss (ns.drop (k + 1)) 0 = F at *
  generalize ns.length = len at *
  go_enter Tryz.func104, Tryz.ntmps104
  go_wp2_with (first | (refine wpList_load_node rfl _ rfl _ _ rfl _ (by repeat (first | apply NodeAt.row | (apply Blk.new'; first | rfl | (simp; done)) | (apply Blk.node; apply Blk.new'; first | rfl | (simp; done)) | assumption | apply NodeAt.alloc)) ?_) | (refine wpList_alloc_node rfl rfl ?_) | (refine wpList_store_node rfl _ _ rfl _ _ _ rfl rfl _ (by repeat (first | (apply Blk.new'; first | rfl | (simp; done)) | assumption | apply Blk.alloc)) ?_))
  refine (HT.out _ (andAlloc (Below.refl _ _) _)).mono ?_
  rintro e w1 ⟨vs, rfl, ho, hb1⟩
  obtain ⟨A2, c2, h2, hc2, _, hs2⟩ := Seg.of_own (ho.own 2 (by omega))
  have hl1 : Below w.heap.size w w1 := andThen (andAlloc (Below.refl _ _) _) hb1
  rw [h2]
  go_wp2_with fail
  refine (HS.out _ _ _ hc2 hs2).mono ?_
  rintro e w2 ⟨rfl, hb2⟩
  go_wp2_with fail
  go_ret
  exact ⟨rfl, andAlloc (andThen hl1 hb2) _⟩
theorem tot_case (l : List Nd) (hl : l.length ≤ 879609302220) : ∃ x a b c d p q r s e1, (-1073741823 ≤ x ∧ x ≤ 1073741823) ∧ ∀ (A : Option Addr) (k : Nat) (w : World), l.length ≤ k → Seg w w.heap.size A (l.flatMap ncs) → Calls Tryz.prog 44 #[.slice A l.length k, .bool false] w fun e w' => e = .returned (.tuple #[.agg #[.int .i64 x, .int .i64 a, .int .i64 b, .int .i64 c, .int .i64 d, .int .i64 p, .int .i64 q, .int .i64 r, .int .i64 s], .int .i64 e1]) ∧ Below w.heap.size w w' := by
  by_cases hc : chk l = 0
  · obtain ⟨xs, hx⟩ := its_of_chk hc
    have hT := totR_len l false xs
    have hn : -1073741823 ≤ (totR l false xs).nat ∧ (totR l false xs).nat ≤ 1073741823 := by
      unfold totR
      split
      · rename_i h
        simpa [dimB] using h
      · simp [tz]
    obtain ⟨⟨x, st, sh⟩, hTe⟩ : ∃ T, totR l false xs = T := ⟨_, rfl⟩
    rw [hTe] at hT hn
    match st, sh, hT.1, hT.2 with
    | [a, b, c, d], [p, q, r, s], _, _ =>
    have ht := fun A k w h hs => totals_any A l k xs false w hc h hs hx
    simp only [hTe] at ht
    exact ⟨x, a, b, c, d, p, q, r, s, _, hn, ht⟩
  · exact ⟨0, 0, 0, 0, 0, 0, 0, 0, 0, chk l, by omega, fun A k w h hs => totals_bad A l k false w (by omega) hs hc⟩
/-- Each item of a list has a size. -/
theorem size_case (ns : List Nd) (down : Bool) (hc : chk ns = 0) : ∃ f : Nat → Int, (∀ k, -281474976710656 ≤ f k ∧ f k ≤ 281474976710656) ∧ (∀ (k : Nat) (n : Nd), ns[k]? = some n → (down = true ∨ ¬ n.kind = 10) → f k = szP n down) ∧
    ∀ (k : Nat) (n : Nd), ns[k]? = some n → ¬ n.kind = 6 → ¬ n.kind = 11 → ∀ (A : Option Addr) (c : Nat) (w : World), ns.length ≤ c → Seg w w.heap.size A (ns.flatMap ncs) → Calls Tryz.prog 104 #[.slice A ns.length c, .int .i64 (k : Int), .bool down] w fun e w' => e = .returned (.int .i64 (f k)) ∧ Below w.heap.size w w' := by
  have hl := (chk_run hc).1
  have hr := chk_right hc
  have hex : ∀ k : Nat, ∃ v : Int, (-281474976710656 ≤ v ∧ v ≤ 281474976710656) ∧ (∀ (n : Nd), ns[k]? = some n → (down = true ∨ ¬ n.kind = 10) → v = szP n down) ∧
      ∀ (n : Nd), ns[k]? = some n → ¬ n.kind = 6 → ¬ n.kind = 11 → ∀ (A : Option Addr) (c : Nat) (w : World), ns.length ≤ c → Seg w w.heap.size A (ns.flatMap ncs) → Calls Tryz.prog 104 #[.slice A ns.length c, .int .i64 (k : Int), .bool down] w fun e w' => e = .returned (.int .i64 v) ∧ Below w.heap.size w w' := by
    intro k
    cases hk : ns[k]? with
    | none => exact ⟨0, by omega, fun n h => by (cases h), fun n h => by (cases h)⟩
    | some n =>
      have hrn := hr n (List.mem_of_getElem? hk)
      by_cases hd : down = true ∨ ¬ n.kind = 10
      · refine ⟨szP n down, ?_, fun n' h _ => by (injection h with h; rw [h]), fun n' h _ _ A c w hcap hs => by (injection h with h; subst h; exact size_any A ns c k n down w (by omega) hs hk hrn hd)⟩
        unfold szP
        split
        · omega
        · have := along_bd hrn down
          omega
      · have hdn : down = false := by
          cases down
          · rfl
          · exact absurd (.inl rfl) hd
        have h10 : n.kind = 10 := by
          by_cases h : n.kind = 10
          · exact h
          · exact absurd (.inr h) hd
        subst hdn
        obtain ⟨m, hm⟩ := item_ends hc hk (by omega) (by omega)
        obtain ⟨hm2, ss, hss⟩ := disc_steps hc hk h10 hm
        have hlen : (thr ss (ns.drop (k + 1)) 0 2).length ≤ 2000 := by
          have h1 := thr_len (j := 2) hss
          have h2 := hss.le
          rw [List.length_drop] at h2
          omega
        obtain ⟨x, a, b, c', d, p, q, r, s, e1, hx, ht⟩ := tot_case (thr ss (ns.drop (k + 1)) 0 2) (by omega)
        refine ⟨x, by omega, fun n' h h' => by (injection h with h; subst h; exact absurd h' hd), fun n' h _ _ A c w hcap hs => by (injection h with h; subst h; exact size_disc A ns c k m ss n x w hc hcap hs hk (beg_of hk (by omega) (by omega)) hm hm2 hss h10 a b c' d p q r s e1 fun w1 A1 c1 h1 h2 => ht A1 c1 w1 h1 h2)⟩
  exact ⟨fun k => (hex k).choose, fun k => (hex k).choose_spec.1, fun k n h h' => (hex k).choose_spec.2.1 n h h', fun k n h h6 h11 => (hex k).choose_spec.2.2 n h h6 h11⟩
end Go.Proofs.YtoboecenlangmaaGreat.Pk
end
section
namespace Go.Proofs.YtoboecenlangmaaGreat.Gl
open Go.ChangeShapes Go.WideShapes Go.ChangeAt Go.RowKit
open Me

/-- What a piece takes: the sum grows, the share told last is kept. -/
theorem more_any (s S N D L : Int) (bS bN bD bL : Nat) (w : World) (hS : Blk w bS 3 #[.int .i64 S]) (hN : Blk w bN 3 #[.int .i64 N]) (hD : Blk w bD 3 #[.int .i64 D]) (hL : Blk w bL 3 #[.int .i64 L])
    (h1 : bS ≠ bN) (h2 : bS ≠ bD) (h3 : bS ≠ bL) (b0 : -4611686018427387904 ≤ S + s) (b1 : S + s ≤ 4611686018427387904) (l0 : -70368744177664 ≤ L) (l1 : L ≤ 70368744177664) :
    Calls Tryz.prog 168 #[.int .i64 s, .pointer (some ⟨bS, 0, none⟩), .pointer (some ⟨bN, 0, none⟩), .pointer (some ⟨bD, 0, none⟩), .pointer (some ⟨bL, 0, none⟩)] w fun e w' =>
      e = .returned (.tuple #[.int .i64 (psV (S + s) N D - L), .int .i64 (psE (S + s) N D)]) ∧ ∃ k, w' = ((w.setCell ⟨bS, 0, none⟩ (.int .i64 (S + s))).setCell ⟨bL, 0, none⟩ (.int .i64 (psV (S + s) N D))).drewN k := by
  have cS := hS.cell 0
  have fS := hS.free 0
  have cS1 := (hS.set 0 (.int .i64 (S + s))).cell 0
  have cN1 := (hN.far (p := ⟨bS, 0, none⟩) (fun e => h1 e.symm) (.int .i64 (S + s))).cell 0
  have cD1 := (hD.far (p := ⟨bS, 0, none⟩) (fun e => h2 e.symm) (.int .i64 (S + s))).cell 0
  have cL1 := (hL.far (p := ⟨bS, 0, none⟩) (fun e => h3 e.symm) (.int .i64 (S + s))).cell 0
  have fL1 := (hL.far (p := ⟨bS, 0, none⟩) (fun e => h3 e.symm) (.int .i64 (S + s))).free 0
  have hv := psV_bd (S + s) N D
  have v0 := hv.1
  have v1 := hv.2
  clear hv hS hN hD hL
  simp only [List.getElem?_toArray, List.setIfInBounds_toArray, List.set_cons_zero, List.getElem?_cons_zero] at cS cS1 cN1 cD1 cL1
  go_enter Tryz.func168, Tryz.ntmps168
  go_wp2_with (go_at_call 169; refine (share_any _ _ _ _).mono ?_; rintro e w' ⟨rfl, k, rfl⟩)
  go_ret2
  exact ⟨rfl, _, rfl⟩
theorem Row.up {w w' : World} {A : Option Addr} {l : List G} (h : Row w A l) (hb : Below w.heap.size w w') : Row w' A l := (Seg.below h hb).more hb.size

theorem info_int : (Tryz.prog.info? 3).map (fun i => (i.zero, i.size, i.bytes)) = some (some (.int .i64 0), 1, 8) := by kernel_rfl

/-- Sizes refuses. -/
theorem sizes_bad (A : Option Addr) (l : List G) (c : Nat) (sign order N D : Int) (w : World) (h63 : l.length ≤ maxLen) (hrow : Row w A l) (hE : rowE l ≠ 0 ∨ argOk sign order = false ∨ rngOk sign N D = false) :
    Calls Tryz.prog 102 #[.slice A l.length c, .int .i64 sign, .int .i64 order, .int .i64 N, .int .i64 D] w fun e w' =>
      e = .returned (.tuple #[.slice none 0 0, .int .i64 (szE l sign order N D)]) ∧ Below w.heap.size w w' := by
  have hb2 : Below w.heap.size w ((w.alloc (.cells #[.int .i64 N] 3)).alloc (.cells #[.int .i64 D] 3)) := ((Below.refl _ _).alloc (Nat.le_refl _) _).alloc (by simp) _
  have hcall := row_any A l c _ h63 (hrow.up hb2)
  have HC := Lib.hid hcall
  clear hcall
  by_cases hr : rowE l = 0
  · have ht : (rowE l != 0) = false := by rw [hr]; rfl
    cases ha : argOk sign order
    · have hE' := szE_arg (sign := sign) (order := order) (N := N) (D := D) hr ha
      have hno : ¬ (0 ≤ sign ∧ sign ≤ 2 ∧ 0 ≤ order ∧ order ≤ 3) := by rw [← argOk_iff, ha]; simp
      have HE := Lib.hid hE'
      clear hE' hr hE ha
      rcases (show sign < 0 ∨ (0 ≤ sign ∧ 2 < sign) ∨ (0 ≤ sign ∧ sign ≤ 2 ∧ order < 0) ∨ (0 ≤ sign ∧ sign ≤ 2 ∧ 0 ≤ order ∧ 3 < order) by omega) with h | ⟨h, k1⟩ | ⟨h, k1, k2⟩ | ⟨h, k1, k2, k3⟩
      all_goals
        clear hno
        go_enter Tryz.func102, Tryz.ntmps102
        go_wp2_with (first | (go_at_call 167; refine HC.out.mono ?_; rintro e w3 ⟨rfl, hb3⟩) | (go_at_call 150; refine (near_any _ _).mono ?_; rintro e w' ⟨rfl, rfl⟩))
        go_ret2
        exact ⟨by rw [HE.out]; rfl, hb2.trans (hb3.mono (by simp; omega))⟩
    · obtain ⟨a0, a1, a2, a3⟩ := argOk_iff.1 ha
      have hg : rngOk sign N D = false := by
        rcases hE with h | h | h
        · exact absurd hr h
        · rw [ha] at h; cases h
        · exact h
      have hE' := szE_rng hr ha hg
      have HE := Lib.hid hE'
      clear hE' hr hE ha
      cases hN : nearB N
      · have HX := Lib.hid hg
        clear hg
        go_enter Tryz.func102, Tryz.ntmps102
        go_wp2_with (first | (go_at_call 167; refine HC.out.mono ?_; rintro e w3 ⟨rfl, hb3⟩; have cN : w3.cell? ⟨w.heap.size, 0, none⟩ = some (.int .i64 N) := (hb3.cell (p := ⟨w.heap.size, 0, none⟩) (by simp; omega)).trans (by simp [World.cell?_alloc_lt, go_sem]); have cD : w3.cell? ⟨w.heap.size + 1, 0, none⟩ = some (.int .i64 D) := (hb3.cell (p := ⟨w.heap.size + 1, 0, none⟩) (by simp)).trans (by simp [go_sem])) | (go_at_call 150; refine (near_any _ _).mono ?_; rintro e w' ⟨rfl, rfl⟩))
        go_ret2
        exact ⟨by rw [HE.out]; rfl, hb2.trans (hb3.mono (by simp; omega))⟩
      · cases hD : nearB D
        · have HX := Lib.hid hg
          clear hg
          go_enter Tryz.func102, Tryz.ntmps102
          go_wp2_with (first | (go_at_call 167; refine HC.out.mono ?_; rintro e w3 ⟨rfl, hb3⟩; have cN : w3.cell? ⟨w.heap.size, 0, none⟩ = some (.int .i64 N) := (hb3.cell (p := ⟨w.heap.size, 0, none⟩) (by simp; omega)).trans (by simp [World.cell?_alloc_lt, go_sem]); have cD : w3.cell? ⟨w.heap.size + 1, 0, none⟩ = some (.int .i64 D) := (hb3.cell (p := ⟨w.heap.size + 1, 0, none⟩) (by simp)).trans (by simp [go_sem])) | (go_at_call 150; refine (near_any _ _).mono ?_; rintro e w' ⟨rfl, rfl⟩))
          go_ret2
          exact ⟨by rw [HE.out]; rfl, hb2.trans (hb3.mono (by simp; omega))⟩
        · have hs : ¬ (sign = 0 ∨ 1 ≤ D) := by
            intro h
            rw [show rngOk sign N D = true by unfold rngOk; rw [hN, hD, decide_eq_true h]; rfl] at hg
            cases hg
          have hs0 : (sign != 0) = true := by
            have : sign ≠ 0 := fun h => hs (.inl h)
            simp [this]
          have hs1 : D < 1 := by omega
          clear hs hg
          go_enter Tryz.func102, Tryz.ntmps102
          go_wp2_with (first | (go_at_call 167; refine HC.out.mono ?_; rintro e w3 ⟨rfl, hb3⟩; have cN : w3.cell? ⟨w.heap.size, 0, none⟩ = some (.int .i64 N) := (hb3.cell (p := ⟨w.heap.size, 0, none⟩) (by simp; omega)).trans (by simp [World.cell?_alloc_lt, go_sem]); have cD : w3.cell? ⟨w.heap.size + 1, 0, none⟩ = some (.int .i64 D) := (hb3.cell (p := ⟨w.heap.size + 1, 0, none⟩) (by simp)).trans (by simp [go_sem])) | (go_at_call 150; refine (near_any _ _).mono ?_; rintro e w' ⟨rfl, rfl⟩))
          go_ret2
          exact ⟨by rw [HE.out]; rfl, hb2.trans (hb3.mono (by simp; omega))⟩
  · have hE' := szE_row (sign := sign) (order := order) (N := N) (D := D) hr
    have ht : (rowE l != 0) = true := by simp [hr]
    have HE := Lib.hid hE'
    clear hE' hr hE
    go_enter Tryz.func102, Tryz.ntmps102
    go_wp2_with (go_at_call 167; refine HC.out.mono ?_; rintro e w3 ⟨rfl, hb3⟩)
    go_ret2
    exact ⟨by rw [HE.out]; rfl, hb2.trans (hb3.mono (by simp; omega))⟩
end Go.Proofs.YtoboecenlangmaaGreat.Gl
end
section
namespace Go.Proofs.YtoboecenlangmaaGreat.Gl
open Go.ChangeShapes Go.WideShapes Go.ChangeAt Go.RowKit
open Me

def SzOut (l : List G) (sign order N D : Int) (w : World) (e : Ending) (w' : World) : Prop :=
  (if szE l sign order N D = 0 then ∃ v, e = .returned (.tuple #[v, .int .i64 0]) ∧ w'.ownsRow w.heap.size 3 1 v l.length ((szL l sign order N D).map (Value.int .i64))
   else e = .returned (.tuple #[.slice none 0 0, .int .i64 (szE l sign order N D)])) ∧ Below w.heap.size w w'

theorem SzOut.ok {l : List G} {sign order N D : Int} {w w' : World} {v : Value} {z : Sz} (hr : rowE l = 0) (ha : argOk sign order = true) (hg : rngOk sign N D = true) (hz : run sign order N D l = some z)
    (hown : w'.ownsRow w.heap.size 3 1 v l.length (z.o.map (Value.int .i64))) (hb : Below w.heap.size w w') : SzOut l sign order N D w (.returned (.tuple #[v, .int .i64 0])) w' := by
  obtain ⟨h1, h2⟩ := szE_some hr ha hg hz
  unfold SzOut
  rw [if_pos h1, h2]
  exact ⟨⟨v, rfl, hown⟩, hb⟩
theorem SzOut.stop {l : List G} {sign order N D E : Int} {w w' : World} (hr : rowE l = 0) (ha : argOk sign order = true) (hg : rngOk sign N D = true) (hz : run sign order N D l = none) (hE : E = 20)
    (hb : Below w.heap.size w w') : SzOut l sign order N D w (.returned (.tuple #[.slice none 0 0, .int .i64 E])) w' := by
  have h1 := szE_none hr ha hg hz
  unfold SzOut
  rw [if_neg (by rw [h1]; omega), h1, hE]
  exact ⟨rfl, hb⟩
theorem own_base {w : World} {base base' : Nat} {e : TypeId} {size n : Nat} {v : Value} {xs : List Value} (h : w.ownsRow base e size v n xs) (hb : base' ≤ base) : w.ownsRow base' e size v n xs := by
  refine ⟨h.1, ?_⟩
  rcases h.2 with h' | ⟨g, cap, cur, hv, hg, hr⟩
  · exact .inl h'
  · exact .inr ⟨g, cap, cur, hv, by omega, hr⟩

/-- What the loop keeps of memory. -/
structure MI (N D : Int) (w : World) (b0 : Nat) (S L : Int) (v : Value) (k : Nat) (o : List Int) (wr : World) : Prop where
  own : wr.ownsRow (b0 + 2) 3 1 v k (o.map (Value.int .i64))
  hN : Blk wr w.heap.size 3 #[.int .i64 N]
  hD : Blk wr (w.heap.size + 1) 3 #[.int .i64 D]
  hS : Blk wr b0 3 #[.int .i64 S]
  hL : Blk wr (b0 + 1) 3 #[.int .i64 L]
  bel : Below w.heap.size w wr
  size : b0 + 2 ≤ wr.heap.size
  far : w.heap.size + 2 ≤ b0

section
variable {N D S L : Int} {w wr w1 : World} {b0 k : Nat} {v v' : Value} {o : List Int}
theorem MI.alloc (h : MI N D w b0 S L v k o wr) (X : Obj) : MI N D w b0 S L v k o (wr.alloc X) :=
  ⟨h.own.alloc X, h.hN.alloc X, h.hD.alloc X, h.hS.alloc X, h.hL.alloc X, h.bel.alloc h.bel.size X, by have := h.size; simp; omega, h.far⟩
theorem MI.stores (h : MI N D w b0 S L v k o wr) (S' L' : Int) (n : Nat) :
    MI N D w b0 S' L' v k o (((wr.setCell ⟨b0, 0, none⟩ (.int .i64 S')).setCell ⟨b0 + 1, 0, none⟩ (.int .i64 L')).drewN n) := by
  have hf := h.far
  refine ⟨?_, ?_, ?_, ?_, ?_, ?_, ?_, hf⟩
  · exact ownsRow_setCell_below (ownsRow_setCell_below h.own (a := ⟨b0, 0, none⟩) (by simp) _) (a := ⟨b0 + 1, 0, none⟩) (by simp) _
  · exact (h.hN.far (p := ⟨b0, 0, none⟩) (by simp; omega) _).far (p := ⟨b0 + 1, 0, none⟩) (by simp; omega) _
  · exact (h.hD.far (p := ⟨b0, 0, none⟩) (by simp; omega) _).far (p := ⟨b0 + 1, 0, none⟩) (by simp; omega) _
  · exact (h.hS.set 0 _).far (p := ⟨b0 + 1, 0, none⟩) (by simp) _
  · exact (h.hL.far (p := ⟨b0, 0, none⟩) (by simp) _).set 0 _
  · exact below_drewN ((h.bel.setCell (p := ⟨b0, 0, none⟩) (by simp; omega) _).setCell (p := ⟨b0 + 1, 0, none⟩) (by simp; omega) _) n
  · have := h.size; simpa [World.setCell, World.drewN] using this
theorem MI.append (h : MI N D w b0 S L v k o wr) (x : Int) (hown : w1.ownsRow (b0 + 2) 3 1 v' (k + 1) (o.map (Value.int .i64) ++ [.int .i64 x])) (hg : wr.grownBy w1 v.ownBlock) :
    MI N D w b0 S L v' (k + 1) (o ++ [x]) w1 := by
  have hf := h.far
  have hne : ∀ g, g < b0 + 2 → some g ≠ v.ownBlock := fun g hg' he => by
    have := (h.own.lt g he.symm).1
    omega
  refine ⟨by simpa using hown, h.hN.grown hg (hne _ (by omega)), h.hD.grown hg (hne _ (by omega)), h.hS.grown hg (hne _ (by omega)), h.hL.grown hg (hne _ (by omega)), ?_, ?_, hf⟩
  · exact h.bel.grown hg h.bel.size (fun g he => by have := (h.own.lt g he).1; omega)
  · have := h.size; have := hg.size; omega
end

theorem more_mi (s S N D L : Int) (w wr : World) (b0 k : Nat) (v : Value) (o : List Int) (h : MI N D w b0 S L v k o wr)
    (h0 : -4611686018427387904 ≤ S + s) (h1 : S + s ≤ 4611686018427387904) (l0 : -70368744177664 ≤ L) (l1 : L ≤ 70368744177664) :
    Calls Tryz.prog 168 #[.int .i64 s, .pointer (some ⟨b0, 0, none⟩), .pointer (some ⟨w.heap.size, 0, none⟩), .pointer (some ⟨w.heap.size + 1, 0, none⟩), .pointer (some ⟨b0 + 1, 0, none⟩)] wr fun e w' =>
      e = .returned (.tuple #[.int .i64 (psV (S + s) N D - L), .int .i64 (psE (S + s) N D)]) ∧ MI N D w b0 (S + s) (psV (S + s) N D) v k o w' := by
  have hf := h.far
  refine (more_any s S N D L b0 w.heap.size (w.heap.size + 1) (b0 + 1) wr h.hS h.hN h.hD h.hL (by omega) (by omega) (by omega) h0 h1 l0 l1).mono ?_
  rintro e w' ⟨rfl, n, rfl⟩
  exact ⟨rfl, h.stores _ _ n⟩

/-- What the loop keeps. -/
def Inv (l : List G) (sign order N D : Int) (w : World) (b0 k : Nat) (S L : Int) (o : List Int) (v : Value) (wr : World) : Prop :=
  run sign order N D (l.take k) = some ⟨S, L, o⟩ ∧ Sz.In ⟨S, L, o⟩ k ∧ MI N D w b0 S L v k o wr

set_option maxRecDepth 100000 in
set_option maxHeartbeats 1000000 in
theorem sizes_stretch (A : Option Addr) (l : List G) (c : Nat) (order N D : Int) (w : World) (hrow : Row w A l) (hr : rowE l = 0) (ha : argOk 1 order = true) (hg : rngOk 1 N D = true) :
    Calls Tryz.prog 102 #[.slice A l.length c, .int .i64 1, .int .i64 order, .int .i64 N, .int .i64 D] w (SzOut l 1 order N D w) := by
  obtain ⟨hlen, hall⟩ := rowE_zero hr
  obtain ⟨-, -, a2, a3⟩ := argOk_iff.1 ha
  obtain ⟨⟨n0, n1⟩, ⟨d0, d1⟩, hsD⟩ := rngOk_iff.1 hg
  have hnN := nearB_yes n0 n1
  have hnD := nearB_yes d0 d1
  have hD1 : 1 ≤ D := by omega
  have hb2 : Below w.heap.size w ((w.alloc (.cells #[.int .i64 N] 3)).alloc (.cells #[.int .i64 D] 3)) := ((Below.refl _ _).alloc (Nat.le_refl _) _).alloc (by simp) _
  have hcall := row_any A l c _ (by unfold maxLen; omega) (hrow.up hb2)
  have HC := Lib.hid hcall
  have ht : (rowE l != 0) = false := by rw [hr]; rfl
  have HALL := Lib.hid hall
  have HR := Lib.hid hr
  have HA := Lib.hid ha
  have HG := Lib.hid hg
  have HROW := Lib.hid hrow
  generalize hn : l.length = n at *
  have HN := Lib.hid hn
  clear hcall hall hr ha hg hrow hn hsD
  go_enter Tryz.func102, Tryz.ntmps102
  go_upto_region 6 with (go_at_call 167; refine HC.out.mono ?_; rintro e w3 ⟨rfl, hb3⟩)
  have cN : w3.cell? ⟨w.heap.size, 0, none⟩ = some (.int .i64 N) := (hb3.cell (p := ⟨w.heap.size, 0, none⟩) (by simp; omega)).trans (by simp [World.cell?_alloc_lt, go_sem])
  have cD : w3.cell? ⟨w.heap.size + 1, 0, none⟩ = some (.int .i64 D) := (hb3.cell (p := ⟨w.heap.size + 1, 0, none⟩) (by simp)).trans (by simp [go_sem])
  have hz3 : w.heap.size + 2 ≤ w3.heap.size := by have := hb3.size; simp at this; omega
  go_wp2_with (go_at_call 150; refine (near_any _ _).mono ?_; rintro e w' ⟨rfl, rfl⟩)
  have hbel3 := hb2.trans (hb3.mono (B' := w.heap.size) (by simp; omega))
  have hN3 : Blk w3 w.heap.size 3 #[.int .i64 N] := ((Blk.new w 3 #[.int .i64 N]).alloc _).below hb3 (by simp; omega)
  have hD3 : Blk w3 (w.heap.size + 1) 3 #[.int .i64 D] := by
    have := (Blk.new (w.alloc (.cells #[.int .i64 N] 3)) 3 #[.int .i64 D]).below hb3 (by simp)
    simpa using this
  clear hb2 hb3 cN cD
  go_loopw [16, 62] (fun v i wr => ∃ (k : Nat) (S L : Int) (o : List Int), k ≤ n ∧ i = .int .i64 k ∧ Inv l 1 order N D w w3.heap.size k S L o v wr) (fun _ i _ => n - (intOf i).toNat)
  case atStart =>
    refine ⟨0, 0, 0, [], Nat.zero_le _, rfl, run_nil _ _ _ _, Sz.In.zero, ?_⟩
    exact ⟨World.ownsRow_nil _ _ _ _, ((hN3.alloc _).alloc _), ((hD3.alloc _).alloc _), (Blk.new _ _ _).alloc _, by simpa using Blk.new (w3.alloc (.cells #[.int .i64 0] 3)) 3 #[.int .i64 0], (hbel3.alloc hbel3.size _).alloc (by have := hbel3.size; simp; omega) _, by simp, hz3⟩
  case round =>
    obtain ⟨k, S, L, o, hk, rfl, hrun, hin, hM⟩ := hrel
    obtain ⟨b0, hb0⟩ : ∃ b0, w3.heap.size = b0 := ⟨_, rfl⟩
    rw [hb0] at hM ⊢
    have HRUN := Lib.hid hrun
    have HIN := Lib.hid hin
    have HM := Lib.hid hM
    clear hrun hin
    by_cases hlt : k < n
    · obtain ⟨g, hgk⟩ : ∃ g, l[k]? = some g := ⟨_, List.getElem?_eq_getElem (by rw [HN.out]; exact hlt)⟩
      have hgok : g.ok = true := List.all_eq_true.1 HALL.out g (List.mem_of_getElem? hgk)
      obtain ⟨⟨m0, m1⟩, ⟨s0, s1⟩, ⟨t0, t1⟩, -, -⟩ := glueB_iff.1 hgok
      obtain ⟨b, off, rfl, c0, c1, c2, c3, c4⟩ := HROW.out.cells hM.bel hgk
      obtain ⟨S0, S1, ⟨L0, L1⟩, -⟩ := HIN.out
      simp only at S0 S1 L0 L1
      have HGK := Lib.hid hgk
      have HGO := Lib.hid hgok
      have hstep := run_snoc (sign := 1) (order := order) (N := N) (D := D) hgk HRUN.out
      have HST := Lib.hid hstep
      clear hM hgk hgok hstep
      by_cases hao : g.a = order
      · have hao' : (g.a == order) = true := by simp [hao]
        have HAO := Lib.hid hao
        have hpv := psV_bd (S + g.s) N D
        have p0 := hpv.1
        have p1 := hpv.2
        by_cases hE : psE (S + g.s) N D = 0
        · have hE' : (psE (S + g.s) N D != 0) = false := by rw [hE]; rfl
          have HE := Lib.hid hE
          clear hao hE hpv
          go_wp2_with (first
            | (go_at_call 168; refine (more_mi _ _ _ _ _ _ _ _ _ _ _ (HM.out.alloc _) (by omega) (by omega) L0 L1).mono ?_; rintro e w5 ⟨rfl, hM5⟩)
            | (at_builtin; refine wpList_push rfl _ _ 26 rfl (b0 + 2) 3 _ 1 8 Tryz.underlying26 info_int rfl (by decide) (by decide) _ _ _ rfl hM5.own hM5.size _ rfl rfl rfl (by simp) (by omega) ?_; intro v6 w6 hown6 hg6 hnn6))
          have hM6 := (hM5.alloc _).append _ hown6 hg6
          have hst := HST.out
          unfold step at hst
          rw [if_pos ⟨rfl, HAO.out⟩, if_pos HE.out] at hst
          have HST6 := Lib.hid hst
          have HM6 := Lib.hid hM6
          clear hM5 hM6 hst hown6 hg6 c0 c1 c2 c3 c4
          go_wp2_with fail
          go_roundw
          case rel => exact ⟨k + 1, _, _, _, by omega, by go_num, HST6.out, step_in HIN.out HGO.out (HST.out.symm.trans HST6.out), HM6.out⟩
          case measure => simp [intOf]; omega
        · have hE' : (psE (S + g.s) N D != 0) = true := by simp [hE]
          have HE := Lib.hid hE
          clear hao hE hpv
          go_wp2_with (go_at_call 168; refine (more_mi _ _ _ _ _ _ _ _ _ _ _ (HM.out.alloc _) (by omega) (by omega) L0 L1).mono ?_; rintro e w5 ⟨rfl, hM5⟩)
          go_ret2
          have hst : step 1 order N D ⟨S, L, o⟩ g = none := by
            unfold step
            rw [if_pos ⟨rfl, HAO.out⟩, if_neg HE.out]
          have hok : shOk (S + g.s) N D = true := share_ok (k := k + 1) HG.out (by omega) (by omega) (by push_cast; omega) (by push_cast; omega)
          exact SzOut.stop HR.out HA.out HG.out (run_stop HGK.out HRUN.out hst) ((psE_in hok).resolve_left HE.out) hM5.bel
      · have hao' : (g.a == order) = false := by simp [hao]
        have HAO := Lib.hid hao
        clear hao
        have hM5 := fun X => HM.out.alloc X
        have HM5 := Lib.hid hM5
        clear hM5
        go_wp2_with (at_builtin; refine wpList_push rfl _ _ 26 rfl (b0 + 2) 3 _ 1 8 Tryz.underlying26 info_int rfl (by decide) (by decide) _ _ _ rfl (HM5.out _).own (HM5.out _).size _ rfl rfl rfl (by simp) (by omega) ?_; intro v6 w6 hown6 hg6 hnn6)
        have hM6 := ((HM5.out _).alloc _).append _ hown6 hg6
        have hst := HST.out
        unfold step at hst
        rw [if_neg (fun h => HAO.out h.2), if_neg (by omega)] at hst
        have HST6 := Lib.hid hst
        have HM6 := Lib.hid hM6
        clear hM6 hst hown6 hg6 c0 c1 c2 c3 c4
        go_wp2_with fail
        go_roundw
        case rel => exact ⟨k + 1, _, _, _, by omega, by go_num, HST6.out, step_in HIN.out HGO.out (HST.out.symm.trans HST6.out), HM6.out⟩
        case measure => simp [intOf]; omega
    · obtain rfl : k = n := by omega
      have hrunl : run 1 order N D l = some ⟨S, L, o⟩ := by
        have := HRUN.out
        rwa [List.take_of_length_le (by rw [HN.out]; exact Nat.le_refl _)] at this
      have HRL := Lib.hid hrunl
      clear hM hrunl
      go_wp2_with fail
      go_ret2
      exact SzOut.ok HR.out HA.out HG.out HRL.out (by rw [HN.out]; exact own_base HM.out.own (by omega)) HM.out.bel

set_option maxRecDepth 100000 in
set_option maxHeartbeats 1000000 in
theorem sizes_shrink (A : Option Addr) (l : List G) (c : Nat) (order N D : Int) (w : World) (hrow : Row w A l) (hr : rowE l = 0) (ha : argOk 2 order = true) (hg : rngOk 2 N D = true) :
    Calls Tryz.prog 102 #[.slice A l.length c, .int .i64 2, .int .i64 order, .int .i64 N, .int .i64 D] w (SzOut l 2 order N D w) := by
  obtain ⟨hlen, hall⟩ := rowE_zero hr
  obtain ⟨-, -, a2, a3⟩ := argOk_iff.1 ha
  obtain ⟨⟨n0, n1⟩, ⟨d0, d1⟩, hsD⟩ := rngOk_iff.1 hg
  have hnN := nearB_yes n0 n1
  have hnD := nearB_yes d0 d1
  have hD1 : 1 ≤ D := by omega
  have hb2 : Below w.heap.size w ((w.alloc (.cells #[.int .i64 N] 3)).alloc (.cells #[.int .i64 D] 3)) := ((Below.refl _ _).alloc (Nat.le_refl _) _).alloc (by simp) _
  have hcall := row_any A l c _ (by unfold maxLen; omega) (hrow.up hb2)
  have HC := Lib.hid hcall
  have ht : (rowE l != 0) = false := by rw [hr]; rfl
  have HALL := Lib.hid hall
  have HR := Lib.hid hr
  have HA := Lib.hid ha
  have HG := Lib.hid hg
  have HROW := Lib.hid hrow
  generalize hn : l.length = n at *
  have HN := Lib.hid hn
  clear hcall hall hr ha hg hrow hn hsD
  go_enter Tryz.func102, Tryz.ntmps102
  go_upto_region 6 with (go_at_call 167; refine HC.out.mono ?_; rintro e w3 ⟨rfl, hb3⟩)
  have cN : w3.cell? ⟨w.heap.size, 0, none⟩ = some (.int .i64 N) := (hb3.cell (p := ⟨w.heap.size, 0, none⟩) (by simp; omega)).trans (by simp [World.cell?_alloc_lt, go_sem])
  have cD : w3.cell? ⟨w.heap.size + 1, 0, none⟩ = some (.int .i64 D) := (hb3.cell (p := ⟨w.heap.size + 1, 0, none⟩) (by simp)).trans (by simp [go_sem])
  have hz3 : w.heap.size + 2 ≤ w3.heap.size := by have := hb3.size; simp at this; omega
  go_wp2_with (go_at_call 150; refine (near_any _ _).mono ?_; rintro e w' ⟨rfl, rfl⟩)
  have hbel3 := hb2.trans (hb3.mono (B' := w.heap.size) (by simp; omega))
  have hN3 : Blk w3 w.heap.size 3 #[.int .i64 N] := ((Blk.new w 3 #[.int .i64 N]).alloc _).below hb3 (by simp; omega)
  have hD3 : Blk w3 (w.heap.size + 1) 3 #[.int .i64 D] := by
    have := (Blk.new (w.alloc (.cells #[.int .i64 N] 3)) 3 #[.int .i64 D]).below hb3 (by simp)
    simpa using this
  clear hb2 hb3 cN cD
  go_loopw [16, 62] (fun v i wr => ∃ (k : Nat) (S L : Int) (o : List Int), k ≤ n ∧ i = .int .i64 k ∧ Inv l 2 order N D w w3.heap.size k S L o v wr) (fun _ i _ => n - (intOf i).toNat)
  case atStart =>
    refine ⟨0, 0, 0, [], Nat.zero_le _, rfl, run_nil _ _ _ _, Sz.In.zero, ?_⟩
    exact ⟨World.ownsRow_nil _ _ _ _, ((hN3.alloc _).alloc _), ((hD3.alloc _).alloc _), (Blk.new _ _ _).alloc _, by simpa using Blk.new (w3.alloc (.cells #[.int .i64 0] 3)) 3 #[.int .i64 0], (hbel3.alloc hbel3.size _).alloc (by have := hbel3.size; simp; omega) _, by simp, hz3⟩
  case round =>
    obtain ⟨k, S, L, o, hk, rfl, hrun, hin, hM⟩ := hrel
    obtain ⟨b0, hb0⟩ : ∃ b0, w3.heap.size = b0 := ⟨_, rfl⟩
    rw [hb0] at hM ⊢
    have HRUN := Lib.hid hrun
    have HIN := Lib.hid hin
    have HM := Lib.hid hM
    clear hrun hin
    by_cases hlt : k < n
    · obtain ⟨g, hgk⟩ : ∃ g, l[k]? = some g := ⟨_, List.getElem?_eq_getElem (by rw [HN.out]; exact hlt)⟩
      have hgok : g.ok = true := List.all_eq_true.1 HALL.out g (List.mem_of_getElem? hgk)
      obtain ⟨⟨m0, m1⟩, ⟨s0, s1⟩, ⟨t0, t1⟩, -, -⟩ := glueB_iff.1 hgok
      obtain ⟨b, off, rfl, c0, c1, c2, c3, c4⟩ := HROW.out.cells hM.bel hgk
      obtain ⟨S0, S1, ⟨L0, L1⟩, -⟩ := HIN.out
      simp only at S0 S1 L0 L1
      have HGK := Lib.hid hgk
      have HGO := Lib.hid hgok
      have hstep := run_snoc (sign := 2) (order := order) (N := N) (D := D) hgk HRUN.out
      have HST := Lib.hid hstep
      clear hM hgk hgok hstep
      by_cases hao : g.b = order
      · have hao' : (g.b == order) = true := by simp [hao]
        have HAO := Lib.hid hao
        have hpv := psV_bd (S + g.h) N D
        have p0 := hpv.1
        have p1 := hpv.2
        by_cases hE : psE (S + g.h) N D = 0
        · have hE' : (psE (S + g.h) N D != 0) = false := by rw [hE]; rfl
          have HE := Lib.hid hE
          clear hao hE hpv
          go_wp2_with (first
            | (go_at_call 168; refine (more_mi _ _ _ _ _ _ _ _ _ _ _ (HM.out.alloc _) (by omega) (by omega) L0 L1).mono ?_; rintro e w5 ⟨rfl, hM5⟩)
            | (at_builtin; refine wpList_push rfl _ _ 26 rfl (b0 + 2) 3 _ 1 8 Tryz.underlying26 info_int rfl (by decide) (by decide) _ _ _ rfl hM5.own hM5.size _ rfl rfl rfl (by simp) (by omega) ?_; intro v6 w6 hown6 hg6 hnn6))
          have hM6 := (hM5.alloc _).append _ hown6 hg6
          have hst := HST.out
          unfold step at hst
          rw [if_neg (by omega), if_pos ⟨rfl, HAO.out⟩, if_pos HE.out] at hst
          have HST6 := Lib.hid hst
          have HM6 := Lib.hid hM6
          clear hM5 hM6 hst hown6 hg6 c0 c1 c2 c3 c4
          go_wp2_with fail
          go_roundw
          case rel => exact ⟨k + 1, _, _, _, by omega, by go_num, HST6.out, step_in HIN.out HGO.out (HST.out.symm.trans HST6.out), HM6.out⟩
          case measure => simp [intOf]; omega
        · have hE' : (psE (S + g.h) N D != 0) = true := by simp [hE]
          have HE := Lib.hid hE
          clear hao hE hpv
          go_wp2_with (go_at_call 168; refine (more_mi _ _ _ _ _ _ _ _ _ _ _ (HM.out.alloc _) (by omega) (by omega) L0 L1).mono ?_; rintro e w5 ⟨rfl, hM5⟩)
          go_ret2
          have hst : step 2 order N D ⟨S, L, o⟩ g = none := by
            unfold step
            rw [if_neg (by omega), if_pos ⟨rfl, HAO.out⟩, if_neg HE.out]
          have hok : shOk (S + g.h) N D = true := share_ok (k := k + 1) HG.out (by omega) (by omega) (by push_cast; omega) (by push_cast; omega)
          exact SzOut.stop HR.out HA.out HG.out (run_stop HGK.out HRUN.out hst) ((psE_in hok).resolve_left HE.out) hM5.bel
      · have hao' : (g.b == order) = false := by simp [hao]
        have HAO := Lib.hid hao
        clear hao
        have hM5 := fun X => HM.out.alloc X
        have HM5 := Lib.hid hM5
        clear hM5
        go_wp2_with (at_builtin; refine wpList_push rfl _ _ 26 rfl (b0 + 2) 3 _ 1 8 Tryz.underlying26 info_int rfl (by decide) (by decide) _ _ _ rfl (HM5.out _).own (HM5.out _).size _ rfl rfl rfl (by simp) (by omega) ?_; intro v6 w6 hown6 hg6 hnn6)
        have hM6 := ((HM5.out _).alloc _).append _ hown6 hg6
        have hst := HST.out
        unfold step at hst
        rw [if_neg (by omega), if_neg (fun h => HAO.out h.2)] at hst
        have HST6 := Lib.hid hst
        have HM6 := Lib.hid hM6
        clear hM6 hst hown6 hg6 c0 c1 c2 c3 c4
        go_wp2_with fail
        go_roundw
        case rel => exact ⟨k + 1, _, _, _, by omega, by go_num, HST6.out, step_in HIN.out HGO.out (HST.out.symm.trans HST6.out), HM6.out⟩
        case measure => simp [intOf]; omega
    · obtain rfl : k = n := by omega
      have hrunl : run 2 order N D l = some ⟨S, L, o⟩ := by
        have := HRUN.out
        rwa [List.take_of_length_le (by rw [HN.out]; exact Nat.le_refl _)] at this
      have HRL := Lib.hid hrunl
      clear hM hrunl
      go_wp2_with fail
      go_ret2
      exact SzOut.ok HR.out HA.out HG.out HRL.out (by rw [HN.out]; exact own_base HM.out.own (by omega)) HM.out.bel

set_option maxRecDepth 100000 in
set_option maxHeartbeats 1000000 in
theorem sizes_still (A : Option Addr) (l : List G) (c : Nat) (order N D : Int) (w : World) (hrow : Row w A l) (hr : rowE l = 0) (ha : argOk 0 order = true) (hg : rngOk 0 N D = true) :
    Calls Tryz.prog 102 #[.slice A l.length c, .int .i64 0, .int .i64 order, .int .i64 N, .int .i64 D] w (SzOut l 0 order N D w) := by
  obtain ⟨hlen, hall⟩ := rowE_zero hr
  obtain ⟨-, -, a2, a3⟩ := argOk_iff.1 ha
  obtain ⟨⟨n0, n1⟩, ⟨d0, d1⟩, hsD⟩ := rngOk_iff.1 hg
  have hnN := nearB_yes n0 n1
  have hnD := nearB_yes d0 d1
  have hb2 : Below w.heap.size w ((w.alloc (.cells #[.int .i64 N] 3)).alloc (.cells #[.int .i64 D] 3)) := ((Below.refl _ _).alloc (Nat.le_refl _) _).alloc (by simp) _
  have hcall := row_any A l c _ (by unfold maxLen; omega) (hrow.up hb2)
  have HC := Lib.hid hcall
  have ht : (rowE l != 0) = false := by rw [hr]; rfl
  have HALL := Lib.hid hall
  have HR := Lib.hid hr
  have HA := Lib.hid ha
  have HG := Lib.hid hg
  have HROW := Lib.hid hrow
  generalize hn : l.length = n at *
  have HN := Lib.hid hn
  clear hcall hall hr ha hg hrow hn hsD
  go_enter Tryz.func102, Tryz.ntmps102
  go_upto_region 6 with (go_at_call 167; refine HC.out.mono ?_; rintro e w3 ⟨rfl, hb3⟩)
  have cN : w3.cell? ⟨w.heap.size, 0, none⟩ = some (.int .i64 N) := (hb3.cell (p := ⟨w.heap.size, 0, none⟩) (by simp; omega)).trans (by simp [World.cell?_alloc_lt, go_sem])
  have cD : w3.cell? ⟨w.heap.size + 1, 0, none⟩ = some (.int .i64 D) := (hb3.cell (p := ⟨w.heap.size + 1, 0, none⟩) (by simp)).trans (by simp [go_sem])
  have hz3 : w.heap.size + 2 ≤ w3.heap.size := by have := hb3.size; simp at this; omega
  go_wp2_with (go_at_call 150; refine (near_any _ _).mono ?_; rintro e w' ⟨rfl, rfl⟩)
  have hbel3 := hb2.trans (hb3.mono (B' := w.heap.size) (by simp; omega))
  have hN3 : Blk w3 w.heap.size 3 #[.int .i64 N] := ((Blk.new w 3 #[.int .i64 N]).alloc _).below hb3 (by simp; omega)
  have hD3 : Blk w3 (w.heap.size + 1) 3 #[.int .i64 D] := by
    have := (Blk.new (w.alloc (.cells #[.int .i64 N] 3)) 3 #[.int .i64 D]).below hb3 (by simp)
    simpa using this
  clear hb2 hb3 cN cD
  go_loopw [16, 62] (fun v i wr => ∃ (k : Nat) (S L : Int) (o : List Int), k ≤ n ∧ i = .int .i64 k ∧ Inv l 0 order N D w w3.heap.size k S L o v wr) (fun _ i _ => n - (intOf i).toNat)
  case atStart =>
    refine ⟨0, 0, 0, [], Nat.zero_le _, rfl, run_nil _ _ _ _, Sz.In.zero, ?_⟩
    exact ⟨World.ownsRow_nil _ _ _ _, ((hN3.alloc _).alloc _), ((hD3.alloc _).alloc _), (Blk.new _ _ _).alloc _, by simpa using Blk.new (w3.alloc (.cells #[.int .i64 0] 3)) 3 #[.int .i64 0], (hbel3.alloc hbel3.size _).alloc (by have := hbel3.size; simp; omega) _, by simp, hz3⟩
  case round =>
    obtain ⟨k, S, L, o, hk, rfl, hrun, hin, hM⟩ := hrel
    obtain ⟨b0, hb0⟩ : ∃ b0, w3.heap.size = b0 := ⟨_, rfl⟩
    rw [hb0] at hM ⊢
    have HRUN := Lib.hid hrun
    have HIN := Lib.hid hin
    have HM := Lib.hid hM
    clear hrun hin
    by_cases hlt : k < n
    · obtain ⟨g, hgk⟩ : ∃ g, l[k]? = some g := ⟨_, List.getElem?_eq_getElem (by rw [HN.out]; exact hlt)⟩
      have hgok : g.ok = true := List.all_eq_true.1 HALL.out g (List.mem_of_getElem? hgk)
      obtain ⟨⟨m0, m1⟩, ⟨s0, s1⟩, ⟨t0, t1⟩, -, -⟩ := glueB_iff.1 hgok
      obtain ⟨b, off, rfl, c0, c1, c2, c3, c4⟩ := HROW.out.cells hM.bel hgk
      obtain ⟨S0, S1, ⟨L0, L1⟩, -⟩ := HIN.out
      simp only at S0 S1 L0 L1
      have HGK := Lib.hid hgk
      have HGO := Lib.hid hgok
      have hstep := run_snoc (sign := 0) (order := order) (N := N) (D := D) hgk HRUN.out
      have HST := Lib.hid hstep
      clear hM hgk hgok hstep
      have hM5 := fun X => HM.out.alloc X
      have HM5 := Lib.hid hM5
      clear hM5
      go_wp2_with (at_builtin; refine wpList_push rfl _ _ 26 rfl (b0 + 2) 3 _ 1 8 Tryz.underlying26 info_int rfl (by decide) (by decide) _ _ _ rfl (HM5.out _).own (HM5.out _).size _ rfl rfl rfl (by simp) (by omega) ?_; intro v6 w6 hown6 hg6 hnn6)
      have hM6 := ((HM5.out _).alloc _).append _ hown6 hg6
      have hst := HST.out
      unfold step at hst
      rw [if_neg (by omega), if_neg (by omega)] at hst
      have HST6 := Lib.hid hst
      have HM6 := Lib.hid hM6
      clear hM6 hst hown6 hg6 c0 c1 c2 c3 c4
      go_wp2_with fail
      go_roundw
      case rel => exact ⟨k + 1, _, _, _, by omega, by go_num, HST6.out, step_in HIN.out HGO.out (HST.out.symm.trans HST6.out), HM6.out⟩
      case measure => simp [intOf]; omega
    · obtain rfl : k = n := by omega
      have hrunl : run 0 order N D l = some ⟨S, L, o⟩ := by
        have := HRUN.out
        rwa [List.take_of_length_le (by rw [HN.out]; exact Nat.le_refl _)] at this
      have HRL := Lib.hid hrunl
      clear hM hrunl
      go_wp2_with fail
      go_ret2
      exact SzOut.ok HR.out HA.out HG.out HRL.out (by rw [HN.out]; exact own_base HM.out.own (by omega)) HM.out.bel

end Go.Proofs.YtoboecenlangmaaGreat.Gl
end
section
namespace Go.Proofs.YtoboecenlangmaaGreat.Gl
open Go.ChangeShapes Go.WideShapes Go.ChangeAt Go.RowKit
open Me

theorem sizes_any (A : Option Addr) (l : List G) (c : Nat) (sign order N D : Int) (w : World) (h63 : l.length ≤ maxLen) (hrow : Row w A l) :
    Calls Tryz.prog 102 #[.slice A l.length c, .int .i64 sign, .int .i64 order, .int .i64 N, .int .i64 D] w (SzOut l sign order N D w) := by
  by_cases hr : rowE l = 0
  · cases ha : argOk sign order
    · refine (sizes_bad A l c sign order N D w h63 hrow (.inr (.inl ha))).mono fun e w' h => ?_
      unfold SzOut
      rw [if_neg (by rw [szE_arg hr ha]; omega)]
      exact h
    · cases hg : rngOk sign N D
      · refine (sizes_bad A l c sign order N D w h63 hrow (.inr (.inr hg))).mono fun e w' h => ?_
        unfold SzOut
        rw [if_neg (by rw [szE_rng hr ha hg]; omega)]
        exact h
      · obtain ⟨a0, a1, -, -⟩ := argOk_iff.1 ha
        rcases (show sign = 0 ∨ sign = 1 ∨ sign = 2 by omega) with rfl | rfl | rfl
        · exact sizes_still A l c order N D w hrow hr ha hg
        · exact sizes_stretch A l c order N D w hrow hr ha hg
        · exact sizes_shrink A l c order N D w hrow hr ha hg
  · refine (sizes_bad A l c sign order N D w h63 hrow (.inl hr)).mono fun e w' h => ?_
    unfold SzOut
    rw [if_neg (by rw [szE_row hr]; exact hr)]
    exact h
end Go.Proofs.YtoboecenlangmaaGreat.Gl
end
section
namespace Go.Proofs.YtoboecenlangmaaGreat.Pk
open Go.ChangeShapes Go.WideShapes Go.ChangeAt Go.RowKit
open Me Np No
set_option linter.unusedVariables false
set_option linter.unusedSimpArgs false

theorem info_int : (Tryz.prog.info? 3).map (fun i => (i.zero, i.size, i.bytes)) = some (some (.int .i64 0), 1, 8) := by kernel_rfl
theorem info_glue : (Tryz.prog.info? 96).map (fun i => (i.zero, i.size, i.bytes)) = some (some (.agg #[.int .i64 0, .int .i64 0, .int .i64 0, .int .i64 0, .int .i64 0]), 5, 40) := by kernel_rfl
/-- What Places answers. -/
def PlOut (P : List Int) (E : Int) (w : World) (e : Ending) (w' : World) : Prop := ∃ v, e = .returned (.tuple #[v, .int .i64 E]) ∧ w'.ownsRow w.heap.size 3 1 v P.length (P.map (Value.int .i64)) ∧ Below w.heap.size w w'
theorem PlOut.no {w w' : World} (hb : Below w.heap.size w w') (E : Int) : PlOut [] E w (.returned (.tuple #[.slice none 0 0, .int .i64 E])) w' := ⟨_, rfl, World.ownsRow_nil _ _ _ _, hb⟩
/-- What the second loop of Places holds in memory: how far it has come, the places so far. -/
structure MP (W : World) (gx : Nat) (x : Int) (v : Value) (o : List Int) (wr : World) : Prop where
  blk : Blk wr gx 3 #[.int .i64 x]
  own : wr.ownsRow (gx + 1) 3 1 v o.length (o.map (Value.int .i64))
  low : Below W.heap.size W wr
  gl : W.heap.size ≤ gx
theorem MP.below {W : World} {gx : Nat} {x : Int} {v : Value} {o : List Int} {wr w' : World} (h : MP W gx x v o wr) (hb : Below wr.heap.size wr w') : MP W gx x v o w' := ⟨h.blk.below hb h.blk.lt, own_below h.own hb, andThen h.low hb, h.gl⟩
theorem MP.push {W : World} {gx : Nat} {x z : Int} {v v' : Value} {o : List Int} {wr w' : World} (h : MP W gx x v o wr) (ho : w'.ownsRow (gx + 1) 3 1 v' (o.length + 1) (o.map (Value.int .i64) ++ [.int .i64 z])) (hg : wr.grownBy w' v.ownBlock) : MP W gx x v' (o ++ [z]) w' :=
  ⟨h.blk.grown hg (by intro e; have := (h.own.lt gx e.symm).1; omega), by simpa using ho, below_grown (Nat.le_refl _) h.low hg (fun q hq => by have := (h.own.lt q hq).1; have := h.gl; omega), h.gl⟩
theorem MP.turn {W : World} {gx : Nat} {x y : Int} {v : Value} {o : List Int} {wr w' : World} (h : MP W gx x v o wr) (hb : Blk w' gx 3 #[.int .i64 y]) (hg : wr.grownBy w' (some gx)) : MP W gx y v o w' := by
  refine ⟨hb, h.own.kept hg ?_, below_grown (Nat.le_refl _) h.low hg (fun q hq => by injection hq with hq; have := h.gl; omega), h.gl⟩
  cases hv : v.ownBlock with
  | none => exact .inl rfl
  | some q =>
    refine .inr ?_
    intro e
    injection e with e
    have := (h.own.lt q hv).1
    omega
theorem grow_any (gx : Nat) (x z : Int) (w : World) (hb : Blk w gx 3 #[.int .i64 x]) (h0 : -2305843009213693952 ≤ x) (h1 : x ≤ 2305843009213693952) (h2 : -2305843009213693952 ≤ z) (h3 : z ≤ 2305843009213693952) :
    Calls Tryz.prog 103 #[.int .i64 z, .pointer (some ⟨gx, 0, none⟩)] w fun e w' => e = .returned (.tuple #[]) ∧ Blk w' gx 3 #[.int .i64 (x + z)] ∧ w.grownBy w' (some gx) := by
  have hc : w.cell? ⟨gx, 0, none⟩ = some (.int .i64 x) := Blk.cell hb 0
  have hf := Blk.free hb 0
  have HB := Lib.hid hb
  clear hb
  go_enter Tryz.func103, Tryz.ntmps103
  go_wp2_with fail
  go_returns
  exact ⟨rfl, Blk.set HB.out 0 (.int .i64 (x + z)), grown_set _ _ _ _⟩
/-- What Places comes to. -/
noncomputable def plcR (x : Nd) (l : List Nd) (f : Nat → Int) (xs : List Nat) : List Int × Int :=
  if Gl.szE (skF l xs []) x.sign x.order x.num x.den = 0 then ((plF l f xs ⟨0, Gl.szL (skF l xs []) x.sign x.order x.num x.den, []⟩).out, 0) else ([], Gl.szE (skF l xs []) x.sign x.order x.num x.den)
theorem places_no (A : Option Addr) (ns L : List Nd) (c : Nat) (a E : Int) (w : World) (hE : ¬ E = 0) (hI : Calls Tryz.prog 101 #[.slice A ns.length c, .int .i64 a] w fun e' w' => ∃ v, e' = .returned (.tuple #[v, .int .i64 E]) ∧ w'.ownsRow w.heap.size 101 19 v L.length (L.flatMap ncs) ∧ Below w.heap.size w w') :
    Calls Tryz.prog 55 #[.slice A ns.length c, .int .i64 a] w (PlOut [] E w) := by
  have e0 : (E != 0) = true := by simp [hE]
  have HI := Lib.hid hI
  clear hI
  generalize ns.length = len at *
  go_enter Tryz.func55, Tryz.ntmps55
  go_wp2_with fail
  refine HI.out.mono ?_
  rintro e w1 ⟨v, rfl, ho, hb1⟩
  clear ho
  go_wp2_with fail
  go_ret2
  exact PlOut.no hb1 _
set_option maxRecDepth 100000 in
theorem places_kind (A : Option Addr) (ns L : List Nd) (c k : Nat) (x : Nd) (w : World) (hcap : ns.length ≤ c) (hl : ns.length ≤ 2000) (hseg : Seg w w.heap.size A (ns.flatMap ncs)) (hx : ns[k]? = some x) (h4 : ¬ x.kind = 4) (h5 : ¬ x.kind = 5) (hI : Calls Tryz.prog 101 #[.slice A ns.length c, .int .i64 (k : Int)] w fun e' w' => ∃ v, e' = .returned (.tuple #[v, .int .i64 0]) ∧ w'.ownsRow w.heap.size 101 19 v L.length (L.flatMap ncs) ∧ Below w.heap.size w w') :
    Calls Tryz.prog 55 #[.slice A ns.length c, .int .i64 (k : Int)] w (PlOut [] 3 w) := by
  have e4 : (x.kind != 4) = true := by simp [h4]
  have e5 : (x.kind != 5) = true := by simp [h5]
  have HI := Lib.hid hI
  obtain ⟨b, off, rfl, hb, hnode⟩ := seg_node hseg hx
  have hkl : k < ns.length := (List.getElem?_eq_some_iff.1 hx).1
  clear hI hseg hx h4 h5
  generalize ns.length = len at *
  go_enter Tryz.func55, Tryz.ntmps55
  go_wp2_with fail
  refine HI.out.mono ?_
  rintro e w1 ⟨v, rfl, ho, hb1⟩
  have hnode := hnode.below hb1 hb
  clear ho
  go_wp2_with (first | (refine wpList_load_node rfl _ rfl _ _ rfl _ (by repeat (first | apply NodeAt.row | (apply Blk.new'; first | rfl | (simp; done)) | (apply Blk.node; apply Blk.new'; first | rfl | (simp; done)) | assumption | apply NodeAt.alloc)) ?_) | (refine wpList_alloc_node rfl rfl ?_) | (refine wpList_store_node rfl _ _ rfl _ _ _ rfl rfl _ (by repeat (first | (apply Blk.new'; first | rfl | (simp; done)) | assumption | apply Blk.alloc)) ?_))
  go_ret2
  exact PlOut.no (andAlloc hb1 _) _
end Go.Proofs.YtoboecenlangmaaGreat.Pk
end
section
namespace Go.Proofs.YtoboecenlangmaaGreat.Si
open Go.ChangeShapes Go.WideShapes Go.ChangeAt Go.RowKit
open Me
set_option linter.unusedVariables false
set_option linter.unusedSimpArgs false

theorem ret_b {a b : Bool} (h : a = b) : Ending.returned (.bool a) = .returned (.bool b) := by rw [h]
theorem get_some {α : Type} {l : List α} {k : Nat} (h : k < l.length) : ∃ x, l[k]? = some x := ⟨l[k], List.getElem?_eq_getElem h⟩
theorem seg_get {w : World} {B : Nat} {A : Option Addr} {xs : List Value} (h : Seg w B A xs) {k : Nat} {u : Value} (hk : xs[k]? = some u) : ∃ b off : Nat, A = some ⟨b, off, none⟩ ∧ b < B ∧ w.cell? ⟨b, off + k, none⟩ = some u := by
  obtain ⟨b, off, hA, hb, hc⟩ := h.open_ (by intro e; rw [e] at hk; simp at hk)
  exact ⟨b, off, hA, hb, hc k u hk⟩
set_option maxRecDepth 100000 in
theorem same_ints (A1 A2 : Option Addr) (l1 l2 : List Int) (c1 c2 : Nat) (w : World) (h1 : l1.length ≤ 2097152) (h2 : l2.length ≤ 2097152) (hs1 : Seg w w.heap.size A1 (l1.map (Value.int .i64))) (hs2 : Seg w w.heap.size A2 (l2.map (Value.int .i64))) :
    Calls Tryz.prog 11 #[.slice A1 l1.length c1, .slice A2 l2.length c2] w fun e w' => e = .returned (.bool (decide (l1 = l2))) ∧ Below w.heap.size w w' := by
  by_cases hl : (l1.length : Int) = l2.length
  · have hl' : l1.length = l2.length := by omega
    have HS := Lib.hid (And.intro hs1 hs2)
    have HL := Lib.hid hl'
    rw [← hl']
    clear hs1 hs2 hl hl'
    go_enter Tryz.func11, Tryz.ntmps11
    go_wp2_with fail
    go_loopw [5] (fun v5 wr => ∃ k nq : Nat, k ≤ l1.length ∧ v5 = .int .i64 (k : Int) ∧ l1.take k = l2.take k ∧ wr = w.drewN nq) (fun v5 _ => l1.length - (intOf v5).toNat)
    case atStart => exact ⟨0, 0, by omega, rfl, by simp, rfl⟩
    case round =>
      obtain ⟨k, nq, hk, rfl, heq, hwr⟩ := hrel
      have HWR := Lib.hid hwr
      have HEQ := Lib.hid heq
      by_cases hlt : k < l1.length
      · obtain ⟨x, hx⟩ := get_some hlt
        obtain ⟨y, hy⟩ := get_some (l := l2) (k := k) (by rw [← HL.out]; exact hlt)
        obtain ⟨b1, o1, rfl, hb1, hc1⟩ := seg_get HS.out.1 (k := k) (u := Value.int .i64 x) (by rw [List.getElem?_map, hx]; rfl)
        obtain ⟨b2, o2, rfl, hb2, hc2⟩ := seg_get HS.out.2 (k := k) (u := Value.int .i64 y) (by rw [List.getElem?_map, hy]; rfl)
        have hc1' : wr.cell? ⟨b1, o1 + k, none⟩ = some (.int .i64 x) := by rw [hwr]; exact hc1
        have hc2' : wr.cell? ⟨b2, o2 + k, none⟩ = some (.int .i64 y) := by rw [hwr]; exact hc2
        have HXY := Lib.hid (And.intro hx hy)
        have hlti : (k : Int) < (l1.length : Int) := by omega
        clear hc1 hc2 hwr heq hx hy
        by_cases hxy : x = y
        · subst hxy
          go_wp2_with fail
          go_quiet (fail)
          go_wp2_with fail
          go_roundw
          case rel =>
            refine ⟨k + 1, _, by omega, by go_num, ?_, by rw [HWR.out, World.drewN_drewN]⟩
            rw [List.take_add_one, List.take_add_one, HEQ.out, HXY.out.1, HXY.out.2]
          case measure => simp [intOf]; omega
        · have HN := Lib.hid hxy
          go_wp2_with fail
          go_quiet (fail)
          go_wp2_with fail
          go_ret
          refine ⟨?_, by rw [HWR.out, World.drewN_drewN]; exact below_drewN (Below.refl _ _) _⟩
          refine ret_b (decide_eq_false fun e => HN.out ?_).symm
          have := HXY.out.1
          rw [e, HXY.out.2] at this
          injection this with this
          exact this.symm
      · obtain rfl : k = l1.length := by omega
        go_wp2_with fail
        go_ret
        refine ⟨?_, below_drewN (Below.refl _ _) _⟩
        refine ret_b (decide_eq_true ?_).symm
        have := HEQ.out
        rw [List.take_length, HL.out, List.take_length] at this
        exact this
  · have HL := Lib.hid hl
    clear hs1 hs2
    go_enter Tryz.func11, Tryz.ntmps11
    go_wp2_with fail
    go_ret
    refine ⟨ret_b (decide_eq_false fun e => HL.out (by rw [e])).symm, Below.refl _ _⟩
end Go.Proofs.YtoboecenlangmaaGreat.Si
end
section
namespace Go.Proofs.YtoboecenlangmaaGreat.Pk
open Go.ChangeShapes Go.WideShapes Go.ChangeAt Go.RowKit
open Me Np No
set_option linter.unusedVariables false
set_option linter.unusedSimpArgs false

/-- What the first loop of Places holds: the glue so far. -/
structure InvK (l : List Nd) (W : World) (R : List Gl.G) (a : Nat) (v : Value) (wr : World) : Prop where
  rest : ∃ ys s, Stand l a ys ∧ skF l ys s = R ∧ s.length ≤ a ∧ wr.ownsRow W.heap.size 96 5 v s.length (s.flatMap Gl.G.vals)
  low : Below W.heap.size W wr
/-- What the second one holds. -/
structure InvL (l : List Nd) (f : Nat → Int) (W : World) (gx : Nat) (R : Plc) (a : Nat) (v u : Value) (wr : World) : Prop where
  rest : ∃ ys s A c, v = .slice A s.sz.length c ∧ s.sz.length ≤ c ∧ Seg W W.heap.size A (s.sz.map (Value.int .i64)) ∧ Stand l a ys ∧ plF l f ys s = R ∧ PlIn l f s ys s.out.length ∧ s.out.length ≤ a ∧ MP W gx s.x u s.out wr
theorem cells5 {W wr : World} {b o : Nat} {y : Nd} (h : NodeAt W b o y) (hl : Below W.heap.size W wr) (hb : b < W.heap.size) : wr.cell? ⟨b, o, none⟩ = some (.int .i64 y.kind) ∧ wr.cell? ⟨b, o + 7, none⟩ = some (.int .i64 y.gn) ∧ wr.cell? ⟨b, o + 8, none⟩ = some (.int .i64 y.gs) ∧ wr.cell? ⟨b, o + 9, none⟩ = some (.int .i64 y.gh) ∧ wr.cell? ⟨b, o + 10, none⟩ = some (.int .i64 y.ga) ∧ wr.cell? ⟨b, o + 11, none⟩ = some (.int .i64 y.gb) :=
  ⟨(h.below hl hb) 0 _ rfl, (h.below hl hb) 7 _ rfl, (h.below hl hb) 8 _ rfl, (h.below hl hb) 9 _ rfl, (h.below hl hb) 10 _ rfl, (h.below hl hb) 11 _ rfl⟩
set_option maxHeartbeats 4000000 in
set_option maxRecDepth 100000 in
theorem places_ok (A : Option Addr) (ns l : List Nd) (c k : Nat) (x : Nd) (xs : List Nat) (f : Nat → Int) (w : World) (hcap : ns.length ≤ c) (hl0 : ns.length ≤ 2000) (hseg : Seg w w.heap.size A (ns.flatMap ncs)) (hx : ns[k]? = some x) (h45 : x.kind = 4 ∨ x.kind = 5)
    (hI : Calls Tryz.prog 101 #[.slice A ns.length c, .int .i64 (k : Int)] w fun e' w' => ∃ v, e' = .returned (.tuple #[v, .int .i64 0]) ∧ w'.ownsRow w.heap.size 101 19 v l.length (l.flatMap ncs) ∧ Below w.heap.size w w')
    (hc : chk l = 0) (hxs : Its xs l 0) (hf : ∀ k, -281474976710656 ≤ f k ∧ f k ≤ 281474976710656)
    (hsz : ∀ (k : Nat) (n : Nd), l[k]? = some n → ¬ n.kind = 6 → ¬ n.kind = 11 → ∀ (A : Option Addr) (c : Nat) (w : World), l.length ≤ c → Seg w w.heap.size A (l.flatMap ncs) → Calls Tryz.prog 104 #[.slice A l.length c, .int .i64 (k : Int), .bool (x.kind == 5)] w fun e w' => e = .returned (.int .i64 (f k)) ∧ Below w.heap.size w w') :
    Calls Tryz.prog 55 #[.slice A ns.length c, .int .i64 (k : Int)] w (PlOut (plcR x l f xs).1 (plcR x l f xs).2 w) := by
  have hl := (chk_run hc).1
  have HI := Lib.hid hI
  have HF := Lib.hid hf
  have HIT := Lib.hid (fun (A : Option Addr) (c a m : Nat) (w1 : World) (hs : Seg w1 w1.heap.size A (l.flatMap ncs)) hb hm => item_ok A l c a m w1 (by omega) hs hc hb hm)
  have HST := Lib.hid (stand0 hc hxs)
  have HSL : (skF l xs []).length ≤ 2000 := by
    have h1 := skF_len l xs []
    have h2 := hxs.len
    simp only [List.length_nil] at h1
    omega
  have HSS := Lib.hid (fun (A : Option Addr) (c : Nat) (w1 : World) (hr : Gl.Row w1 A (skF l xs [])) => Gl.sizes_any A (skF l xs []) c x.sign x.order x.num x.den w1 (by unfold maxLen; omega) hr)
  obtain ⟨G, hG⟩ : ∃ G, skF l xs [] = G := ⟨_, rfl⟩
  rw [hG] at HSS HSL
  have HG := Lib.hid hG
  obtain ⟨PR, hPR⟩ : ∃ PR, plcR x l f xs = PR := ⟨_, rfl⟩
  rw [hPR]
  have HPR := Lib.hid hPR
  obtain ⟨dn, hdn⟩ : ∃ dn, (x.kind == 5) = dn := ⟨_, rfl⟩
  rw [hdn] at hsz
  have HSZ := Lib.hid hsz
  have e4 : (x.kind != 4) = dn := by
    rw [← hdn]
    rcases h45 with h | h <;> simp [h]
  have e5 : (x.kind != 5) = !dn := by
    rw [← hdn]
    rcases h45 with h | h <;> simp [h]
  obtain ⟨b0, off0, rfl, hb0, hnode⟩ := seg_node hseg hx
  have hkl : k < ns.length := (List.getElem?_eq_some_iff.1 hx).1
  clear hseg hx hc hxs hsz hI hf hG hPR h45
  generalize hlen : l.length = len at *
  have HL := Lib.hid hlen
  clear hlen
  generalize ns.length = lns at *
  cases dn
  all_goals
    simp only [Bool.not_false, Bool.not_true] at e5
    go_enter Tryz.func55, Tryz.ntmps55
    go_wp2_with fail
    refine HI.out.mono ?_
    rintro e w1 ⟨v, rfl, ho, hb1⟩
    have hnode1 := hnode.below hb1 hb0
    have ho2 := ho
    rw [← HL.out] at ho2
    obtain ⟨Ai, ci, hvi, hci, _, hsi⟩ := Seg.of_own ho2
    rw [HL.out] at hvi hci
    subst hvi
    clear ho ho2
    go_wp2_with (first | (refine wpList_load_node rfl _ rfl _ _ rfl _ (by repeat (first | apply NodeAt.row | (apply Blk.new'; first | rfl | (simp; done)) | (apply Blk.node; apply Blk.new'; first | rfl | (simp; done)) | assumption | apply NodeAt.alloc)) ?_) | (refine wpList_alloc_node rfl rfl ?_) | (refine wpList_store_node rfl _ _ rfl _ _ _ rfl rfl _ (by repeat (first | (apply Blk.new'; first | rfl | (simp; done)) | assumption | apply Blk.alloc)) ?_))
    have hW0 : Below w.heap.size w (w1.alloc (.cells (nc x) 101)) := andAlloc hb1 _
    have hBL : Blk (w1.alloc (.cells (nc x) 101)) w1.heap.size 101 (nc x) := Blk.new' rfl
    have hSG : Seg (w1.alloc (.cells (nc x) 101)) (w1.alloc (.cells (nc x) 101)).heap.size Ai (l.flatMap ncs) := Seg.belowW hsi (andAlloc (Below.refl _ _) _)
    clear hb1 hnode1 hsi
    generalize w1.alloc (.cells (nc x) 101) = W at hW0 hBL hSG ⊢
    generalize w1.heap.size = g8 at hBL ⊢
    have HW0 := Lib.hid hW0
    have HBL := Lib.hid hBL
    have HSG := Lib.hid hSG
    clear hW0 hBL hSG
    go_loopw [9, 10] (fun v9 v10 wr => ∃ a : Nat, v10 = .int .i64 (a : Int) ∧ InvK l W G a v9 wr) (fun _ v10 _ => len - (intOf v10).toNat)
    case atStart => exact ⟨0, rfl, ⟨xs, [], HST.out, HG.out, by simp, World.ownsRow_nil _ _ _ _⟩, Below.refl _ _⟩
    case round =>
      obtain ⟨a, rfl, hK⟩ := hrel
      obtain ⟨ys, s, hst, hR, h1, hO⟩ := hK.rest
      have HLOW := Lib.hid hK.low
      have hal := hst.le
      rw [HL.out] at hal
      by_cases hlt : a < len
      · obtain ⟨m, zs, y, rfl, hm, hm1, ham, hst', _, hy, h6, h11⟩ := hst.step (by rw [HL.out]; exact hl) (by rw [HL.out]; exact hlt)
        rw [HL.out] at ham
        obtain ⟨b, off, rfl, hb, hnd⟩ := seg_node HSG.out hy
        obtain ⟨c0, c7, c8, c9, c10, c11⟩ := cells5 hnd HLOW.out hb
        have HS := Lib.hid (And.intro hst' (And.intro hR hO))
        have HX := Lib.hid (And.intro hy hm)
        have HB := Lib.hid (beg_of hy h6 h11)
        have HH := Lib.hid h1
        have hal1 : (a : Int) + m ≤ len := by omega
        clear hst' hR hO hy hm hnd hK hst h1 h6 h11
        by_cases k7 : y.kind = 7
        · have e7 : (y.kind == 7) = true := by simp [k7]
          have HK := Lib.hid (skstep_yes (s := s) HX.out.1 k7)
          clear k7
          go_wp2_with (first
            | (refine wpList_ex (o := ⟨some 53, _, _, _, _, _⟩) (v := .slice (some ⟨wr.heap.size, 0, none⟩) 1 1) (w' := wr.alloc (.cells #[.int .i64 y.gn, .int .i64 y.gs, .int .i64 y.gh, .int .i64 y.ga, .int .i64 y.gb] 96)) rfl (by kernel_rfl) ?_)
            | (at_builtin; refine wpList_push rfl (.tmp 47) (.tmp 53) 22 rfl W.heap.size 96 _ 5 40 Tryz.underlying22 info_glue rfl (by decide) (by decide) _ _ _ rfl HS.out.2.2 HLOW.out.size #[.int .i64 y.gn, .int .i64 y.gs, .int .i64 y.gh, .int .i64 y.ga, .int .i64 y.gb] rfl rfl rfl rfl (by have := HH.out; omega) ?_; intro v3 W3 hown3 hg3 hnn3; have HO3 := Lib.hid hown3; have HL3 := Lib.hid (below_grown (Nat.le_refl _) (andAlloc HLOW.out _) hg3 (fun q hq => (HS.out.2.2.lt q hq).1)); clear hown3 hg3 hnn3)
            | (go_at_call 80; refine (HIT.out _ ci a m _ (Seg.belowW HSG.out HL3.out) HB.out HX.out.2).mono ?_; rintro e w5 ⟨rfl, hb5⟩; have HB5 := Lib.hid hb5; clear hb5))
          go_roundw
          case rel =>
            refine ⟨a + m, by go_num, ⟨zs, _, HS.out.1, HS.out.2.1, ?_, ?_⟩, andThen HL3.out HB5.out⟩
            · rw [HK.out]; have := HH.out; simp only [List.length_append, List.length_cons, List.length_nil]; omega
            · rw [HK.out]
              have h := own_below HO3.out HB5.out
              simpa [List.flatMap_append, gOf, Gl.G.vals] using h
          case measure => simp [intOf]; omega
        · have e7 : (y.kind == 7) = false := by simp [k7]
          have HK := Lib.hid (skstep_no (s := s) HX.out.1 k7)
          clear k7
          go_wp2_with (go_at_call 80; refine (HIT.out _ ci a m _ (Seg.belowW HSG.out HLOW.out) HB.out HX.out.2).mono ?_; rintro e w5 ⟨rfl, hb5⟩; have HB5 := Lib.hid hb5; clear hb5)
          go_roundw
          case rel =>
            refine ⟨a + m, by go_num, ⟨zs, _, HS.out.1, HS.out.2.1, ?_, ?_⟩, andThen HLOW.out HB5.out⟩
            · rw [HK.out]; have := HH.out; omega
            · rw [HK.out]; exact own_below HS.out.2.2 HB5.out
          case measure => simp [intOf]; omega
      · obtain rfl : a = len := by omega
        have he : ys = [] := (show Stand l l.length ys from HL.out ▸ hst).done
        subst he
        have hsG : s = G := hR
        subst hsG
        obtain ⟨AG, cG, hvG, hcG, _, hsG⟩ := Seg.of_own hO
        subst hvG
        have HRW := Lib.hid (show Gl.Row wr AG s from hsG)
        have hnx : NodeAt wr g8 0 x := (Blk.node HBL.out).below HLOW.out HBL.out.lt
        clear hst hR hO hsG h1 hK hal
        have hlw1 := HLOW.out
        have c12 : wr.cell? ⟨g8, 12, none⟩ = some (.int .i64 x.sign) := Blk.cell (HBL.out.below hlw1 HBL.out.lt) 12
        have c13 : wr.cell? ⟨g8, 13, none⟩ = some (.int .i64 x.order) := Blk.cell (HBL.out.below hlw1 HBL.out.lt) 13
        have c14 : wr.cell? ⟨g8, 14, none⟩ = some (.int .i64 x.num) := Blk.cell (HBL.out.below hlw1 HBL.out.lt) 14
        have c15 : wr.cell? ⟨g8, 15, none⟩ = some (.int .i64 x.den) := Blk.cell (HBL.out.below hlw1 HBL.out.lt) 15
        clear hlw1
        have HSZO := Lib.hid (HSS.out AG cG wr HRW.out)
        by_cases hE : Gl.szE s x.sign x.order x.num x.den = 0
        · have hpr : PR = ((plF l f xs ⟨0, Gl.szL s x.sign x.order x.num x.den, []⟩).out, 0) := by
            rw [← HPR.out]
            unfold plcR
            rw [HG.out, if_pos hE]
          have HPP := Lib.hid hpr
          have hszi := Gl.szL_in hE
          have HSI := Lib.hid hszi
          have HE := Lib.hid hE
          clear hpr hszi hE HPR
          go_wp2_with fail
          refine HSZO.out.mono ?_
          rintro e w5 ⟨hs5, hb5⟩
          rw [if_pos HE.out] at hs5
          obtain ⟨v5, rfl, own5⟩ := hs5
          have own5' := own5
          rw [← HSI.out.1] at own5'
          obtain ⟨As, cs, hvs, hcs, _, hss⟩ := Seg.of_own own5'
          subst hvs
          have HB5 := Lib.hid (andThen HLOW.out hb5)
          have HSS5 := Lib.hid hss
          clear own5 own5' hb5 hss c12 c13 c14 c15 HSZO
          generalize hZ : Gl.szL s x.sign x.order x.num x.den = Z at *
          generalize hPF : plF l f xs ⟨0, Z, []⟩ = PF at *
          have HPF := Lib.hid hPF
          clear hPF hZ hnx hnode hb0 hkl
          obtain ⟨gx, hgx⟩ : ∃ gx, w5.heap.size = gx := ⟨_, rfl⟩
          go_wp2_with fail
          go_loopw [11, 14, 15] (fun v11 v14 v15 wr2 => ∃ j : Nat, v15 = .int .i64 (j : Int) ∧ InvL l f w5 w5.heap.size PF j v11 v14 wr2) (fun _ _ v15 _ => a - (intOf v15).toNat)
          case atStart => exact ⟨0, rfl, xs, ⟨0, Z, []⟩, As, cs, rfl, hcs, HSS5.out, HST.out, HPF.out, ⟨by rw [HG.out]; exact HSI.out.1, HSI.out.2, by simp, rfl⟩, Nat.zero_le _, Blk.new' rfl, World.ownsRow_nil _ _ _ _, andAlloc (Below.refl _ _) _, Nat.le_refl _⟩
          case round =>
            obtain ⟨j, rfl, hL⟩ := hrel
            obtain ⟨ys, ⟨x2, sz2, out2⟩, A2, c2, rfl, hc2, hsg2, hst, hR, hP, hlen2, hM⟩ := hL.rest
            rw [hgx] at hM ⊢
            simp only at hc2 hsg2 hR hP hlen2 hM ⊢
            have hx0 : wr.cell? ⟨gx, 0, none⟩ = some (.int .i64 x2) := Blk.cell hM.blk 0
            have HMP := Lib.hid hM
            have hxb := hP.x
            simp only at hxb
            have hal := hst.le
            rw [HL.out] at hal
            by_cases hlt2 : j < a
            · obtain ⟨m, zs, y, rfl, hm, hm1, ham, hst', _, hy, h6, h11⟩ := hst.step (by rw [HL.out]; exact hl) (by rw [HL.out]; exact hlt2)
              rw [HL.out] at ham
              obtain ⟨b, off, rfl, hb, hnd⟩ := seg_node HSG.out hy
              have HND := Lib.hid (fun w' (h : Below w5.heap.size w5 w') => show w'.cell? ⟨b, off + j * 19, none⟩ = some (.int .i64 y.kind) from (cells5 hnd (andThen HB5.out h) hb).1)
              have HS := Lib.hid (And.intro hst' hR)
              have HX := Lib.hid (And.intro hy hm)
              have HB := Lib.hid (beg_of hy h6 h11)
              have hal1 : (j : Int) + m ≤ a := by omega
              by_cases k7 : y.kind = 7
              · have e7 : (y.kind == 7) = true := by simp [k7]
                obtain ⟨z, r, hz, hzb, hst1, hin1⟩ := hP.skip hy k7
                simp only at hz
                subst hz
                obtain ⟨b2, off2, rfl, hb2, hz2⟩ := Si.seg_get hsg2 (k := 0) (u := .int .i64 z) rfl
                have HZ2 := Lib.hid (fun w' (h : Below w5.heap.size w5 w') => show w'.cell? ⟨b2, off2, none⟩ = some (.int .i64 z) from (h.cell (p := ⟨b2, off2, none⟩) hb2).trans hz2)
                have HST1 := Lib.hid (And.intro hst1 hin1)
                have HSG2 := Lib.hid (And.intro hb2 hsg2)
                have hx1 : -2305843009213693952 ≤ x2 := by omega
                have hx3 : x2 ≤ 2305843009213693952 := by omega
                have hz1 : -2305843009213693952 ≤ z := by omega
                have hz3 : z ≤ 2305843009213693952 := by omega
                simp only [List.length_cons] at hc2 ⊢
                have HLE := Lib.hid hlen2
                clear hM hst' hR hy hm hnd hL hst hP h6 h11 k7 hz2 hst1 hin1 hsg2 hlen2 hxb hzb hb2
                go_wp2_with (first
                  | (at_builtin; refine wpList_push rfl (.tmp 82) (.tmp 84) 26 rfl (gx + 1) 3 _ 1 8 Tryz.underlying26 info_int rfl (by decide) (by decide) _ _ _ rfl HMP.out.own HMP.out.blk.lt #[.int .i64 x2] rfl rfl rfl rfl (by have := HLE.out; omega) ?_; intro v3 W3 hown3 hg3 hnn3; have HM3 := Lib.hid ((HMP.out.below (andAlloc (Below.refl _ _) _)).push hown3 hg3); have cy3 := HND.out _ HM3.out.low; have cz3 := HZ2.out _ HM3.out.low; clear hown3 hg3 hnn3)
                  | (go_at_call 103; refine (grow_any gx x2 z _ HM3.out.blk hx1 hx3 hz1 hz3).mono ?_; rintro e w7 ⟨rfl, hb7, hg7⟩; have HM7 := Lib.hid (HM3.out.turn hb7 hg7); clear hb7 hg7)
                  | (go_at_call 80; refine (HIT.out _ ci j m _ (Seg.belowW HSG.out (andThen HB5.out HM7.out.low)) HB.out HX.out.2).mono ?_; rintro e w8 ⟨rfl, hb8⟩; have HB8 := Lib.hid hb8; clear hb8))
                go_roundw
                case rel =>
                  refine ⟨j + m, by go_num, ⟨zs, ⟨x2 + z, r, out2 ++ [x2]⟩, if c2 = 1 then some ⟨b2, off2, none⟩ else some ⟨b2, off2 + 1, none⟩, c2 - 1, ?_, by simp only; omega, ?_, HS.out.1, ?_, ?_, ?_, ?_⟩⟩
                  · rfl
                  · simp only
                    have h := HSG2.out.2
                    split
                    · have : r = [] := List.eq_nil_of_length_eq_zero (by omega)
                      subst this
                      exact .inl rfl
                    · have h2 := Seg.drop h 1
                      simpa using h2
                  · have h := HS.out.2
                    rw [plF_cons, HST1.out.1] at h
                    exact h
                  · have h := HST1.out.2
                    rw [HST1.out.1] at h
                    simpa using h
                  · have := HLE.out
                    simp only [List.length_append, List.length_cons, List.length_nil]
                    omega
                  · exact HM7.out.below HB8.out
                case measure => simp [intOf]; omega
              · have e7 : (y.kind == 7) = false := by simp [k7]
                obtain ⟨hst1, hin1⟩ := hP.other hy k7 (HF.out j)
                have HST1 := Lib.hid (And.intro hst1 hin1)
                have hfj := HF.out j
                have hx1 : -2305843009213693952 ≤ x2 := by omega
                have hx3 : x2 ≤ 2305843009213693952 := by omega
                have hz1 : -2305843009213693952 ≤ f j := by omega
                have hz3 : f j ≤ 2305843009213693952 := by omega
                have HK6 := Lib.hid (And.intro h6 h11)
                have HLE := Lib.hid hlen2
                have HSG2 := Lib.hid hsg2
                clear hM hst' hR hy hm hnd hL hst hP h6 h11 k7 hst1 hin1 hsg2 hlen2 hxb hfj
                go_wp2_with (first
                  | (at_builtin; refine wpList_push rfl (.tmp 82) (.tmp 84) 26 rfl (gx + 1) 3 _ 1 8 Tryz.underlying26 info_int rfl (by decide) (by decide) _ _ _ rfl HMP.out.own HMP.out.blk.lt #[.int .i64 x2] rfl rfl rfl rfl (by have := HLE.out; omega) ?_; intro v3 W3 hown3 hg3 hnn3; have HM3 := Lib.hid ((HMP.out.below (andAlloc (Below.refl _ _) _)).push hown3 hg3); have cy3 := HND.out _ HM3.out.low; have cg3 : W3.cell? ⟨g8, 0, none⟩ = some (.int .i64 x.kind) := Blk.cell (HBL.out.below (andThen HB5.out HM3.out.low) HBL.out.lt) 0; clear hown3 hg3 hnn3)
                  | (go_at_call 104; refine (HSZ.out j y HX.out.1 HK6.out.1 HK6.out.2 _ ci _ hci (Seg.belowW HSG.out (andThen HB5.out HM3.out.low))).mono ?_; rintro e w6 ⟨rfl, hb6⟩; have HM6 := Lib.hid (HM3.out.below hb6); clear hb6)
                  | (go_at_call 103; refine (grow_any gx x2 (f j) _ HM6.out.blk hx1 hx3 hz1 hz3).mono ?_; rintro e w7 ⟨rfl, hb7, hg7⟩; have HM7 := Lib.hid (HM6.out.turn hb7 hg7); clear hb7 hg7)
                  | (go_at_call 80; refine (HIT.out _ ci j m _ (Seg.belowW HSG.out (andThen HB5.out HM7.out.low)) HB.out HX.out.2).mono ?_; rintro e w8 ⟨rfl, hb8⟩; have HB8 := Lib.hid hb8; clear hb8))
                go_roundw
                case rel =>
                  refine ⟨j + m, by go_num, ⟨zs, ⟨x2 + f j, sz2, out2 ++ [x2]⟩, A2, c2, rfl, hc2, HSG2.out, HS.out.1, ?_, ?_, ?_, ?_⟩⟩
                  · have h := HS.out.2
                    rw [plF_cons, HST1.out.1] at h
                    exact h
                  · have h := HST1.out.2
                    rw [HST1.out.1] at h
                    simpa using h
                  · have := HLE.out
                    simp only [List.length_append, List.length_cons, List.length_nil]
                    omega
                  · exact HM7.out.below HB8.out
                case measure => simp [intOf]; omega
            · obtain rfl : j = a := by omega
              have he : ys = [] := (show Stand l l.length ys from HL.out ▸ hst).done
              subst he
              have hPo : PF.out = out2 := by
                have h : (⟨x2, sz2, out2⟩ : Plc) = PF := hR
                rw [← h]
              have HPO := Lib.hid hPo
              clear hst hR hP hM hL hPo hsg2
              go_wp2_with fail
              go_ret2
              rw [HPP.out]
              refine ⟨u14, rfl, ?_, andThen HW0.out (andThen HB5.out HMP.out.low)⟩
              simp only
              rw [HPO.out]
              exact own_base HMP.out.own (by have := HMP.out.gl; have := HW0.out.size; have := HB5.out.size; omega)
        · have hpr : PR = ([], Gl.szE s x.sign x.order x.num x.den) := by
            rw [← HPR.out]
            unfold plcR
            rw [HG.out, if_neg hE]
          have HPP := Lib.hid hpr
          have HE := Lib.hid hE
          clear hpr hE HPR
          go_wp2_with fail
          refine HSZO.out.mono ?_
          rintro e w5 ⟨hs5, hb5⟩
          rw [if_neg HE.out] at hs5
          subst hs5
          clear HSZO
          generalize Gl.szE s x.sign x.order x.num x.den = E at *
          have e0 : (E != 0) = true := by simp [HE.out]
          go_wp2_with fail
          go_ret2
          rw [HPP.out]
          exact PlOut.no (andThen HW0.out (andThen HLOW.out hb5)) _
end Go.Proofs.YtoboecenlangmaaGreat.Pk
end

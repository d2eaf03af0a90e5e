import Derived.Test.YtoboecenlangmaaGreatMw1
import Derived.Test.YtoboecenlangmaaGreatNodeS2
import Derived.Test.YtoboecenlangmaaGreatMw2
import Derived.Test.YtoboecenlangmaaGreatNodeGc
import Derived.Test.YtoboecenlangmaaGreatNodeS6
import Derived.Test.YtoboecenlangmaaGreatMem
import Derived.RegionTactic
import Derived.BigRegion
import Derived.ChangeAlike
import Derived.Deep.RegionWith
import Derived.StillTailTactics
import Derived.Test.YtoboecenlangmaaGreatNodeS1
import Derived.Test.YtoboecenlangmaaGreatNodeRt
import Derived.Test.YtoboecenlangmaaGreatRck
import Derived.Deep.LoopGhost
import Derived.Deep.RegionHeldLaw
import Derived.OneCell
/- Merged texts. Conditions: those that each theorem names. -/
section
namespace Go.Proofs.YtoboecenlangmaaGreat.No
open Go.ChangeShapes Go.WideShapes Go.ChangeAt Go.RowKit
open Me Np
set_option linter.unusedVariables false
set_option linter.unusedSimpArgs false
attribute [local go_sem ↓] ldN_eq
set_option maxHeartbeats 4000000 in
set_option maxRecDepth 100000 in
theorem rcolumn_of (A : Option Addr) (ns : List Nd) (c : Nat) (xs : List Nat) (w : World) (hl : ns.length ≤ 2000) (hseg : Seg w w.heap.size A (ns.flatMap ncs)) (hx : Its xs ns 0) (hr : ∀ x ∈ ns, right x = true) (h6 : ∀ x ∈ xs, ∀ n, ns[x]? = some n → ¬ n.kind = 6) :
    Calls Tryz.prog 97 #[.slice A ns.length c] w fun e w' => e = .returned (.tuple #[.int .i64 (cfold ns xs (0, 0)).1, .int .i64 (cfold ns xs (0, 0)).2]) ∧ Below w.heap.size w w' := by
  have HRT := Lib.hid hr
  have HSEG := Lib.hid hseg
  have HITS := Lib.hid (rstarts_any A ns c xs w hl hseg hx h6)
  have hxl := Its.len hx
  have HLT := Lib.hid (Its.lt hx)
  clear hr hseg hx h6
  have HL := Lib.hid (rfl : ns.length = ns.length)
  generalize hlen : ns.length = len at hl HITS HL hxl HLT ⊢
  clear HL
  have HL := Lib.hid hlen
  clear hlen
  go_enter Tryz.func97, Tryz.ntmps97
  go_wp2_with fail
  refine HITS.out.mono ?_
  rintro e w1 ⟨v, rfl, ho, hb1⟩
  obtain ⟨A', c', rfl⟩ := made_len ho
  have HO := Lib.hid ho
  have HB1 := Lib.hid hb1
  clear ho hb1
  go_wp2_with fail
  go_loopw [4, 5, 7] (fun h d i wr => ∃ (k : Nat) (s : Int × Int), k ≤ xs.length ∧ i = .int .i64 k ∧ h = .int .i64 s.1 ∧ d = .int .i64 s.2 ∧ cfold ns (xs.drop k) s = cfold ns xs (0, 0) ∧ Below w1.heap.size w1 wr) (fun _ _ i _ => xs.length - (intOf i).toNat)
  case atStart => exact ⟨0, (0, 0), by omega, rfl, rfl, rfl, rfl, Below.refl _ _⟩
  case round =>
    obtain ⟨k, s, hk, rfl, rfl, rfl, hfo, hlow⟩ := hrel
    by_cases hlt : k < xs.length
    · obtain ⟨x, hx, hxd⟩ : ∃ x, xs[k]? = some x ∧ xs.drop k = x :: xs.drop (k + 1) := ⟨xs[k], List.getElem?_eq_getElem hlt, List.drop_eq_getElem_cons hlt⟩
      have hxm : x ∈ xs := List.mem_of_getElem? hx
      have hxl2 := (HLT.out x hxm).2
      obtain ⟨n, hn, hnd⟩ := get_drop (l := ns) (k := x) (by rw [HL.out]; omega)
      have HRN := Lib.hid (HRT.out n (List.mem_of_getElem? hn))
      have HNN := Lib.hid hn
      obtain ⟨b, off, rfl, hb, hnode⟩ := seg_node HSEG.out hn
      have HLW := Lib.hid (andThen HB1.out hlow)
      have hnr : NodeAt wr b (off + x * 19) n := hnode.below HLW.out hb
      have hld0 : (ldN ⟨b, off + x * 19, none⟩).run Tryz.prog wr = .ok (.agg (nc n)) wr := run_ldN hnr
      rw [hxd] at hfo
      have HFO := Lib.hid (show cfold ns (xs.drop (k + 1)) (cstep s n) = cfold ns xs (0, 0) by simpa [cfold, hn] using hfo)
      obtain ⟨g, rfl, hg⟩ : ∃ g, A' = some ⟨g, 0, none⟩ ∧ g < w1.heap.size := by
        rcases id HO.out.2 with ⟨_, h5⟩ | ⟨g, _, _, h5, _, h6, _⟩
        · omega
        · simp at h5
          exact ⟨g, h5.1, (Array.getElem?_eq_some_iff.1 h6).1⟩
      have hxc : wr.cell? ⟨g, k, none⟩ = some (.int .i64 x) := by
        rw [hlow.cell (p := ⟨g, k, none⟩) hg, World.ownsRow.cellAt HO.out k (by omega), List.getElem?_map, hx]
        rfl
      have hgl : g < wr.heap.size := Nat.lt_of_lt_of_le hg hlow.size
      clear hn hnd hx hnode hxd hfo hnr
      by_cases hk5 : n.kind = 3 ∨ n.kind = 4 ∨ n.kind = 5
      · rcases hk5 with hk | hk | hk
        · have e3 : (n.kind == 3) = true := by simp [hk]
          have HST := Lib.hid (show cstep s n = (max s.1 n.wd, n.dp) by unfold cstep; rw [if_pos (by omega)])
          clear hk
          go_wp2_with (first | (with_reducible show wpList _ _ _ _ _ _; refine wpList_alloc_node rfl rfl ?_) | (with_reducible show wpList _ _ _ _ _ _; refine wpList_store_node rfl _ _ rfl _ _ _ rfl rfl _ (by repeat (first | (apply Blk.new'; first | rfl | (simp; done)) | assumption | apply Blk.alloc)) ?_))
          go_roundw
          case rel => exact ⟨k + 1, (max s.1 n.wd, n.dp), by omega, by go_num, rfl, rfl, by have hf := HFO.out; rw [HST.out] at hf; exact hf, by repeat (first | exact hlow | refine below_drewN ?_ _ | refine andAlloc ?_ _)⟩
          case measure => simp [intOf]; omega
        · have e3 : (n.kind == 3) = false := by simp [hk]
          have e4 : (n.kind == 4) = true := by simp [hk]
          have HST := Lib.hid (show cstep s n = (max s.1 (n.wd + n.shift), n.dp) by unfold cstep; rw [if_neg (by omega), if_pos (by omega)])
          have hd := right_wd HRN.out (by omega)
          unfold dm at hd
          have hsh := box_shift HRN.out (by omega)
          have hw1 : IntKind.i64.wrap (n.wd + n.shift) = n.wd + n.shift := IntWalk.i64_in _ (by omega)
          clear hd hsh
          clear hk
          go_wp2_with (first | (with_reducible show wpList _ _ _ _ _ _; refine wpList_alloc_node rfl rfl ?_) | (with_reducible show wpList _ _ _ _ _ _; refine wpList_store_node rfl _ _ rfl _ _ _ rfl rfl _ (by repeat (first | (apply Blk.new'; first | rfl | (simp; done)) | assumption | apply Blk.alloc)) ?_))
          go_roundw
          case rel => exact ⟨k + 1, (max s.1 (n.wd + n.shift), n.dp), by omega, by go_num, rfl, rfl, by have hf := HFO.out; rw [HST.out] at hf; exact hf, by repeat (first | exact hlow | refine below_drewN ?_ _ | refine andAlloc ?_ _)⟩
          case measure => simp [intOf]; omega
        · have e3 : (n.kind == 3) = false := by simp [hk]
          have e4 : (n.kind == 4) = false := by simp [hk]
          have e5 : (n.kind == 5) = true := by simp [hk]
          have HST := Lib.hid (show cstep s n = (max s.1 (n.wd + n.shift), n.dp) by unfold cstep; rw [if_neg (by omega), if_pos (by omega)])
          have hd := right_wd HRN.out (by omega)
          unfold dm at hd
          have hsh := box_shift HRN.out (by omega)
          have hw1 : IntKind.i64.wrap (n.wd + n.shift) = n.wd + n.shift := IntWalk.i64_in _ (by omega)
          clear hd hsh
          clear hk
          go_wp2_with (first | (with_reducible show wpList _ _ _ _ _ _; refine wpList_alloc_node rfl rfl ?_) | (with_reducible show wpList _ _ _ _ _ _; refine wpList_store_node rfl _ _ rfl _ _ _ rfl rfl _ (by repeat (first | (apply Blk.new'; first | rfl | (simp; done)) | assumption | apply Blk.alloc)) ?_))
          go_roundw
          case rel => exact ⟨k + 1, (max s.1 (n.wd + n.shift), n.dp), by omega, by go_num, rfl, rfl, by have hf := HFO.out; rw [HST.out] at hf; exact hf, by repeat (first | exact hlow | refine below_drewN ?_ _ | refine andAlloc ?_ _)⟩
          case measure => simp [intOf]; omega
      · have e3 : (n.kind == 3) = false := by simp; omega
        have e4 : (n.kind == 4) = false := by simp; omega
        have e5 : (n.kind == 5) = false := by simp; omega
        have HST := Lib.hid (show cstep s n = (s.1, 0) by unfold cstep; rw [if_neg (by omega), if_neg (by omega)])
        clear hk5
        go_wp2_with (first | (with_reducible show wpList _ _ _ _ _ _; refine wpList_alloc_node rfl rfl ?_) | (with_reducible show wpList _ _ _ _ _ _; refine wpList_store_node rfl _ _ rfl _ _ _ rfl rfl _ (by repeat (first | (apply Blk.new'; first | rfl | (simp; done)) | assumption | apply Blk.alloc)) ?_))
        go_roundw
        case rel => exact ⟨k + 1, (s.1, 0), by omega, by go_num, rfl, rfl, by have hf := HFO.out; rw [HST.out] at hf; exact hf, by repeat (first | exact hlow | refine below_drewN ?_ _ | refine andAlloc ?_ _)⟩
        case measure => simp [intOf]; omega
    · obtain rfl : k = xs.length := by omega
      rw [List.drop_of_length_le (Nat.le_refl _)] at hfo
      have hfo : s = cfold ns xs (0, 0) := hfo
      subst hfo
      have HLW := Lib.hid (andThen HB1.out hlow)
      go_wp2_with fail
      go_ret2
      exact ⟨rfl, HLW.out⟩
end Go.Proofs.YtoboecenlangmaaGreat.No
end
section
namespace Go.Proofs.YtoboecenlangmaaGreat.No
open Go.ChangeShapes Go.WideShapes Go.ChangeAt Go.RowKit
open Me Np
set_option linter.unusedVariables false
set_option linter.unusedSimpArgs false

theorem rrow_any (A : Option Addr) (ns : List Nd) (c : Nat) (xs : List Nat) (w : World) (hc : chk ns = 0) (hcap : ns.length ≤ c) (hseg : Seg w w.heap.size A (ns.flatMap ncs)) (hx : Its xs ns 0) :
    Calls Tryz.prog 96 #[.slice A ns.length c] w fun e w' => e = .returned (.tuple #[.int .i64 (rowD ns xs).1, .int .i64 (rowD ns xs).2]) ∧ Below w.heap.size w w' := by
  have hl := (chk_run hc).1
  have hr := chk_right hc
  refine rrow_of A ns c xs (roD ns) w hl hseg hx hr (fun x hm n hn => by
    obtain ⟨n', hn', h6, _⟩ := its_beg hc hx x hm
    rw [hn] at hn'
    injection hn' with e
    rw [e]
    exact h6) (fun k _ => roD_rv hr k) ?_ ?_
  · intro k hk n hn h10
    exact roD_of ⟨n, hn, by rw [if_neg h10]⟩
  · intro k hk n hn h10 w1 hb1
    obtain ⟨m, hm⟩ := item_ends hc hn (by omega) (by omega)
    obtain ⟨hm2, ss, hss⟩ := disc_steps hc hn h10 hm
    obtain ⟨xs', hxs, hsm⟩ := thr_its 2 0 hss
    have hv : RoV ns k (rfold (ra0 (thr ss (ns.drop (k + 1)) 0 2)) xs' (0, 0)) := ⟨n, hn, by rw [if_pos h10]; exact ⟨ss, m - 2, xs', hss, hxs, rfl⟩⟩
    rw [roD_of hv]
    have hr3 : ∀ y ∈ thr ss (ns.drop (k + 1)) 0 2, right y = true := fun y hy => hr y (List.mem_of_mem_drop (thr_mem y hy))
    have hlen : (thr ss (ns.drop (k + 1)) 0 2).length ≤ 2000 := by
      have h1 := thr_len (j := 2) hss
      have h2 := hss.le
      rw [List.length_drop] at h2
      omega
    refine (rthree_any A ns c k m ss n w1 hc hcap (Seg.belowW hseg hb1) hn hm hss hm2 h10).mono ?_
    rintro e w2 ⟨vs, rfl, ho, hb2⟩
    obtain ⟨A2, c2, h2, hc2, _, hs2⟩ := Seg.of_own (ho.own 2 (by omega))
    refine ⟨vs, A2, c2, _, rfl, h2, hb2, ?_⟩
    have hsm' : ∀ x ∈ xs', ∀ y, (thr ss (ns.drop (k + 1)) 0 2)[x]? = some y → smallB y = true := fun x hx' y hy => by
      obtain ⟨y', hy', hs⟩ := hsm x hx'
      rw [Nat.sub_zero, hy] at hy'
      injection hy' with e
      rw [e]
      exact hs
    refine rrow_of A2 (thr ss (ns.drop (k + 1)) 0 2) c2 xs' (ra0 (thr ss (ns.drop (k + 1)) 0 2)) w2 hlen hs2 hxs hr3 (fun x hx' y hy h => by have := hsm' x hx' y hy; simp [smallB, h] at this) (fun x _ => ra0_rv hr3 x) (fun x hx' y hy _ => by simp [ra0, hy]) (fun x hx' y hy h => ?_)
    have := hsm' x hx' y hy
    simp [smallB, h] at this
set_option maxHeartbeats 1000000 in
set_option maxRecDepth 100000 in
theorem rextent_bad (A : Option Addr) (ns : List Nd) (c : Nat) (down : Bool) (w : World) (hl : ns.length ≤ 9223372036854775806) (hseg : Seg w w.heap.size A (ns.flatMap ncs)) (hc : ¬ chk ns = 0) :
    Calls Tryz.prog 51 #[.slice A ns.length c, .bool down] w fun e w' => e = .returned (.tuple #[.int .i64 0, .int .i64 0, .int .i64 (chk ns)]) ∧ Below w.heap.size w w' := by
  have HC := Lib.hid (rcheckl_any A ns c w (by omega) hseg)
  have e0 : (chk ns != 0) = true := by simp [hc]
  clear hseg hc
  generalize chk ns = v at *
  generalize ns.length = len at *
  go_enter Tryz.func51, Tryz.ntmps51
  go_wp2_with fail
  refine HC.out.mono ?_
  rintro e w1 ⟨rfl, hb1⟩
  go_wp2_with fail
  go_ret3
  exact ⟨rfl, hb1⟩
set_option maxHeartbeats 1000000 in
set_option maxRecDepth 100000 in
theorem rextent_good (A : Option Addr) (ns : List Nd) (c : Nat) (xs : List Nat) (down : Bool) (w : World) (hc : chk ns = 0) (hcap : ns.length ≤ c) (hseg : Seg w w.heap.size A (ns.flatMap ncs)) (hx : Its xs ns 0) :
    Calls Tryz.prog 51 #[.slice A ns.length c, .bool down] w fun e w' => e = .returned (extV (extD ns down xs)) ∧ Below w.heap.size w w' := by
  have hl := (chk_run hc).1
  have hr := chk_right hc
  have h6 : ∀ x ∈ xs, ∀ n, ns[x]? = some n → ¬ n.kind = 6 := fun x hm n hn => by
    obtain ⟨n', hn', h6, _⟩ := its_beg hc hx x hm
    rw [hn] at hn'
    injection hn' with e
    rw [e]
    exact h6
  have HC := Lib.hid (rcheckl_any A ns c w (by omega) hseg)
  have HR := Lib.hid fun w1 (h : Below w.heap.size w w1) => rrow_any A ns c xs w1 hc hcap (Seg.belowW hseg h) hx
  have HCO := Lib.hid fun w1 (h : Below w.heap.size w w1) => rcolumn_of A ns c xs w1 hl (Seg.belowW hseg h) hx hr h6
  rw [hc] at HC
  have HE0 := Lib.hid (show down = false → extD ns down xs = rowD ns xs from fun h => by rw [h]; rfl)
  have HE1 := Lib.hid (show down = true → extD ns down xs = cfold ns xs (0, 0) from fun h => by rw [h]; rfl)
  generalize extD ns down xs = E at *
  clear hseg hc hx hr hcap h6
  generalize hQ : cfold ns xs (0, 0) = Q at *
  generalize hP0 : rowD ns xs = P0 at *
  clear hQ hP0
  generalize ns.length = len at *
  go_enter Tryz.func51, Tryz.ntmps51
  go_wp2_with fail
  refine HC.out.mono ?_
  rintro e w1 ⟨rfl, hb1⟩
  go_wp2_with fail
  refine (HR.out _ hb1).mono ?_
  rintro e w2 ⟨rfl, hb2⟩
  have hb12 := andThen hb1 hb2
  cases down
  · have HLX := Lib.hid hb12
    clear hb1 hb2 hb12
    have hE := HE0.out (by first | rfl | trivial)
    clear HE0 HE1
    subst hE
    cases hDa : dimB E.1
    · have HDa := Lib.hid hDa
      clear hDa
      go_wp2_with (go_at_call 95; refine (rdimen_any _ _).mono ?_; rintro e w' ⟨rfl, rfl⟩; simp only [HDa.out])
      go_ret3
      exact ⟨ext_no (by rw [HDa.out]; rfl), HLX.out⟩
    · have HDa := Lib.hid hDa
      clear hDa
      cases hDb : dimB E.2
      all_goals
        have HDb := Lib.hid hDb
        clear hDb
        go_wp2_with (first | (go_at_call 95; (with_reducible refine (rdimen_any E.1 _).mono ?_); rintro e w' ⟨rfl, rfl⟩; simp only [HDa.out]) | (go_at_call 95; (with_reducible refine (rdimen_any E.2 _).mono ?_); rintro e w' ⟨rfl, rfl⟩; simp only [HDb.out]))
        go_ret3
        exact ⟨by first | exact ext_no (by rw [HDa.out, HDb.out]; rfl) | exact ext_yes (by rw [HDa.out, HDb.out]; rfl), HLX.out⟩
  · go_wp2_with fail
    refine (HCO.out _ hb12).mono ?_
    rintro e w3 ⟨rfl, hb3⟩
    have HLX := Lib.hid (andThen hb12 hb3)
    clear hb1 hb2 hb12 hb3
    have hE := HE1.out (by first | rfl | trivial)
    clear HE0 HE1
    subst hE
    cases hDa : dimB E.1
    · have HDa := Lib.hid hDa
      clear hDa
      go_wp2_with (go_at_call 95; refine (rdimen_any _ _).mono ?_; rintro e w' ⟨rfl, rfl⟩; simp only [HDa.out])
      go_ret3
      exact ⟨ext_no (by rw [HDa.out]; rfl), HLX.out⟩
    · have HDa := Lib.hid hDa
      clear hDa
      cases hDb : dimB E.2
      all_goals
        have HDb := Lib.hid hDb
        clear hDb
        go_wp2_with (first | (go_at_call 95; (with_reducible refine (rdimen_any E.1 _).mono ?_); rintro e w' ⟨rfl, rfl⟩; simp only [HDa.out]) | (go_at_call 95; (with_reducible refine (rdimen_any E.2 _).mono ?_); rintro e w' ⟨rfl, rfl⟩; simp only [HDb.out]))
        go_ret3
        exact ⟨by first | exact ext_no (by rw [HDa.out, HDb.out]; rfl) | exact ext_yes (by rw [HDa.out, HDb.out]; rfl), HLX.out⟩
end Go.Proofs.YtoboecenlangmaaGreat.No
end
section
namespace Go.Proofs.YtoboecenlangmaaGreat.No
open Go.ChangeShapes Go.WideShapes Go.ChangeAt Go.RowKit
open Me Np
set_option linter.unusedVariables false
set_option linter.unusedSimpArgs false

attribute [local go_sem ↓] ldN_eq bldN_eq
set_option maxHeartbeats 2000000 in
set_option maxRecDepth 100000 in
theorem rwrap_r (n : Nd) (A : Option Addr) (l : List Nd) (c : Nat) (w : World) (hr : right n = false) :
    Calls Tryz.prog 99 #[.agg (nc n), .slice A l.length c] w fun e w' => e = .returned (.tuple #[.slice none 0 0, .int .i64 1]) ∧ Below w.heap.size w w' := by
  have HR := Lib.hid hr
  clear hr
  generalize l.length = len at *
  go_enter Tryz.func99, Tryz.ntmps99
  have hn1 : NodeAt (w.alloc (.cells (nc n) 101)) w.heap.size 0 n := Blk.node (Blk.new' rfl)
  have hld1 := run_ldN hn1
  go_wp2_with fail
  refine (good_any n _).mono ?_
  rintro e w2 ⟨rfl, hb2⟩
  have hl2 : Below w.heap.size w w2 := andThen (andAlloc (Below.refl _ _) _) hb2
  have hn2' := hn1.below hb2 hn1.lt
  have hc2 : w2.cell? ⟨w.heap.size, 0, none⟩ = some (.int .i64 n.kind) := hn2' 0 _ rfl
  have hz2 := hn2'.lt
  rw [HR.out]
  clear hb2 hn1 hld1
  go_wp2_with fail
  go_ret2
  exact ⟨rfl, hl2⟩
set_option maxHeartbeats 2000000 in
set_option maxRecDepth 100000 in
theorem rwrap_o (n : Nd) (A : Option Addr) (l : List Nd) (c : Nat) (w : World) (hr : right n = true) (ho : opensB n = false) :
    Calls Tryz.prog 99 #[.agg (nc n), .slice A l.length c] w fun e w' => e = .returned (.tuple #[.slice none 0 0, .int .i64 1]) ∧ Below w.heap.size w w' := by
  have HR := Lib.hid hr
  have HO := Lib.hid ho
  clear hr ho
  generalize l.length = len at *
  go_enter Tryz.func99, Tryz.ntmps99
  have hn1 : NodeAt (w.alloc (.cells (nc n) 101)) w.heap.size 0 n := Blk.node (Blk.new' rfl)
  have hld1 := run_ldN hn1
  go_wp2_with fail
  refine (good_any n _).mono ?_
  rintro e w2 ⟨rfl, hb2⟩
  have hl2 : Below w.heap.size w w2 := andThen (andAlloc (Below.refl _ _) _) hb2
  have hn2' := hn1.below hb2 hn1.lt
  have hc2 : w2.cell? ⟨w.heap.size, 0, none⟩ = some (.int .i64 n.kind) := hn2' 0 _ rfl
  have hz2 := hn2'.lt
  rw [HR.out]
  have hld2 : (ldN ⟨w.heap.size, 0, none⟩).run Tryz.prog w2 = .ok (.agg (nc n)) w2 := run_ldN hn2'
  have hld3 : ∀ o : Obj, (ldN ⟨w.heap.size, 0, none⟩).run Tryz.prog (w2.alloc o) = .ok (.agg (nc n)) (w2.alloc o) := fun o => run_ldN (hn2'.alloc o)
  clear hb2 hn1 hld1
  go_wp2_with (first
    | (go_at_call 91; (with_reducible refine (ropens_any _ _).mono ?_); rintro e w' ⟨rfl, rfl⟩; simp only [HO.out]))
  go_ret2
  exact ⟨rfl, andAlloc hl2 _⟩
set_option maxHeartbeats 2000000 in
set_option maxRecDepth 100000 in
theorem rwrap_d (n : Nd) (A : Option Addr) (l : List Nd) (c : Nat) (w : World) (hr : right n = true) (ho : opensB n = true) (h10 : n.kind = 10) :
    Calls Tryz.prog 99 #[.agg (nc n), .slice A l.length c] w fun e w' => e = .returned (.tuple #[.slice none 0 0, .int .i64 1]) ∧ Below w.heap.size w w' := by
  have HR := Lib.hid hr
  have HO := Lib.hid ho
  have e10 : (n.kind == 10) = true := by simp [h10]
  clear hr ho h10
  generalize l.length = len at *
  go_enter Tryz.func99, Tryz.ntmps99
  have hn1 : NodeAt (w.alloc (.cells (nc n) 101)) w.heap.size 0 n := Blk.node (Blk.new' rfl)
  have hld1 := run_ldN hn1
  go_wp2_with fail
  refine (good_any n _).mono ?_
  rintro e w2 ⟨rfl, hb2⟩
  have hl2 : Below w.heap.size w w2 := andThen (andAlloc (Below.refl _ _) _) hb2
  have hn2' := hn1.below hb2 hn1.lt
  have hc2 : w2.cell? ⟨w.heap.size, 0, none⟩ = some (.int .i64 n.kind) := hn2' 0 _ rfl
  have hz2 := hn2'.lt
  rw [HR.out]
  have hld2 : (ldN ⟨w.heap.size, 0, none⟩).run Tryz.prog w2 = .ok (.agg (nc n)) w2 := run_ldN hn2'
  have hld3 : ∀ o : Obj, (ldN ⟨w.heap.size, 0, none⟩).run Tryz.prog (w2.alloc o) = .ok (.agg (nc n)) (w2.alloc o) := fun o => run_ldN (hn2'.alloc o)
  clear hb2 hn1 hld1
  go_wp2_with (first
    | (go_at_call 91; (with_reducible refine (ropens_any _ _).mono ?_); rintro e w' ⟨rfl, rfl⟩; simp only [HO.out]))
  go_ret2
  exact ⟨rfl, andAlloc hl2 _⟩
set_option maxHeartbeats 2000000 in
set_option maxRecDepth 100000 in
theorem rwrap_c (n : Nd) (A : Option Addr) (l : List Nd) (c : Nat) (w : World) (hl : l.length ≤ 9223372036854775806) (hseg : Seg w w.heap.size A (l.flatMap ncs)) (hr : right n = true) (ho : opensB n = true) (h10 : ¬ n.kind = 10) (hc : ¬ chk l = 0) :
    Calls Tryz.prog 99 #[.agg (nc n), .slice A l.length c] w fun e w' => e = .returned (.tuple #[.slice none 0 0, .int .i64 (chk l)]) ∧ Below w.heap.size w w' := by
  have e10 : (n.kind == 10) = false := by simp [h10]
  have HO := Lib.hid ho
  have HR := Lib.hid hr
  have HC := Lib.hid fun w1 (h : Below w.heap.size w w1) => rcheckl_any A l c w1 (by omega) (Seg.belowW hseg h)
  have e0 : (chk l != 0) = true := by simp [hc]
  clear hc ho hr hseg h10
  generalize chk l = q0 at *
  generalize l.length = len at *
  go_enter Tryz.func99, Tryz.ntmps99
  have hn1 : NodeAt (w.alloc (.cells (nc n) 101)) w.heap.size 0 n := Blk.node (Blk.new' rfl)
  have hld1 := run_ldN hn1
  go_wp2_with fail
  refine (good_any n _).mono ?_
  rintro e w2 ⟨rfl, hb2⟩
  have hl2 : Below w.heap.size w w2 := andThen (andAlloc (Below.refl _ _) _) hb2
  have hn2' := hn1.below hb2 hn1.lt
  have hc2 : w2.cell? ⟨w.heap.size, 0, none⟩ = some (.int .i64 n.kind) := hn2' 0 _ rfl
  have hz2 := hn2'.lt
  rw [HR.out]
  have hld2 : (ldN ⟨w.heap.size, 0, none⟩).run Tryz.prog w2 = .ok (.agg (nc n)) w2 := run_ldN hn2'
  have hld3 : ∀ o : Obj, (ldN ⟨w.heap.size, 0, none⟩).run Tryz.prog (w2.alloc o) = .ok (.agg (nc n)) (w2.alloc o) := fun o => run_ldN (hn2'.alloc o)
  clear hb2 hn1 hld1
  go_wp2_with (first
    | (go_at_call 91; (with_reducible refine (ropens_any _ _).mono ?_); rintro e w' ⟨rfl, rfl⟩; simp only [HO.out]))
  have hl3 := andAlloc hl2 (.cells (nc n) 101)
  have hn3 := hn2'.alloc (.cells (nc n) 101)
  refine (HC.out _ hl3).mono ?_
  rintro e w3 ⟨rfl, hb3⟩
  have HL3 := Lib.hid (andThen hl3 hb3)
  clear hl2 hn2' hc2 hz2 hld2 hld3 hl3 hn3 hb3 HC
  go_wp2_with fail
  go_ret2
  exact ⟨rfl, HL3.out⟩
set_option maxHeartbeats 2000000 in
set_option maxRecDepth 100000 in
theorem rwrap_w (n : Nd) (A : Option Addr) (l : List Nd) (c : Nat) (w : World) (hseg0 : Seg w w.heap.size A (l.flatMap ncs)) (hA : A = none → c = 0) (hr : right n = true) (ho : opensB n = true) (h10 : ¬ n.kind = 10) (hc : chk l = 0) (hw : ¬ chk (wrapL n l) = 0) :
    Calls Tryz.prog 99 #[.agg (nc n), .slice A l.length c] w fun e w' => e = .returned (.tuple #[.slice none 0 0, .int .i64 (chk (wrapL n l))]) ∧ Below w.heap.size w w' := by
  have hl := (chk_run hc).1
  have e10 : (n.kind == 10) = false := by simp [h10]
  have HO := Lib.hid ho
  have HR := Lib.hid hr
  have HC := Lib.hid fun w1 (h : Below w.heap.size w w1) => rcheckl_any A l c w1 (by omega) (Seg.belowW hseg0 h)
  have HE := Lib.hid hc
  have HS := Lib.hid hseg0
  have HA := Lib.hid hA
  have e0 : (chk (wrapL n l) != 0) = true := by simp [hw]
  generalize hqw : chk (wrapL n l) = q0 at *
  have HQW := Lib.hid hqw
  rw [HE.out] at HC
  clear hc ho hr hseg0 hA hw h10 hqw
  go_enter Tryz.func99, Tryz.ntmps99
  have hn1 : NodeAt (w.alloc (.cells (nc n) 101)) w.heap.size 0 n := Blk.node (Blk.new' rfl)
  have hld1 := run_ldN hn1
  go_wp2_with fail
  refine (good_any n _).mono ?_
  rintro e w2 ⟨rfl, hb2⟩
  have hl2 : Below w.heap.size w w2 := andThen (andAlloc (Below.refl _ _) _) hb2
  have hn2' := hn1.below hb2 hn1.lt
  have hc2 : w2.cell? ⟨w.heap.size, 0, none⟩ = some (.int .i64 n.kind) := hn2' 0 _ rfl
  have hz2 := hn2'.lt
  rw [HR.out]
  have hld2 : (ldN ⟨w.heap.size, 0, none⟩).run Tryz.prog w2 = .ok (.agg (nc n)) w2 := run_ldN hn2'
  have hld3 : ∀ o : Obj, (ldN ⟨w.heap.size, 0, none⟩).run Tryz.prog (w2.alloc o) = .ok (.agg (nc n)) (w2.alloc o) := fun o => run_ldN (hn2'.alloc o)
  clear hb2 hn1 hld1
  go_wp2_with (first
    | (go_at_call 91; (with_reducible refine (ropens_any _ _).mono ?_); rintro e w' ⟨rfl, rfl⟩; simp only [HO.out]))
  have hl3 := andAlloc hl2 (.cells (nc n) 101)
  have hn3 := hn2'.alloc (.cells (nc n) 101)
  refine (HC.out _ hl3).mono ?_
  rintro e w3 ⟨rfl, hb3⟩
  have HL3 := Lib.hid (andThen hl3 hb3)
  have hn4 := hn3.below hb3 hn3.lt
  have hld4 : (ldN ⟨w.heap.size, 0, none⟩).run Tryz.prog w3 = .ok (.agg (nc n)) w3 := run_ldN hn4
  have hb6 := run_bldN 6
  have HSR := Lib.hid (fun (W : World) (h : Below w.heap.size w W) => Seg.below HS.out h)
  have HO1 := Lib.hid (own_one w3 n)
  have HLA := Lib.hid (andAlloc HL3.out (.cells (nc n) 101))
  clear hl2 hn2' hc2 hz2 hld2 hld3 hl3 hn3 hb3 hn4 HC
  go_wp2_with (first
    | (refine wpList_ex (o := ⟨some 27, _, _, _, _, _⟩) (v := .slice (some ⟨w3.heap.size, 0, none⟩) 1 1) (w' := w3.alloc (.cells (nc n) 101)) rfl (by kernel_rfl) ?_)
    | (at_builtin; refine wpList_append_seg rfl (.tmp 27) (.tmp 28) rfl w3.heap.size ?_ _ 1 _ rfl HO1.out _ A c _ l rfl rfl (HSR.out _ HLA.out) HA.out ?_ ?_; simp; omega; intro v1 W1 hown1 hg1; have hlw1 : Below w.heap.size w W1 := below_grown (Nat.le_refl _) HLA.out hg1 (fun g hg => by have hh := HL3.out.size; have hg' : some w3.heap.size = some g := hg; injection hg' with hg'; omega))
    | (refine wpList_build_eq (o := ⟨some 31, _, _, _, _, _⟩) rfl _ _ rfl (nc (nz 6)) (by kernel_rfl) ?_)
    | (refine wpList_ex (o := ⟨some 32, _, _, _, _, _⟩) (v := .slice (some ⟨W1.heap.size, 0, none⟩) 1 1) (w' := W1.alloc (.cells (nc (nz 6)) 101)) rfl (by kernel_rfl) ?_)
    | (at_builtin; refine wpList_push rfl (.tmp 30) (.tmp 32) 39 rfl w3.heap.size 101 _ 19 160 Tryz.underlying39 node_row rfl (by decide) (by decide) _ _ _ rfl hown1 ?_ _ rfl rfl rfl rfl ?_ ?_; (have hh := hg1.size; simp at hh; omega); omega; intro v2 W2 hown2 hg2 hnn2)
    | fail)
  have hg2' : (W1.alloc (.cells (nc (nz 6)) 101)).grownBy W2 v1.ownBlock := hg2
  clear hg2 hnn2
  have hlw2 : Below w.heap.size w W2 := below_grown (Nat.le_refl _) (andAlloc hlw1 _) hg2' (fun g hg => by
    have h1 := hown1.lt g hg
    have h2 := HL3.out.size
    omega)
  have hfl : (wrapL n l).flatMap ncs = ncs n ++ l.flatMap ncs ++ (nc (nz 6)).toList := by
    show _ = ncs n ++ l.flatMap ncs ++ ncs (nz 6)
    simp [wrapL, List.flatMap_append]
  have hln : 1 + l.length + 1 = (wrapL n l).length := by
    simp [wrapL]
    omega
  rw [← hfl, hln] at hown2
  have HOW := Lib.hid (own_base hown2 (show w.heap.size ≤ w3.heap.size from HL3.out.size))
  obtain ⟨A2, c2, rfl, hc2, hm2, hs2⟩ := Seg.of_own hown2
  have hch := rcheckl_any A2 (wrapL n l) c2 W2 (by rw [← hln]; omega) hs2
  rw [HQW.out] at hch
  have HLW2 := Lib.hid hlw2
  clear hg2' hown2 hown1 hg1 hlw1 hlw2 hfl hs2 hm2 HSR HO1 HLA hld4 hb6
  generalize hwl : (wrapL n l).length = wl at *
  have HWL := Lib.hid hwl
  clear hwl
  refine hch.mono ?_
  rintro e w5 ⟨rfl, hb5⟩
  have HLF := Lib.hid (andThen HLW2.out hb5)
  clear hch hb5 HOW HLW2
  go_wp2_with fail
  go_ret2
  exact ⟨rfl, HLF.out⟩
set_option maxHeartbeats 2000000 in
set_option maxRecDepth 100000 in
theorem rwrap_ok (n : Nd) (A : Option Addr) (l : List Nd) (c : Nat) (w : World) (hseg0 : Seg w w.heap.size A (l.flatMap ncs)) (hA : A = none → c = 0) (hr : right n = true) (ho : opensB n = true) (h10 : ¬ n.kind = 10) (hc : chk l = 0) (hw : chk (wrapL n l) = 0) :
    Calls Tryz.prog 99 #[.agg (nc n), .slice A l.length c] w (MadeNE w (wrapL n l)) := by
  have hl := (chk_run hc).1
  have e10 : (n.kind == 10) = false := by simp [h10]
  have HO := Lib.hid ho
  have HR := Lib.hid hr
  have HC := Lib.hid fun w1 (h : Below w.heap.size w w1) => rcheckl_any A l c w1 (by omega) (Seg.belowW hseg0 h)
  have HE := Lib.hid hc
  have HS := Lib.hid hseg0
  have HA := Lib.hid hA
  have HW := Lib.hid hw
  rw [HE.out] at HC
  clear hc ho hr hseg0 hA hw h10
  go_enter Tryz.func99, Tryz.ntmps99
  have hn1 : NodeAt (w.alloc (.cells (nc n) 101)) w.heap.size 0 n := Blk.node (Blk.new' rfl)
  have hld1 := run_ldN hn1
  go_wp2_with fail
  refine (good_any n _).mono ?_
  rintro e w2 ⟨rfl, hb2⟩
  have hl2 : Below w.heap.size w w2 := andThen (andAlloc (Below.refl _ _) _) hb2
  have hn2' := hn1.below hb2 hn1.lt
  have hc2 : w2.cell? ⟨w.heap.size, 0, none⟩ = some (.int .i64 n.kind) := hn2' 0 _ rfl
  have hz2 := hn2'.lt
  rw [HR.out]
  have hld2 : (ldN ⟨w.heap.size, 0, none⟩).run Tryz.prog w2 = .ok (.agg (nc n)) w2 := run_ldN hn2'
  have hld3 : ∀ o : Obj, (ldN ⟨w.heap.size, 0, none⟩).run Tryz.prog (w2.alloc o) = .ok (.agg (nc n)) (w2.alloc o) := fun o => run_ldN (hn2'.alloc o)
  clear hb2 hn1 hld1
  go_wp2_with (first
    | (go_at_call 91; (with_reducible refine (ropens_any _ _).mono ?_); rintro e w' ⟨rfl, rfl⟩; simp only [HO.out]))
  have hl3 := andAlloc hl2 (.cells (nc n) 101)
  have hn3 := hn2'.alloc (.cells (nc n) 101)
  refine (HC.out _ hl3).mono ?_
  rintro e w3 ⟨rfl, hb3⟩
  have HL3 := Lib.hid (andThen hl3 hb3)
  have hn4 := hn3.below hb3 hn3.lt
  have hld4 : (ldN ⟨w.heap.size, 0, none⟩).run Tryz.prog w3 = .ok (.agg (nc n)) w3 := run_ldN hn4
  have hb6 := run_bldN 6
  have HSR := Lib.hid (fun (W : World) (h : Below w.heap.size w W) => Seg.below HS.out h)
  have HO1 := Lib.hid (own_one w3 n)
  have HLA := Lib.hid (andAlloc HL3.out (.cells (nc n) 101))
  clear hl2 hn2' hc2 hz2 hld2 hld3 hl3 hn3 hb3 hn4 HC
  go_wp2_with (first
    | (refine wpList_ex (o := ⟨some 27, _, _, _, _, _⟩) (v := .slice (some ⟨w3.heap.size, 0, none⟩) 1 1) (w' := w3.alloc (.cells (nc n) 101)) rfl (by kernel_rfl) ?_)
    | (at_builtin; refine wpList_append_seg rfl (.tmp 27) (.tmp 28) rfl w3.heap.size ?_ _ 1 _ rfl HO1.out _ A c _ l rfl rfl (HSR.out _ HLA.out) HA.out ?_ ?_; simp; omega; intro v1 W1 hown1 hg1; have hlw1 : Below w.heap.size w W1 := below_grown (Nat.le_refl _) HLA.out hg1 (fun g hg => by have hh := HL3.out.size; have hg' : some w3.heap.size = some g := hg; injection hg' with hg'; omega))
    | (refine wpList_build_eq (o := ⟨some 31, _, _, _, _, _⟩) rfl _ _ rfl (nc (nz 6)) (by kernel_rfl) ?_)
    | (refine wpList_ex (o := ⟨some 32, _, _, _, _, _⟩) (v := .slice (some ⟨W1.heap.size, 0, none⟩) 1 1) (w' := W1.alloc (.cells (nc (nz 6)) 101)) rfl (by kernel_rfl) ?_)
    | (at_builtin; refine wpList_push rfl (.tmp 30) (.tmp 32) 39 rfl w3.heap.size 101 _ 19 160 Tryz.underlying39 node_row rfl (by decide) (by decide) _ _ _ rfl hown1 ?_ _ rfl rfl rfl rfl ?_ ?_; (have hh := hg1.size; simp at hh; omega); omega; intro v2 W2 hown2 hg2 hnn2)
    | fail)
  have hg2' : (W1.alloc (.cells (nc (nz 6)) 101)).grownBy W2 v1.ownBlock := hg2
  clear hg2 hnn2
  have hlw2 : Below w.heap.size w W2 := below_grown (Nat.le_refl _) (andAlloc hlw1 _) hg2' (fun g hg => by
    have h1 := hown1.lt g hg
    have h2 := HL3.out.size
    omega)
  have hfl : (wrapL n l).flatMap ncs = ncs n ++ l.flatMap ncs ++ (nc (nz 6)).toList := by
    show _ = ncs n ++ l.flatMap ncs ++ ncs (nz 6)
    simp [wrapL, List.flatMap_append]
  have hln : 1 + l.length + 1 = (wrapL n l).length := by
    simp [wrapL]
    omega
  rw [← hfl, hln] at hown2
  have HOW := Lib.hid (own_base hown2 (show w.heap.size ≤ w3.heap.size from HL3.out.size))
  obtain ⟨A2, c2, rfl, hc2, hm2, hs2⟩ := Seg.of_own hown2
  have hch := rcheckl_any A2 (wrapL n l) c2 W2 (by rw [← hln]; omega) hs2
  rw [HW.out] at hch
  have HLW2 := Lib.hid hlw2
  clear hg2' hown2 hown1 hg1 hlw1 hlw2 hfl hs2 hm2 HSR HO1 HLA hld4 hb6
  generalize hwl : (wrapL n l).length = wl at *
  have HWL := Lib.hid hwl
  clear hwl
  refine hch.mono ?_
  rintro e w5 ⟨rfl, hb5⟩
  have HF := Lib.hid (own_below HOW.out hb5)
  have HLF := Lib.hid (andThen HLW2.out hb5)
  clear hch hb5 HOW HLW2
  go_wp2_with fail
  go_ret2
  exact ⟨.slice A2 wl c2, rfl, by rw [HWL.out]; exact HF.out, HLF.out⟩
end Go.Proofs.YtoboecenlangmaaGreat.No
end
section
namespace Go.Proofs.YtoboecenlangmaaGreat.Pk
open Go.ChangeShapes Go.WideShapes Go.ChangeAt Go.RowKit
open Me Np No
set_option linter.unusedVariables false
set_option linter.unusedSimpArgs false

/-- The document's measures are the same. -/
structure MsrR (l : List Nd) (down : Bool) (x a b c d p q r s e1 h v e2 : Int) : Prop where
  tot : ∀ (A : Option Addr) (k : Nat) (w : World), l.length ≤ k → Seg w w.heap.size A (l.flatMap ncs) → Calls Tryz.prog 50 #[.slice A l.length k, .bool down] w fun e w' => e = .returned (.tuple #[.agg #[.int .i64 x, .int .i64 a, .int .i64 b, .int .i64 c, .int .i64 d, .int .i64 p, .int .i64 q, .int .i64 r, .int .i64 s], .int .i64 e1]) ∧ Below w.heap.size w w'
  ext : ∀ (A : Option Addr) (k : Nat) (w : World), l.length ≤ k → Seg w w.heap.size A (l.flatMap ncs) → Calls Tryz.prog 51 #[.slice A l.length k, .bool down] w fun e w' => e = .returned (.tuple #[.int .i64 h, .int .i64 v, .int .i64 e2]) ∧ Below w.heap.size w w'
theorem msr_case (l : List Nd) (down : Bool) (hl : l.length ≤ 879609302220) : ∃ x a b c d p q r s e1 h v e2, Msr l down x a b c d p q r s e1 h v e2 ∧ MsrR l down x a b c d p q r s e1 h v e2 := by
  by_cases hc : chk l = 0
  · obtain ⟨xs, hx⟩ := its_of_chk hc
    have hT := totR_len l down xs
    have hB := totD_tb down hc hx
    obtain ⟨⟨x, st, sh⟩, hTe⟩ : ∃ T, totR l down xs = T := ⟨_, rfl⟩
    rw [hTe] at hT
    match st, sh, hT.1, hT.2 with
    | [a, b, c, d], [p, q, r, s], _, _ =>
    have ht := fun A k w h hs => totals_any A l k xs down w hc h hs hx
    have hr := fun A k w h hs => rtotals_good A l k xs down w hc h hs hx
    simp only [hTe] at ht hr
    obtain ⟨ext, hext⟩ : ∃ E, extD l down xs = E := ⟨_, rfl⟩
    have hu := fun A k w h hs => extent_good A l k xs down w hc h hs hx
    have hv := fun A k w h hs => rextent_good A l k xs down w hc h hs hx
    simp only [hext] at hu hv
    refine ⟨x, a, b, c, d, p, q, r, s, _, _, _, _, ⟨ht, hu, ?_, ?_, ?_, ?_⟩, ⟨hr, hv⟩⟩
    · intro h0
      have hd : dimB (totD l down xs).nat = true := by
        by_cases hd : dimB (totD l down xs).nat = true
        · exact hd
        · rw [if_neg hd] at h0; cases h0
      have : totR l down xs = totD l down xs := if_pos hd
      rw [hTe] at this
      rw [← this] at hd
      exact hd
    · intro h0
      have hd : dimB (totD l down xs).nat = true := by
        by_cases hd : dimB (totD l down xs).nat = true
        · exact hd
        · rw [if_neg hd] at h0; cases h0
      have he : totR l down xs = totD l down xs := if_pos hd
      rw [hTe] at he
      rw [← he] at hB
      exact ⟨near_of (hB.st 0), near_of (hB.st 1), near_of (hB.st 2), near_of (hB.st 3), near_of (hB.sh 0), near_of (hB.sh 1), near_of (hB.sh 2), near_of (hB.sh 3)⟩
    · intro _
      split
      · exact .inl rfl
      · exact .inr rfl
    · intro h0
      split at h0
      · rename_i h1
        rw [if_pos h1, if_pos h1]
        simp only [Bool.and_eq_true] at h1
        exact h1
      · cases h0
  · refine ⟨0, 0, 0, 0, 0, 0, 0, 0, 0, chk l, 0, 0, chk l, ⟨fun A k w h hs => totals_bad A l k down w (by omega) hs hc, fun A k w h hs => extent_bad A l k down w (by omega) hs hc, fun h => absurd h hc, fun h => absurd h hc, fun h => absurd h hc, fun h => absurd h hc⟩, ⟨fun A k w h hs => rtotals_bad A l k down w (by omega) hs hc, fun A k w h hs => rextent_bad A l k down w (by omega) hs hc⟩⟩
end Go.Proofs.YtoboecenlangmaaGreat.Pk
end
section
namespace Go.Proofs.YtoboecenlangmaaGreat.Gl
open Go.ChangeShapes Go.WideShapes Go.ChangeAt Go.RowKit

theorem within_any (x : Int) (w : World) :
    Calls Tryz.prog 163 #[.int .i64 x] w fun e w' => e = .returned (.bool (nearB x)) ∧ w = w' := by
  by_cases h0 : -70368744177664 ≤ x
  · by_cases h1 : x ≤ 70368744177664
    · go_enter Tryz.func163, Tryz.ntmps163
      go_wp2
      go_ret
      exact ⟨ret_bool (nearB_yes h0 h1).symm, rfl⟩
    · go_enter Tryz.func163, Tryz.ntmps163
      go_wp2
      go_ret
      exact ⟨ret_bool (nearB_no (by omega)).symm, rfl⟩
  · go_enter Tryz.func163, Tryz.ntmps163
    go_wp2
    go_ret
    exact ⟨ret_bool (nearB_no (by omega)).symm, rfl⟩
end Go.Proofs.YtoboecenlangmaaGreat.Gl
end
section
namespace Go.Proofs.YtoboecenlangmaaGreat.Gl
open Go.ChangeShapes Go.WideShapes Go.ChangeAt Go.RowKit
open Me
set_option linter.unusedVariables false


theorem ref_bad0 (n a b c d p q r s ex : Int) (w : World) (e0 : nearB ex = false) : Calls Tryz.prog 98 #[.agg #[.int .i64 n, .int .i64 a, .int .i64 b, .int .i64 c, .int .i64 d, .int .i64 p, .int .i64 q, .int .i64 r, .int .i64 s], .int .i64 ex] w fun e w' => e = .returned (.tuple #[.int .i64 0, .int .i64 0, .int .i64 0, .int .i64 0, .int .i64 11]) ∧ Below w.heap.size w w' := by
  go_enter Tryz.func98, Tryz.ntmps98
  go_wp2_with (go_at_call 163; refine (within_any _ _).mono ?_; rintro e w' ⟨rfl, rfl⟩)
  refine wp_loop_rounds 5 ?_
  repeat any_goals (rw [rounds_succ]; go_wp2_with (go_at_call 163; refine (within_any _ _).mono ?_; rintro e w' ⟨rfl, rfl⟩))
  refine bodyPost_ret (v := .tuple #[.int .i64 (0), .int .i64 (0), .int .i64 (0), .int .i64 (0), .int .i64 (11)]) (by simp [results, Tryz.results98, go_sem]) rfl ⟨rfl, (by repeat (first | exact Below.refl _ _ | refine Below.drew ?_ | refine below_drewN ?_ _ | refine Below.alloc ?_ (by first | exact Nat.le_refl _ | (simp; done) | (simp; omega)) _ | refine Below.setCell ?_ (by first | exact Nat.le_refl _ | (simp; done) | (simp; omega)) _))⟩

theorem ref_bad1 (n a b c d p q r s ex : Int) (w : World) (e0 : nearB ex = true) (e1 : nearB a = false) : Calls Tryz.prog 98 #[.agg #[.int .i64 n, .int .i64 a, .int .i64 b, .int .i64 c, .int .i64 d, .int .i64 p, .int .i64 q, .int .i64 r, .int .i64 s], .int .i64 ex] w fun e w' => e = .returned (.tuple #[.int .i64 0, .int .i64 0, .int .i64 0, .int .i64 0, .int .i64 11]) ∧ Below w.heap.size w w' := by
  go_enter Tryz.func98, Tryz.ntmps98
  go_wp2_with (go_at_call 163; refine (within_any _ _).mono ?_; rintro e w' ⟨rfl, rfl⟩)
  refine wp_loop_rounds 5 ?_
  repeat any_goals (rw [rounds_succ]; go_wp2_with (go_at_call 163; refine (within_any _ _).mono ?_; rintro e w' ⟨rfl, rfl⟩))
  refine bodyPost_ret (v := .tuple #[.int .i64 (0), .int .i64 (0), .int .i64 (0), .int .i64 (0), .int .i64 (11)]) (by simp [results, Tryz.results98, go_sem]) rfl ⟨rfl, (by repeat (first | exact Below.refl _ _ | refine Below.drew ?_ | refine below_drewN ?_ _ | refine Below.alloc ?_ (by first | exact Nat.le_refl _ | (simp; done) | (simp; omega)) _ | refine Below.setCell ?_ (by first | exact Nat.le_refl _ | (simp; done) | (simp; omega)) _))⟩

theorem ref_bad2 (n a b c d p q r s ex : Int) (w : World) (e0 : nearB ex = true) (e1 : nearB a = true) (e2 : nearB p = false) : Calls Tryz.prog 98 #[.agg #[.int .i64 n, .int .i64 a, .int .i64 b, .int .i64 c, .int .i64 d, .int .i64 p, .int .i64 q, .int .i64 r, .int .i64 s], .int .i64 ex] w fun e w' => e = .returned (.tuple #[.int .i64 0, .int .i64 0, .int .i64 0, .int .i64 0, .int .i64 11]) ∧ Below w.heap.size w w' := by
  go_enter Tryz.func98, Tryz.ntmps98
  go_wp2_with (go_at_call 163; refine (within_any _ _).mono ?_; rintro e w' ⟨rfl, rfl⟩)
  refine wp_loop_rounds 5 ?_
  repeat any_goals (rw [rounds_succ]; go_wp2_with (go_at_call 163; refine (within_any _ _).mono ?_; rintro e w' ⟨rfl, rfl⟩))
  refine bodyPost_ret (v := .tuple #[.int .i64 (0), .int .i64 (0), .int .i64 (0), .int .i64 (0), .int .i64 (11)]) (by simp [results, Tryz.results98, go_sem]) rfl ⟨rfl, (by repeat (first | exact Below.refl _ _ | refine Below.drew ?_ | refine below_drewN ?_ _ | refine Below.alloc ?_ (by first | exact Nat.le_refl _ | (simp; done) | (simp; omega)) _ | refine Below.setCell ?_ (by first | exact Nat.le_refl _ | (simp; done) | (simp; omega)) _))⟩

theorem ref_bad3 (n a b c d p q r s ex : Int) (w : World) (e0 : nearB ex = true) (e1 : nearB a = true) (e2 : nearB p = true) (e3 : nearB b = false) : Calls Tryz.prog 98 #[.agg #[.int .i64 n, .int .i64 a, .int .i64 b, .int .i64 c, .int .i64 d, .int .i64 p, .int .i64 q, .int .i64 r, .int .i64 s], .int .i64 ex] w fun e w' => e = .returned (.tuple #[.int .i64 0, .int .i64 0, .int .i64 0, .int .i64 0, .int .i64 11]) ∧ Below w.heap.size w w' := by
  go_enter Tryz.func98, Tryz.ntmps98
  go_wp2_with (go_at_call 163; refine (within_any _ _).mono ?_; rintro e w' ⟨rfl, rfl⟩)
  refine wp_loop_rounds 5 ?_
  repeat any_goals (rw [rounds_succ]; go_wp2_with (go_at_call 163; refine (within_any _ _).mono ?_; rintro e w' ⟨rfl, rfl⟩))
  refine bodyPost_ret (v := .tuple #[.int .i64 (0), .int .i64 (0), .int .i64 (0), .int .i64 (0), .int .i64 (11)]) (by simp [results, Tryz.results98, go_sem]) rfl ⟨rfl, (by repeat (first | exact Below.refl _ _ | refine Below.drew ?_ | refine below_drewN ?_ _ | refine Below.alloc ?_ (by first | exact Nat.le_refl _ | (simp; done) | (simp; omega)) _ | refine Below.setCell ?_ (by first | exact Nat.le_refl _ | (simp; done) | (simp; omega)) _))⟩

theorem ref_bad4 (n a b c d p q r s ex : Int) (w : World) (e0 : nearB ex = true) (e1 : nearB a = true) (e2 : nearB p = true) (e3 : nearB b = true) (e4 : nearB q = false) : Calls Tryz.prog 98 #[.agg #[.int .i64 n, .int .i64 a, .int .i64 b, .int .i64 c, .int .i64 d, .int .i64 p, .int .i64 q, .int .i64 r, .int .i64 s], .int .i64 ex] w fun e w' => e = .returned (.tuple #[.int .i64 0, .int .i64 0, .int .i64 0, .int .i64 0, .int .i64 11]) ∧ Below w.heap.size w w' := by
  go_enter Tryz.func98, Tryz.ntmps98
  go_wp2_with (go_at_call 163; refine (within_any _ _).mono ?_; rintro e w' ⟨rfl, rfl⟩)
  refine wp_loop_rounds 5 ?_
  repeat any_goals (rw [rounds_succ]; go_wp2_with (go_at_call 163; refine (within_any _ _).mono ?_; rintro e w' ⟨rfl, rfl⟩))
  refine bodyPost_ret (v := .tuple #[.int .i64 (0), .int .i64 (0), .int .i64 (0), .int .i64 (0), .int .i64 (11)]) (by simp [results, Tryz.results98, go_sem]) rfl ⟨rfl, (by repeat (first | exact Below.refl _ _ | refine Below.drew ?_ | refine below_drewN ?_ _ | refine Below.alloc ?_ (by first | exact Nat.le_refl _ | (simp; done) | (simp; omega)) _ | refine Below.setCell ?_ (by first | exact Nat.le_refl _ | (simp; done) | (simp; omega)) _))⟩

theorem ref_bad5 (n a b c d p q r s ex : Int) (w : World) (e0 : nearB ex = true) (e1 : nearB a = true) (e2 : nearB p = true) (e3 : nearB b = true) (e4 : nearB q = true) (e5 : nearB c = false) : Calls Tryz.prog 98 #[.agg #[.int .i64 n, .int .i64 a, .int .i64 b, .int .i64 c, .int .i64 d, .int .i64 p, .int .i64 q, .int .i64 r, .int .i64 s], .int .i64 ex] w fun e w' => e = .returned (.tuple #[.int .i64 0, .int .i64 0, .int .i64 0, .int .i64 0, .int .i64 11]) ∧ Below w.heap.size w w' := by
  go_enter Tryz.func98, Tryz.ntmps98
  go_wp2_with (go_at_call 163; refine (within_any _ _).mono ?_; rintro e w' ⟨rfl, rfl⟩)
  refine wp_loop_rounds 5 ?_
  repeat any_goals (rw [rounds_succ]; go_wp2_with (go_at_call 163; refine (within_any _ _).mono ?_; rintro e w' ⟨rfl, rfl⟩))
  refine bodyPost_ret (v := .tuple #[.int .i64 (0), .int .i64 (0), .int .i64 (0), .int .i64 (0), .int .i64 (11)]) (by simp [results, Tryz.results98, go_sem]) rfl ⟨rfl, (by repeat (first | exact Below.refl _ _ | refine Below.drew ?_ | refine below_drewN ?_ _ | refine Below.alloc ?_ (by first | exact Nat.le_refl _ | (simp; done) | (simp; omega)) _ | refine Below.setCell ?_ (by first | exact Nat.le_refl _ | (simp; done) | (simp; omega)) _))⟩

theorem ref_bad6 (n a b c d p q r s ex : Int) (w : World) (e0 : nearB ex = true) (e1 : nearB a = true) (e2 : nearB p = true) (e3 : nearB b = true) (e4 : nearB q = true) (e5 : nearB c = true) (e6 : nearB r = false) : Calls Tryz.prog 98 #[.agg #[.int .i64 n, .int .i64 a, .int .i64 b, .int .i64 c, .int .i64 d, .int .i64 p, .int .i64 q, .int .i64 r, .int .i64 s], .int .i64 ex] w fun e w' => e = .returned (.tuple #[.int .i64 0, .int .i64 0, .int .i64 0, .int .i64 0, .int .i64 11]) ∧ Below w.heap.size w w' := by
  go_enter Tryz.func98, Tryz.ntmps98
  go_wp2_with (go_at_call 163; refine (within_any _ _).mono ?_; rintro e w' ⟨rfl, rfl⟩)
  refine wp_loop_rounds 5 ?_
  repeat any_goals (rw [rounds_succ]; go_wp2_with (go_at_call 163; refine (within_any _ _).mono ?_; rintro e w' ⟨rfl, rfl⟩))
  refine bodyPost_ret (v := .tuple #[.int .i64 (0), .int .i64 (0), .int .i64 (0), .int .i64 (0), .int .i64 (11)]) (by simp [results, Tryz.results98, go_sem]) rfl ⟨rfl, (by repeat (first | exact Below.refl _ _ | refine Below.drew ?_ | refine below_drewN ?_ _ | refine Below.alloc ?_ (by first | exact Nat.le_refl _ | (simp; done) | (simp; omega)) _ | refine Below.setCell ?_ (by first | exact Nat.le_refl _ | (simp; done) | (simp; omega)) _))⟩

theorem ref_bad7 (n a b c d p q r s ex : Int) (w : World) (e0 : nearB ex = true) (e1 : nearB a = true) (e2 : nearB p = true) (e3 : nearB b = true) (e4 : nearB q = true) (e5 : nearB c = true) (e6 : nearB r = true) (e7 : nearB d = false) : Calls Tryz.prog 98 #[.agg #[.int .i64 n, .int .i64 a, .int .i64 b, .int .i64 c, .int .i64 d, .int .i64 p, .int .i64 q, .int .i64 r, .int .i64 s], .int .i64 ex] w fun e w' => e = .returned (.tuple #[.int .i64 0, .int .i64 0, .int .i64 0, .int .i64 0, .int .i64 11]) ∧ Below w.heap.size w w' := by
  go_enter Tryz.func98, Tryz.ntmps98
  go_wp2_with (go_at_call 163; refine (within_any _ _).mono ?_; rintro e w' ⟨rfl, rfl⟩)
  refine wp_loop_rounds 5 ?_
  repeat any_goals (rw [rounds_succ]; go_wp2_with (go_at_call 163; refine (within_any _ _).mono ?_; rintro e w' ⟨rfl, rfl⟩))
  refine bodyPost_ret (v := .tuple #[.int .i64 (0), .int .i64 (0), .int .i64 (0), .int .i64 (0), .int .i64 (11)]) (by simp [results, Tryz.results98, go_sem]) rfl ⟨rfl, (by repeat (first | exact Below.refl _ _ | refine Below.drew ?_ | refine below_drewN ?_ _ | refine Below.alloc ?_ (by first | exact Nat.le_refl _ | (simp; done) | (simp; omega)) _ | refine Below.setCell ?_ (by first | exact Nat.le_refl _ | (simp; done) | (simp; omega)) _))⟩

theorem ref_bad8 (n a b c d p q r s ex : Int) (w : World) (e0 : nearB ex = true) (e1 : nearB a = true) (e2 : nearB p = true) (e3 : nearB b = true) (e4 : nearB q = true) (e5 : nearB c = true) (e6 : nearB r = true) (e7 : nearB d = true) (e8 : nearB s = false) : Calls Tryz.prog 98 #[.agg #[.int .i64 n, .int .i64 a, .int .i64 b, .int .i64 c, .int .i64 d, .int .i64 p, .int .i64 q, .int .i64 r, .int .i64 s], .int .i64 ex] w fun e w' => e = .returned (.tuple #[.int .i64 0, .int .i64 0, .int .i64 0, .int .i64 0, .int .i64 11]) ∧ Below w.heap.size w w' := by
  go_enter Tryz.func98, Tryz.ntmps98
  go_wp2_with (go_at_call 163; refine (within_any _ _).mono ?_; rintro e w' ⟨rfl, rfl⟩)
  refine wp_loop_rounds 5 ?_
  repeat any_goals (rw [rounds_succ]; go_wp2_with (go_at_call 163; refine (within_any _ _).mono ?_; rintro e w' ⟨rfl, rfl⟩))
  refine bodyPost_ret (v := .tuple #[.int .i64 (0), .int .i64 (0), .int .i64 (0), .int .i64 (0), .int .i64 (11)]) (by simp [results, Tryz.results98, go_sem]) rfl ⟨rfl, (by repeat (first | exact Below.refl _ _ | refine Below.drew ?_ | refine below_drewN ?_ _ | refine Below.alloc ?_ (by first | exact Nat.le_refl _ | (simp; done) | (simp; omega)) _ | refine Below.setCell ?_ (by first | exact Nat.le_refl _ | (simp; done) | (simp; omega)) _))⟩

theorem ref_zero (n a b c d p q r s : Int) (w : World) (e0 : nearB 0 = true) (e1 : nearB a = true) (e2 : nearB p = true) (e3 : nearB b = true) (e4 : nearB q = true) (e5 : nearB c = true) (e6 : nearB r = true) (e7 : nearB d = true) (e8 : nearB s = true) : Calls Tryz.prog 98 #[.agg #[.int .i64 n, .int .i64 a, .int .i64 b, .int .i64 c, .int .i64 d, .int .i64 p, .int .i64 q, .int .i64 r, .int .i64 s], .int .i64 0] w fun e w' => e = .returned (.tuple #[.int .i64 0, .int .i64 0, .int .i64 0, .int .i64 0, .int .i64 0]) ∧ Below w.heap.size w w' := by
  go_enter Tryz.func98, Tryz.ntmps98
  go_wp2_with (go_at_call 163; refine (within_any _ _).mono ?_; rintro e w' ⟨rfl, rfl⟩)
  refine wp_loop_rounds 5 ?_
  repeat any_goals (rw [rounds_succ]; go_wp2_with (go_at_call 163; refine (within_any _ _).mono ?_; rintro e w' ⟨rfl, rfl⟩))
  refine bodyPost_ret (v := .tuple #[.int .i64 (0), .int .i64 (0), .int .i64 (0), .int .i64 (0), .int .i64 (0)]) (by simp [results, Tryz.results98, go_sem]) rfl ⟨rfl, (by repeat (first | exact Below.refl _ _ | refine Below.drew ?_ | refine below_drewN ?_ _ | refine Below.alloc ?_ (by first | exact Nat.le_refl _ | (simp; done) | (simp; omega)) _ | refine Below.setCell ?_ (by first | exact Nat.le_refl _ | (simp; done) | (simp; omega)) _))⟩

theorem ref_upm (n a b c d p q r s ex : Int) (w : World) (e0 : nearB ex = true) (e1 : nearB a = true) (e2 : nearB p = true) (e3 : nearB b = true) (e4 : nearB q = true) (e5 : nearB c = true) (e6 : nearB r = true) (e7 : nearB d = true) (e8 : nearB s = true) (hx0 : -70368744177664 ≤ ex) (hx : 0 < ex) (hg : great a b c d = -1) (k3 : d ≤ 0) (k2 : c ≤ 0) (k1 : b ≤ 0) (k0 : a ≤ 0) : Calls Tryz.prog 98 #[.agg #[.int .i64 n, .int .i64 a, .int .i64 b, .int .i64 c, .int .i64 d, .int .i64 p, .int .i64 q, .int .i64 r, .int .i64 s], .int .i64 ex] w fun e w' => e = .returned (.tuple #[.int .i64 (fit a b c d p q r s ex).1, .int .i64 (fit a b c d p q r s ex).2.1, .int .i64 (fit a b c d p q r s ex).2.2.1, .int .i64 (fit a b c d p q r s ex).2.2.2, .int .i64 0]) ∧ Below w.heap.size w w' := by
  have hf : fit a b c d p q r s ex = (0, 0, 0, 0) := by simp [fit, hx, hg]
  rw [hf]
  clear hf hg
  go_enter Tryz.func98, Tryz.ntmps98
  go_wp2_with (go_at_call 163; refine (within_any _ _).mono ?_; rintro e w' ⟨rfl, rfl⟩)
  refine wp_loop_rounds 5 ?_
  repeat any_goals (rw [rounds_succ]; go_wp2_with (go_at_call 163; refine (within_any _ _).mono ?_; rintro e w' ⟨rfl, rfl⟩))
  go_rounds 4
  refine bodyPost_ret (v := .tuple #[.int .i64 (0), .int .i64 (0), .int .i64 (0), .int .i64 (0), .int .i64 (0)]) (by simp [results, Tryz.results98, go_sem]) rfl ⟨rfl, (by repeat (first | exact Below.refl _ _ | refine Below.drew ?_ | refine below_drewN ?_ _ | refine Below.alloc ?_ (by first | exact Nat.le_refl _ | (simp; done) | (simp; omega)) _ | refine Below.setCell ?_ (by first | exact Nat.le_refl _ | (simp; done) | (simp; omega)) _))⟩

theorem ref_downm (n a b c d p q r s ex : Int) (w : World) (e0 : nearB ex = true) (e1 : nearB a = true) (e2 : nearB p = true) (e3 : nearB b = true) (e4 : nearB q = true) (e5 : nearB c = true) (e6 : nearB r = true) (e7 : nearB d = true) (e8 : nearB s = true) (hx0 : -70368744177664 ≤ ex) (hx : ex < 0) (hg : great p q r s = -1) (k3 : s ≤ 0) (k2 : r ≤ 0) (k1 : q ≤ 0) (k0 : p ≤ 0) : Calls Tryz.prog 98 #[.agg #[.int .i64 n, .int .i64 a, .int .i64 b, .int .i64 c, .int .i64 d, .int .i64 p, .int .i64 q, .int .i64 r, .int .i64 s], .int .i64 ex] w fun e w' => e = .returned (.tuple #[.int .i64 (fit a b c d p q r s ex).1, .int .i64 (fit a b c d p q r s ex).2.1, .int .i64 (fit a b c d p q r s ex).2.2.1, .int .i64 (fit a b c d p q r s ex).2.2.2, .int .i64 0]) ∧ Below w.heap.size w w' := by
  have hf : fit a b c d p q r s ex = (0, 0, 0, 0) := by simp [fit, hx, hg, show ¬ 0 < ex by omega]
  rw [hf]
  clear hf hg
  go_enter Tryz.func98, Tryz.ntmps98
  go_wp2_with (go_at_call 163; refine (within_any _ _).mono ?_; rintro e w' ⟨rfl, rfl⟩)
  refine wp_loop_rounds 5 ?_
  repeat any_goals (rw [rounds_succ]; go_wp2_with (go_at_call 163; refine (within_any _ _).mono ?_; rintro e w' ⟨rfl, rfl⟩))
  go_rounds 4
  refine bodyPost_ret (v := .tuple #[.int .i64 (0), .int .i64 (0), .int .i64 (0), .int .i64 (0), .int .i64 (0)]) (by simp [results, Tryz.results98, go_sem]) rfl ⟨rfl, (by repeat (first | exact Below.refl _ _ | refine Below.drew ?_ | refine below_drewN ?_ _ | refine Below.alloc ?_ (by first | exact Nat.le_refl _ | (simp; done) | (simp; omega)) _ | refine Below.setCell ?_ (by first | exact Nat.le_refl _ | (simp; done) | (simp; omega)) _))⟩

theorem ref_up0 (n a b c d p q r s ex : Int) (w : World) (e0 : nearB ex = true) (e1 : nearB a = true) (e2 : nearB p = true) (e3 : nearB b = true) (e4 : nearB q = true) (e5 : nearB c = true) (e6 : nearB r = true) (e7 : nearB d = true) (e8 : nearB s = true) (hx0 : -70368744177664 ≤ ex) (hx : 0 < ex) (hg : great a b c d = 0) (k3 : d ≤ 0) (k2 : c ≤ 0) (k1 : b ≤ 0) (k0 : 0 < a) : Calls Tryz.prog 98 #[.agg #[.int .i64 n, .int .i64 a, .int .i64 b, .int .i64 c, .int .i64 d, .int .i64 p, .int .i64 q, .int .i64 r, .int .i64 s], .int .i64 ex] w fun e w' => e = .returned (.tuple #[.int .i64 (fit a b c d p q r s ex).1, .int .i64 (fit a b c d p q r s ex).2.1, .int .i64 (fit a b c d p q r s ex).2.2.1, .int .i64 (fit a b c d p q r s ex).2.2.2, .int .i64 0]) ∧ Below w.heap.size w w' := by
  have hf : fit a b c d p q r s ex = (1, 0, ex, a) := by simp [fit, hx, hg, pick4]
  rw [hf]
  clear hf hg
  go_enter Tryz.func98, Tryz.ntmps98
  go_wp2_with (go_at_call 163; refine (within_any _ _).mono ?_; rintro e w' ⟨rfl, rfl⟩)
  refine wp_loop_rounds 5 ?_
  repeat any_goals (rw [rounds_succ]; go_wp2_with (go_at_call 163; refine (within_any _ _).mono ?_; rintro e w' ⟨rfl, rfl⟩))
  go_rounds 4
  refine bodyPost_ret (v := .tuple #[.int .i64 (1), .int .i64 (0), .int .i64 (ex), .int .i64 (a), .int .i64 (0)]) (by simp [results, Tryz.results98, go_sem]) rfl ⟨rfl, (by repeat (first | exact Below.refl _ _ | refine Below.drew ?_ | refine below_drewN ?_ _ | refine Below.alloc ?_ (by first | exact Nat.le_refl _ | (simp; done) | (simp; omega)) _ | refine Below.setCell ?_ (by first | exact Nat.le_refl _ | (simp; done) | (simp; omega)) _))⟩

theorem ref_down0 (n a b c d p q r s ex : Int) (w : World) (e0 : nearB ex = true) (e1 : nearB a = true) (e2 : nearB p = true) (e3 : nearB b = true) (e4 : nearB q = true) (e5 : nearB c = true) (e6 : nearB r = true) (e7 : nearB d = true) (e8 : nearB s = true) (hx0 : -70368744177664 ≤ ex) (hx : ex < 0) (hg : great p q r s = 0) (k3 : s ≤ 0) (k2 : r ≤ 0) (k1 : q ≤ 0) (k0 : 0 < p) (hm : ¬ p < -ex) : Calls Tryz.prog 98 #[.agg #[.int .i64 n, .int .i64 a, .int .i64 b, .int .i64 c, .int .i64 d, .int .i64 p, .int .i64 q, .int .i64 r, .int .i64 s], .int .i64 ex] w fun e w' => e = .returned (.tuple #[.int .i64 (fit a b c d p q r s ex).1, .int .i64 (fit a b c d p q r s ex).2.1, .int .i64 (fit a b c d p q r s ex).2.2.1, .int .i64 (fit a b c d p q r s ex).2.2.2, .int .i64 0]) ∧ Below w.heap.size w w' := by
  have hf : fit a b c d p q r s ex = (2, 0, -ex, p) := by simp only [fit, hx, hg, pick4, if_neg (show ¬ 0 < ex by omega), if_true, if_neg (show ¬ (0 : Int) < 0 by omega), if_neg (show ¬ (0 : Int) = 3 by omega), if_neg (show ¬ (0 : Int) = 2 by omega), if_neg (show ¬ (0 : Int) = 1 by omega)]; rw [show min (-ex) p = -ex by omega]
  rw [hf]
  clear hf hg
  go_enter Tryz.func98, Tryz.ntmps98
  go_wp2_with (go_at_call 163; refine (within_any _ _).mono ?_; rintro e w' ⟨rfl, rfl⟩)
  refine wp_loop_rounds 5 ?_
  repeat any_goals (rw [rounds_succ]; go_wp2_with (go_at_call 163; refine (within_any _ _).mono ?_; rintro e w' ⟨rfl, rfl⟩))
  go_rounds 4
  refine bodyPost_ret (v := .tuple #[.int .i64 (2), .int .i64 (0), .int .i64 (-ex), .int .i64 (p), .int .i64 (0)]) (by simp [results, Tryz.results98, go_sem]) rfl ⟨rfl, (by repeat (first | exact Below.refl _ _ | refine Below.drew ?_ | refine below_drewN ?_ _ | refine Below.alloc ?_ (by first | exact Nat.le_refl _ | (simp; done) | (simp; omega)) _ | refine Below.setCell ?_ (by first | exact Nat.le_refl _ | (simp; done) | (simp; omega)) _))⟩

theorem ref_downm0 (n a b c d p q r s ex : Int) (w : World) (e0 : nearB ex = true) (e1 : nearB a = true) (e2 : nearB p = true) (e3 : nearB b = true) (e4 : nearB q = true) (e5 : nearB c = true) (e6 : nearB r = true) (e7 : nearB d = true) (e8 : nearB s = true) (hx0 : -70368744177664 ≤ ex) (hx : ex < 0) (hg : great p q r s = 0) (k3 : s ≤ 0) (k2 : r ≤ 0) (k1 : q ≤ 0) (k0 : 0 < p) (hm : p < -ex) : Calls Tryz.prog 98 #[.agg #[.int .i64 n, .int .i64 a, .int .i64 b, .int .i64 c, .int .i64 d, .int .i64 p, .int .i64 q, .int .i64 r, .int .i64 s], .int .i64 ex] w fun e w' => e = .returned (.tuple #[.int .i64 (fit a b c d p q r s ex).1, .int .i64 (fit a b c d p q r s ex).2.1, .int .i64 (fit a b c d p q r s ex).2.2.1, .int .i64 (fit a b c d p q r s ex).2.2.2, .int .i64 0]) ∧ Below w.heap.size w w' := by
  have hf : fit a b c d p q r s ex = (2, 0, p, p) := by simp only [fit, hx, hg, pick4, if_neg (show ¬ 0 < ex by omega), if_true, if_neg (show ¬ (0 : Int) < 0 by omega), if_neg (show ¬ (0 : Int) = 3 by omega), if_neg (show ¬ (0 : Int) = 2 by omega), if_neg (show ¬ (0 : Int) = 1 by omega)]; rw [show min (-ex) p = p by omega]
  rw [hf]
  clear hf hg
  go_enter Tryz.func98, Tryz.ntmps98
  go_wp2_with (go_at_call 163; refine (within_any _ _).mono ?_; rintro e w' ⟨rfl, rfl⟩)
  refine wp_loop_rounds 5 ?_
  repeat any_goals (rw [rounds_succ]; go_wp2_with (go_at_call 163; refine (within_any _ _).mono ?_; rintro e w' ⟨rfl, rfl⟩))
  go_rounds 4
  refine bodyPost_ret (v := .tuple #[.int .i64 (2), .int .i64 (0), .int .i64 (p), .int .i64 (p), .int .i64 (0)]) (by simp [results, Tryz.results98, go_sem]) rfl ⟨rfl, (by repeat (first | exact Below.refl _ _ | refine Below.drew ?_ | refine below_drewN ?_ _ | refine Below.alloc ?_ (by first | exact Nat.le_refl _ | (simp; done) | (simp; omega)) _ | refine Below.setCell ?_ (by first | exact Nat.le_refl _ | (simp; done) | (simp; omega)) _))⟩

theorem ref_up1 (n a b c d p q r s ex : Int) (w : World) (e0 : nearB ex = true) (e1 : nearB a = true) (e2 : nearB p = true) (e3 : nearB b = true) (e4 : nearB q = true) (e5 : nearB c = true) (e6 : nearB r = true) (e7 : nearB d = true) (e8 : nearB s = true) (hx0 : -70368744177664 ≤ ex) (hx : 0 < ex) (hg : great a b c d = 1) (k3 : d ≤ 0) (k2 : c ≤ 0) (k1 : 0 < b) : Calls Tryz.prog 98 #[.agg #[.int .i64 n, .int .i64 a, .int .i64 b, .int .i64 c, .int .i64 d, .int .i64 p, .int .i64 q, .int .i64 r, .int .i64 s], .int .i64 ex] w fun e w' => e = .returned (.tuple #[.int .i64 (fit a b c d p q r s ex).1, .int .i64 (fit a b c d p q r s ex).2.1, .int .i64 (fit a b c d p q r s ex).2.2.1, .int .i64 (fit a b c d p q r s ex).2.2.2, .int .i64 0]) ∧ Below w.heap.size w w' := by
  have hf : fit a b c d p q r s ex = (1, 1, ex, b) := by simp [fit, hx, hg, pick4]
  rw [hf]
  clear hf hg
  go_enter Tryz.func98, Tryz.ntmps98
  go_wp2_with (go_at_call 163; refine (within_any _ _).mono ?_; rintro e w' ⟨rfl, rfl⟩)
  refine wp_loop_rounds 5 ?_
  repeat any_goals (rw [rounds_succ]; go_wp2_with (go_at_call 163; refine (within_any _ _).mono ?_; rintro e w' ⟨rfl, rfl⟩))
  go_rounds 4
  refine bodyPost_ret (v := .tuple #[.int .i64 (1), .int .i64 (1), .int .i64 (ex), .int .i64 (b), .int .i64 (0)]) (by simp [results, Tryz.results98, go_sem]) rfl ⟨rfl, (by repeat (first | exact Below.refl _ _ | refine Below.drew ?_ | refine below_drewN ?_ _ | refine Below.alloc ?_ (by first | exact Nat.le_refl _ | (simp; done) | (simp; omega)) _ | refine Below.setCell ?_ (by first | exact Nat.le_refl _ | (simp; done) | (simp; omega)) _))⟩

theorem ref_down1 (n a b c d p q r s ex : Int) (w : World) (e0 : nearB ex = true) (e1 : nearB a = true) (e2 : nearB p = true) (e3 : nearB b = true) (e4 : nearB q = true) (e5 : nearB c = true) (e6 : nearB r = true) (e7 : nearB d = true) (e8 : nearB s = true) (hx0 : -70368744177664 ≤ ex) (hx : ex < 0) (hg : great p q r s = 1) (k3 : s ≤ 0) (k2 : r ≤ 0) (k1 : 0 < q) : Calls Tryz.prog 98 #[.agg #[.int .i64 n, .int .i64 a, .int .i64 b, .int .i64 c, .int .i64 d, .int .i64 p, .int .i64 q, .int .i64 r, .int .i64 s], .int .i64 ex] w fun e w' => e = .returned (.tuple #[.int .i64 (fit a b c d p q r s ex).1, .int .i64 (fit a b c d p q r s ex).2.1, .int .i64 (fit a b c d p q r s ex).2.2.1, .int .i64 (fit a b c d p q r s ex).2.2.2, .int .i64 0]) ∧ Below w.heap.size w w' := by
  have hf : fit a b c d p q r s ex = (2, 1, -ex, q) := by simp [fit, hx, hg, pick4, show ¬ 0 < ex by omega]
  rw [hf]
  clear hf hg
  go_enter Tryz.func98, Tryz.ntmps98
  go_wp2_with (go_at_call 163; refine (within_any _ _).mono ?_; rintro e w' ⟨rfl, rfl⟩)
  refine wp_loop_rounds 5 ?_
  repeat any_goals (rw [rounds_succ]; go_wp2_with (go_at_call 163; refine (within_any _ _).mono ?_; rintro e w' ⟨rfl, rfl⟩))
  go_rounds 4
  refine bodyPost_ret (v := .tuple #[.int .i64 (2), .int .i64 (1), .int .i64 (-ex), .int .i64 (q), .int .i64 (0)]) (by simp [results, Tryz.results98, go_sem]) rfl ⟨rfl, (by repeat (first | exact Below.refl _ _ | refine Below.drew ?_ | refine below_drewN ?_ _ | refine Below.alloc ?_ (by first | exact Nat.le_refl _ | (simp; done) | (simp; omega)) _ | refine Below.setCell ?_ (by first | exact Nat.le_refl _ | (simp; done) | (simp; omega)) _))⟩

theorem ref_up2 (n a b c d p q r s ex : Int) (w : World) (e0 : nearB ex = true) (e1 : nearB a = true) (e2 : nearB p = true) (e3 : nearB b = true) (e4 : nearB q = true) (e5 : nearB c = true) (e6 : nearB r = true) (e7 : nearB d = true) (e8 : nearB s = true) (hx0 : -70368744177664 ≤ ex) (hx : 0 < ex) (hg : great a b c d = 2) (k3 : d ≤ 0) (k2 : 0 < c) : Calls Tryz.prog 98 #[.agg #[.int .i64 n, .int .i64 a, .int .i64 b, .int .i64 c, .int .i64 d, .int .i64 p, .int .i64 q, .int .i64 r, .int .i64 s], .int .i64 ex] w fun e w' => e = .returned (.tuple #[.int .i64 (fit a b c d p q r s ex).1, .int .i64 (fit a b c d p q r s ex).2.1, .int .i64 (fit a b c d p q r s ex).2.2.1, .int .i64 (fit a b c d p q r s ex).2.2.2, .int .i64 0]) ∧ Below w.heap.size w w' := by
  have hf : fit a b c d p q r s ex = (1, 2, ex, c) := by simp [fit, hx, hg, pick4]
  rw [hf]
  clear hf hg
  go_enter Tryz.func98, Tryz.ntmps98
  go_wp2_with (go_at_call 163; refine (within_any _ _).mono ?_; rintro e w' ⟨rfl, rfl⟩)
  refine wp_loop_rounds 5 ?_
  repeat any_goals (rw [rounds_succ]; go_wp2_with (go_at_call 163; refine (within_any _ _).mono ?_; rintro e w' ⟨rfl, rfl⟩))
  go_rounds 4
  refine bodyPost_ret (v := .tuple #[.int .i64 (1), .int .i64 (2), .int .i64 (ex), .int .i64 (c), .int .i64 (0)]) (by simp [results, Tryz.results98, go_sem]) rfl ⟨rfl, (by repeat (first | exact Below.refl _ _ | refine Below.drew ?_ | refine below_drewN ?_ _ | refine Below.alloc ?_ (by first | exact Nat.le_refl _ | (simp; done) | (simp; omega)) _ | refine Below.setCell ?_ (by first | exact Nat.le_refl _ | (simp; done) | (simp; omega)) _))⟩

theorem ref_down2 (n a b c d p q r s ex : Int) (w : World) (e0 : nearB ex = true) (e1 : nearB a = true) (e2 : nearB p = true) (e3 : nearB b = true) (e4 : nearB q = true) (e5 : nearB c = true) (e6 : nearB r = true) (e7 : nearB d = true) (e8 : nearB s = true) (hx0 : -70368744177664 ≤ ex) (hx : ex < 0) (hg : great p q r s = 2) (k3 : s ≤ 0) (k2 : 0 < r) : Calls Tryz.prog 98 #[.agg #[.int .i64 n, .int .i64 a, .int .i64 b, .int .i64 c, .int .i64 d, .int .i64 p, .int .i64 q, .int .i64 r, .int .i64 s], .int .i64 ex] w fun e w' => e = .returned (.tuple #[.int .i64 (fit a b c d p q r s ex).1, .int .i64 (fit a b c d p q r s ex).2.1, .int .i64 (fit a b c d p q r s ex).2.2.1, .int .i64 (fit a b c d p q r s ex).2.2.2, .int .i64 0]) ∧ Below w.heap.size w w' := by
  have hf : fit a b c d p q r s ex = (2, 2, -ex, r) := by simp [fit, hx, hg, pick4, show ¬ 0 < ex by omega]
  rw [hf]
  clear hf hg
  go_enter Tryz.func98, Tryz.ntmps98
  go_wp2_with (go_at_call 163; refine (within_any _ _).mono ?_; rintro e w' ⟨rfl, rfl⟩)
  refine wp_loop_rounds 5 ?_
  repeat any_goals (rw [rounds_succ]; go_wp2_with (go_at_call 163; refine (within_any _ _).mono ?_; rintro e w' ⟨rfl, rfl⟩))
  go_rounds 4
  refine bodyPost_ret (v := .tuple #[.int .i64 (2), .int .i64 (2), .int .i64 (-ex), .int .i64 (r), .int .i64 (0)]) (by simp [results, Tryz.results98, go_sem]) rfl ⟨rfl, (by repeat (first | exact Below.refl _ _ | refine Below.drew ?_ | refine below_drewN ?_ _ | refine Below.alloc ?_ (by first | exact Nat.le_refl _ | (simp; done) | (simp; omega)) _ | refine Below.setCell ?_ (by first | exact Nat.le_refl _ | (simp; done) | (simp; omega)) _))⟩

theorem ref_up3 (n a b c d p q r s ex : Int) (w : World) (e0 : nearB ex = true) (e1 : nearB a = true) (e2 : nearB p = true) (e3 : nearB b = true) (e4 : nearB q = true) (e5 : nearB c = true) (e6 : nearB r = true) (e7 : nearB d = true) (e8 : nearB s = true) (hx0 : -70368744177664 ≤ ex) (hx : 0 < ex) (hg : great a b c d = 3) (k3 : 0 < d) : Calls Tryz.prog 98 #[.agg #[.int .i64 n, .int .i64 a, .int .i64 b, .int .i64 c, .int .i64 d, .int .i64 p, .int .i64 q, .int .i64 r, .int .i64 s], .int .i64 ex] w fun e w' => e = .returned (.tuple #[.int .i64 (fit a b c d p q r s ex).1, .int .i64 (fit a b c d p q r s ex).2.1, .int .i64 (fit a b c d p q r s ex).2.2.1, .int .i64 (fit a b c d p q r s ex).2.2.2, .int .i64 0]) ∧ Below w.heap.size w w' := by
  have hf : fit a b c d p q r s ex = (1, 3, ex, d) := by simp [fit, hx, hg, pick4]
  rw [hf]
  clear hf hg
  go_enter Tryz.func98, Tryz.ntmps98
  go_wp2_with (go_at_call 163; refine (within_any _ _).mono ?_; rintro e w' ⟨rfl, rfl⟩)
  refine wp_loop_rounds 5 ?_
  repeat any_goals (rw [rounds_succ]; go_wp2_with (go_at_call 163; refine (within_any _ _).mono ?_; rintro e w' ⟨rfl, rfl⟩))
  go_rounds 4
  refine bodyPost_ret (v := .tuple #[.int .i64 (1), .int .i64 (3), .int .i64 (ex), .int .i64 (d), .int .i64 (0)]) (by simp [results, Tryz.results98, go_sem]) rfl ⟨rfl, (by repeat (first | exact Below.refl _ _ | refine Below.drew ?_ | refine below_drewN ?_ _ | refine Below.alloc ?_ (by first | exact Nat.le_refl _ | (simp; done) | (simp; omega)) _ | refine Below.setCell ?_ (by first | exact Nat.le_refl _ | (simp; done) | (simp; omega)) _))⟩

theorem ref_down3 (n a b c d p q r s ex : Int) (w : World) (e0 : nearB ex = true) (e1 : nearB a = true) (e2 : nearB p = true) (e3 : nearB b = true) (e4 : nearB q = true) (e5 : nearB c = true) (e6 : nearB r = true) (e7 : nearB d = true) (e8 : nearB s = true) (hx0 : -70368744177664 ≤ ex) (hx : ex < 0) (hg : great p q r s = 3) (k3 : 0 < s) : Calls Tryz.prog 98 #[.agg #[.int .i64 n, .int .i64 a, .int .i64 b, .int .i64 c, .int .i64 d, .int .i64 p, .int .i64 q, .int .i64 r, .int .i64 s], .int .i64 ex] w fun e w' => e = .returned (.tuple #[.int .i64 (fit a b c d p q r s ex).1, .int .i64 (fit a b c d p q r s ex).2.1, .int .i64 (fit a b c d p q r s ex).2.2.1, .int .i64 (fit a b c d p q r s ex).2.2.2, .int .i64 0]) ∧ Below w.heap.size w w' := by
  have hf : fit a b c d p q r s ex = (2, 3, -ex, s) := by simp [fit, hx, hg, pick4, show ¬ 0 < ex by omega]
  rw [hf]
  clear hf hg
  go_enter Tryz.func98, Tryz.ntmps98
  go_wp2_with (go_at_call 163; refine (within_any _ _).mono ?_; rintro e w' ⟨rfl, rfl⟩)
  refine wp_loop_rounds 5 ?_
  repeat any_goals (rw [rounds_succ]; go_wp2_with (go_at_call 163; refine (within_any _ _).mono ?_; rintro e w' ⟨rfl, rfl⟩))
  go_rounds 4
  refine bodyPost_ret (v := .tuple #[.int .i64 (2), .int .i64 (3), .int .i64 (-ex), .int .i64 (s), .int .i64 (0)]) (by simp [results, Tryz.results98, go_sem]) rfl ⟨rfl, (by repeat (first | exact Below.refl _ _ | refine Below.drew ?_ | refine below_drewN ?_ _ | refine Below.alloc ?_ (by first | exact Nat.le_refl _ | (simp; done) | (simp; omega)) _ | refine Below.setCell ?_ (by first | exact Nat.le_refl _ | (simp; done) | (simp; omega)) _))⟩

end Go.Proofs.YtoboecenlangmaaGreat.Gl
end
section
namespace Go.Proofs.YtoboecenlangmaaGreat.Gl
open Go.ChangeShapes Go.WideShapes Go.ChangeAt Go.RowKit
open Me
set_option linter.unusedVariables false
set_option linter.unusedSimpArgs false

theorem rfit_all (n a b c d p q r s ex : Int) (w : World) (e0 : nearB ex = true) (e1 : nearB a = true) (e2 : nearB p = true) (e3 : nearB b = true) (e4 : nearB q = true) (e5 : nearB c = true) (e6 : nearB r = true) (e7 : nearB d = true) (e8 : nearB s = true) : Calls Tryz.prog 98 #[.agg #[.int .i64 n, .int .i64 a, .int .i64 b, .int .i64 c, .int .i64 d, .int .i64 p, .int .i64 q, .int .i64 r, .int .i64 s], .int .i64 ex] w fun e w' => e = .returned (.tuple #[.int .i64 (fit a b c d p q r s ex).1, .int .i64 (fit a b c d p q r s ex).2.1, .int .i64 (fit a b c d p q r s ex).2.2.1, .int .i64 (fit a b c d p q r s ex).2.2.2, .int .i64 0]) ∧ Below w.heap.size w w' := by
  have hx0 : -70368744177664 ≤ ex := by simp [nearB] at e0; omega
  rcases Int.lt_trichotomy 0 ex with hx | hx | hx
  · rcases great_cases a b c d with ⟨hg, h⟩ | ⟨hg, h⟩ | ⟨hg, h⟩ | ⟨hg, h⟩ | ⟨hg, h⟩
    · exact ref_upm n a b c d p q r s ex w e0 e1 e2 e3 e4 e5 e6 e7 e8 hx0 hx hg h.2.2.2 h.2.2.1 h.2.1 h.1
    · exact ref_up0 n a b c d p q r s ex w e0 e1 e2 e3 e4 e5 e6 e7 e8 hx0 hx hg h.2.2.2 h.2.2.1 h.2.1 h.1
    · exact ref_up1 n a b c d p q r s ex w e0 e1 e2 e3 e4 e5 e6 e7 e8 hx0 hx hg h.2.2 h.2.1 h.1
    · exact ref_up2 n a b c d p q r s ex w e0 e1 e2 e3 e4 e5 e6 e7 e8 hx0 hx hg h.2 h.1
    · exact ref_up3 n a b c d p q r s ex w e0 e1 e2 e3 e4 e5 e6 e7 e8 hx0 hx hg h
  · subst hx
    refine (ref_zero n a b c d p q r s w e0 e1 e2 e3 e4 e5 e6 e7 e8).mono ?_
    rintro e w' ⟨rfl, hb⟩
    exact ⟨rfl, hb⟩
  · rcases great_cases p q r s with ⟨hg, h⟩ | ⟨hg, h⟩ | ⟨hg, h⟩ | ⟨hg, h⟩ | ⟨hg, h⟩
    · exact ref_downm n a b c d p q r s ex w e0 e1 e2 e3 e4 e5 e6 e7 e8 hx0 hx hg h.2.2.2 h.2.2.1 h.2.1 h.1
    · by_cases hm : p < -ex
      · exact ref_downm0 n a b c d p q r s ex w e0 e1 e2 e3 e4 e5 e6 e7 e8 hx0 hx hg h.2.2.2 h.2.2.1 h.2.1 h.1 hm
      · exact ref_down0 n a b c d p q r s ex w e0 e1 e2 e3 e4 e5 e6 e7 e8 hx0 hx hg h.2.2.2 h.2.2.1 h.2.1 h.1 hm
    · exact ref_down1 n a b c d p q r s ex w e0 e1 e2 e3 e4 e5 e6 e7 e8 hx0 hx hg h.2.2 h.2.1 h.1
    · exact ref_down2 n a b c d p q r s ex w e0 e1 e2 e3 e4 e5 e6 e7 e8 hx0 hx hg h.2 h.1
    · exact ref_down3 n a b c d p q r s ex w e0 e1 e2 e3 e4 e5 e6 e7 e8 hx0 hx hg h
end Go.Proofs.YtoboecenlangmaaGreat.Gl
end
section
namespace Go.Proofs.YtoboecenlangmaaGreat.Ss
open Go.ChangeShapes Go.WideShapes Go.ChangeAt Go.RowKit
open Me Sc
set_option linter.unusedVariables false
set_option linter.unusedSimpArgs false

theorem refFar (x : Int) (w : World) : Calls Tryz.prog 159 #[.int .i64 x] w fun e w' => e = .returned (.bool (farB x)) ∧ w = w' := by
  by_cases h0 : x < -2147483647
  · go_enter Tryz.func159, Tryz.ntmps159
    go_wp2
    go_ret
    exact ⟨ret_bool (decide_eq_true (.inl h0)).symm, rfl⟩
  · by_cases h1 : 2147483647 < x
    · go_enter Tryz.func159, Tryz.ntmps159
      go_wp2
      go_ret
      exact ⟨ret_bool (decide_eq_true (.inr h1)).symm, rfl⟩
    · go_enter Tryz.func159, Tryz.ntmps159
      go_wp2
      go_ret
      exact ⟨ret_bool (decide_eq_false (by omega)).symm, rfl⟩
end Go.Proofs.YtoboecenlangmaaGreat.Ss
end
section
namespace Go.Proofs.YtoboecenlangmaaGreat.Ss
open Go.ChangeShapes Go.WideShapes Go.ChangeAt Go.RowKit
open Me Sc
set_option linter.unusedVariables false
set_option linter.unusedSimpArgs false

set_option maxHeartbeats 1000000 in
theorem refBad (t s : Int) (w : World) : Calls Tryz.prog 164 #[.int .i64 t, .int .i64 s] w fun e w' => e = .returned (.tuple #[.int .i64 (bdV t s), .int .i64 (bdE t s)]) ∧ Below w.heap.size w w' := by
  cases ht : farB t
  · obtain ⟨t0, t1⟩ := farB_no ht
    have HT := Lib.hid ht
    cases hs : farB s
    · obtain ⟨s0, s1⟩ := farB_no hs
      have HS := Lib.hid hs
      by_cases n0 : t < 0
      · go_enter Tryz.func164, Tryz.ntmps164
        go_wp2_with (first | (go_at_call 159; refine (refFar _ _).mono ?_; rintro e w' ⟨rfl, rfl⟩))
        go_ret2
        exact ⟨ret_ints (by rw [(bd_neg HT.out HS.out n0).1]) (by rw [(bd_neg HT.out HS.out n0).2]), (by repeat (first | exact Below.refl _ _ | assumption | apply below_drewN | apply andAlloc))⟩
      · by_cases n1 : t = 0
        · have e1 : (t == 0) = true := by simpa using n1
          have N1 := Lib.hid n1
          clear n1
          go_enter Tryz.func164, Tryz.ntmps164
          go_wp2_with (first | (go_at_call 159; refine (refFar _ _).mono ?_; rintro e w' ⟨rfl, rfl⟩))
          go_ret2
          exact ⟨ret_ints (by rw [(bd_zero HT.out HS.out N1.out).1]) (by rw [(bd_zero HT.out HS.out N1.out).2]), (by repeat (first | exact Below.refl _ _ | assumption | apply below_drewN | apply andAlloc))⟩
        · have hp : 0 < t := by omega
          have e1 : (t == 0) = false := by simpa using n1
          clear n1
          by_cases n2 : s < 1
          · go_enter Tryz.func164, Tryz.ntmps164
            go_wp2_with (first | (go_at_call 159; refine (refFar _ _).mono ?_; rintro e w' ⟨rfl, rfl⟩))
            go_ret2
            exact ⟨ret_ints (by rw [(bd_none HT.out HS.out hp n2).1]) (by rw [(bd_none HT.out HS.out hp n2).2]), (by repeat (first | exact Below.refl _ _ | assumption | apply below_drewN | apply andAlloc))⟩
          · have hs1 : 1 ≤ s := by omega
            by_cases c1 : t ≤ 7230584
            · have v0 : 0 ≤ 297 * t / s := Int.ediv_nonneg (by omega) (by omega)
              have v1 : 297 * t / s ≤ 297 * t := Int.ediv_le_self _ (by omega)
              by_cases big : 1290 < 297 * t / s
              · go_enter Tryz.func164, Tryz.ntmps164
                go_wp2_with (first | (go_at_call 159; refine (refFar _ _).mono ?_; rintro e w' ⟨rfl, rfl⟩))
                go_ret2
                exact ⟨ret_ints (by rw [(bd_inf HT.out HS.out hp hs1 (show bdR t s = 297 * t / s by rw [bdR_a hp hs1 c1]) big).1]) (by rw [(bd_inf HT.out HS.out hp hs1 (show bdR t s = 297 * t / s by rw [bdR_a hp hs1 c1]) big).2]), (by repeat (first | exact Below.refl _ _ | assumption | apply below_drewN | apply andAlloc))⟩
              · obtain ⟨u0, u1, u2, u3⟩ := cube_bd (r := 297 * t / s) (by omega) (by omega)
                go_enter Tryz.func164, Tryz.ntmps164
                go_wp2_with (first | (go_at_call 159; refine (refFar _ _).mono ?_; rintro e w' ⟨rfl, rfl⟩))
                go_ret2
                exact ⟨ret_ints (by rw [(bd_fin HT.out HS.out hp hs1 (show bdR t s = 297 * t / s by rw [bdR_a hp hs1 c1]) (by omega)).1]) (by rw [(bd_fin HT.out HS.out hp hs1 (show bdR t s = 297 * t / s by rw [bdR_a hp hs1 c1]) (by omega)).2]), (by repeat (first | exact Below.refl _ _ | assumption | apply below_drewN | apply andAlloc))⟩
            · by_cases c2 : 1663497 ≤ s
              · have v0 : 0 ≤ t / (s / 297) := Int.ediv_nonneg (by omega) (by omega)
                have v1 : t / (s / 297) ≤ t := Int.ediv_le_self _ (by omega)
                have v2 : 1 ≤ s / 297 := by omega
                by_cases big : 1290 < t / (s / 297)
                · go_enter Tryz.func164, Tryz.ntmps164
                  go_wp2_with (first | (go_at_call 159; refine (refFar _ _).mono ?_; rintro e w' ⟨rfl, rfl⟩))
                  go_ret2
                  exact ⟨ret_ints (by rw [(bd_inf HT.out HS.out hp hs1 (bdR_b hp (by omega) c2) big).1]) (by rw [(bd_inf HT.out HS.out hp hs1 (bdR_b hp (by omega) c2) big).2]), (by repeat (first | exact Below.refl _ _ | assumption | apply below_drewN | apply andAlloc))⟩
                · obtain ⟨u0, u1, u2, u3⟩ := cube_bd (r := t / (s / 297)) (by omega) (by omega)
                  go_enter Tryz.func164, Tryz.ntmps164
                  go_wp2_with (first | (go_at_call 159; refine (refFar _ _).mono ?_; rintro e w' ⟨rfl, rfl⟩))
                  go_ret2
                  exact ⟨ret_ints (by rw [(bd_fin HT.out HS.out hp hs1 (bdR_b hp (by omega) c2) (by omega)).1]) (by rw [(bd_fin HT.out HS.out hp hs1 (bdR_b hp (by omega) c2) (by omega)).2]), (by repeat (first | exact Below.refl _ _ | assumption | apply below_drewN | apply andAlloc))⟩
              · have c3 : 1290 < t := by omega
                go_enter Tryz.func164, Tryz.ntmps164
                go_wp2_with (first | (go_at_call 159; refine (refFar _ _).mono ?_; rintro e w' ⟨rfl, rfl⟩))
                go_ret2
                exact ⟨ret_ints (by rw [(bd_inf HT.out HS.out hp hs1 (bdR_c (by omega) (by omega)) c3).1]) (by rw [(bd_inf HT.out HS.out hp hs1 (bdR_c (by omega) (by omega)) c3).2]), (by repeat (first | exact Below.refl _ _ | assumption | apply below_drewN | apply andAlloc))⟩
    · have HS := Lib.hid hs
      go_enter Tryz.func164, Tryz.ntmps164
      go_wp2_with (first | (go_at_call 159; refine (refFar _ _).mono ?_; rintro e w' ⟨rfl, rfl⟩))
      go_ret2
      exact ⟨ret_ints (by rw [(bd_far (.inr HS.out)).1]) (by rw [(bd_far (.inr HS.out)).2]), (by repeat (first | exact Below.refl _ _ | assumption | apply below_drewN | apply andAlloc))⟩
  · have HT := Lib.hid ht
    go_enter Tryz.func164, Tryz.ntmps164
    go_wp2_with (first | (go_at_call 159; refine (refFar _ _).mono ?_; rintro e w' ⟨rfl, rfl⟩))
    go_ret2
    exact ⟨ret_ints (by rw [(bd_far (.inl HT.out)).1]) (by rw [(bd_far (.inl HT.out)).2]), (by repeat (first | exact Below.refl _ _ | assumption | apply below_drewN | apply andAlloc))⟩
end Go.Proofs.YtoboecenlangmaaGreat.Ss
end
section
namespace Go.Proofs.YtoboecenlangmaaGreat.Pk
open Go.ChangeShapes Go.WideShapes Go.ChangeAt Go.RowKit
open Me Np No
set_option linter.unusedVariables false
set_option linter.unusedSimpArgs false

theorem rdimen_any (z : Int) (w : World) : Calls Tryz.prog 48 #[.int .i64 z] w fun e w' => e = .returned (.bool (dimB z)) ∧ w = w' := by
  by_cases h0 : -1073741823 ≤ z
  · by_cases h1 : z ≤ 1073741823
    · have HD := Lib.hid (show dimB z = true by simp [dimB, h0, h1])
      go_enter Tryz.func48, Tryz.ntmps48
      go_wp2
      go_ret
      exact ⟨ret_bool (by rw [HD.out]), rfl⟩
    · have HD := Lib.hid (show dimB z = false by simp [dimB]; omega)
      go_enter Tryz.func48, Tryz.ntmps48
      go_wp2
      go_ret
      exact ⟨ret_bool (by rw [HD.out]), rfl⟩
  · have HD := Lib.hid (show dimB z = false by simp [dimB]; omega)
    go_enter Tryz.func48, Tryz.ntmps48
    go_wp2
    go_ret
    exact ⟨ret_bool (by rw [HD.out]), rfl⟩
theorem rheld_any (z : Int) (w : World) : Calls Tryz.prog 165 #[.int .i64 z] w fun e w' => e = .returned (.int .i64 (held z)) ∧ w = w' := by
  by_cases h0 : z < 0
  · have HD := Lib.hid (show held z = 0 from if_pos h0)
    go_enter Tryz.func165, Tryz.ntmps165
    go_wp2_with fail
    go_ret
    exact ⟨ret_int (by rw [HD.out]), rfl⟩
  · by_cases h1 : 2147483647 < z
    · have HD := Lib.hid (show held z = 2147483647 by unfold held; rw [if_neg h0, if_pos h1])
      go_enter Tryz.func165, Tryz.ntmps165
      go_wp2_with fail
      go_ret
      exact ⟨ret_int (by rw [HD.out]), rfl⟩
    · have HD := Lib.hid (show held z = z by unfold held; rw [if_neg h0, if_neg h1])
      go_enter Tryz.func165, Tryz.ntmps165
      go_wp2_with fail
      go_ret
      exact ⟨ret_int (by rw [HD.out]), rfl⟩
theorem fit_up {a b c d p q r s ex : Int} (h : 0 < ex) : (Gl.fit a b c d p q r s ex).1 = 0 ∧ (Gl.fit a b c d p q r s ex).2.1 = 0 ∨ (Gl.fit a b c d p q r s ex).1 = 1 := by
  unfold Gl.fit
  rw [if_pos h]
  split
  · exact .inl ⟨rfl, rfl⟩
  · exact .inr rfl
theorem fit_dn {a b c d p q r s ex : Int} (h : ex < 0) : (Gl.fit a b c d p q r s ex).1 = 0 ∧ (Gl.fit a b c d p q r s ex).2.1 = 0 ∨ (Gl.fit a b c d p q r s ex).1 = 2 := by
  unfold Gl.fit
  rw [if_neg (by omega), if_pos h]
  split
  · exact .inl ⟨rfl, rfl⟩
  · exact .inr rfl
end Go.Proofs.YtoboecenlangmaaGreat.Pk
end
section
namespace Go.Proofs.YtoboecenlangmaaGreat.Pk
open Go.ChangeShapes Go.WideShapes Go.ChangeAt Go.RowKit
open Me Np No
set_option linter.unusedVariables false
set_option linter.unusedSimpArgs false

def BadO (w : World) (V : Int × Int) (e : Ending) (w' : World) : Prop := e = .returned (.tuple #[.int .i64 V.1, .int .i64 V.2]) ∧ Below w.heap.size w w'
theorem bad_zero (x a b c d p q r s ex : Int) (n : Nd) (em : Bool) (w : World) (h : em = true ∨ ex = 0) :
    Calls Tryz.prog 100 #[.bool em, .agg #[.int .i64 x, .int .i64 a, .int .i64 b, .int .i64 c, .int .i64 d, .int .i64 p, .int .i64 q, .int .i64 r, .int .i64 s], .int .i64 ex] w (BadO w (setV n a p em ex (0, 0))) := by
  have HE := Lib.hid (show setV n a p em ex (0, 0) = (0, 0) from if_pos h)
  generalize setV n a p em ex (0, 0) = V at HE ⊢
  cases em with
  | true =>
    clear h
    go_enter Tryz.func100, Tryz.ntmps100
    go_wp2_with fail
    go_returns
    rw [HE.out]
    exact ⟨rfl, andAlloc (Below.refl _ _) _⟩
  | false =>
    have h0 : ex = 0 := by simpa using h
    subst h0
    clear h
    go_enter Tryz.func100, Tryz.ntmps100
    go_wp2_with fail
    go_returns
    rw [HE.out]
    exact ⟨rfl, andAlloc (Below.refl _ _) _⟩
set_option maxHeartbeats 1000000 in
theorem bad_up (x a b c d p q r s ex : Int) (n : Nd) (w : World) (hx : 0 < ex) (e0 : Gl.nearB ex = true) (e1 : Gl.nearB a = true) (e2 : Gl.nearB p = true) (e3 : Gl.nearB b = true) (e4 : Gl.nearB q = true) (e5 : Gl.nearB c = true) (e6 : Gl.nearB r = true) (e7 : Gl.nearB d = true) (e8 : Gl.nearB s = true) :
    Calls Tryz.prog 100 #[.bool false, .agg #[.int .i64 x, .int .i64 a, .int .i64 b, .int .i64 c, .int .i64 d, .int .i64 p, .int .i64 q, .int .i64 r, .int .i64 s], .int .i64 ex] w (BadO w (setV (fitN n (Gl.fit a b c d p q r s ex)) a p false ex (0, 0))) := by
  have HF := Lib.hid (fun w => Gl.rfit_all x a b c d p q r s ex w e0 e1 e2 e3 e4 e5 e6 e7 e8)
  have hu := fit_up (a := a) (b := b) (c := c) (d := d) (p := p) (q := q) (r := r) (s := s) hx
  generalize Gl.fit a b c d p q r s ex = F at HF hu ⊢
  obtain ⟨sg, od, nu, de⟩ := F
  simp only at HF hu
  have h64 : ex ≤ 70368744177664 := by simp [Gl.nearB] at e0; omega
  clear e0 e1 e2 e3 e4 e5 e6 e7 e8
  have HV := Lib.hid (show setV (fitN n (sg, od, nu, de)) a p false ex (0, 0) = (if sg = 1 ∧ 0 < od then 0 else Sc.bdV (held ex) (held a), 0) by
    unfold setV
    rw [if_neg (by simp; omega), if_pos hx]
    rfl)
  generalize setV (fitN n (sg, od, nu, de)) a p false ex (0, 0) = V at HV ⊢
  by_cases hs : sg = 1 ∧ 0 < od
  · have HE := Lib.hid (show V = (0, 0) by rw [HV.out, if_pos hs])
    obtain ⟨rfl, ho⟩ := hs
    clear HV hu
    go_enter Tryz.func100, Tryz.ntmps100
    go_wp2_with (go_at_call 98; refine (HF.out _).mono ?_; rintro e w2 ⟨rfl, hb2⟩; have hk2 : Blk w2 w.heap.size 109 #[.int .i64 x, .int .i64 a, .int .i64 b, .int .i64 c, .int .i64 d, .int .i64 p, .int .i64 q, .int .i64 r, .int .i64 s] := Blk.below (Blk.new w _ _) hb2 (by simp); have hc1 : w2.cell? ⟨w.heap.size, 1, none⟩ = some (.int .i64 a) := Blk.cell hk2 1; have hc5 : w2.cell? ⟨w.heap.size, 5, none⟩ = some (.int .i64 p) := Blk.cell hk2 5; have hf5 := Blk.free hk2 5; have HB2 := Lib.hid (andThen (andAlloc (Below.refl _ w) (.cells #[.int .i64 x, .int .i64 a, .int .i64 b, .int .i64 c, .int .i64 d, .int .i64 p, .int .i64 q, .int .i64 r, .int .i64 s] 109)) hb2); clear hk2 hb2)
    go_returns
    rw [HE.out]
    exact ⟨rfl, HB2.out⟩
  · have HE := Lib.hid (show V = (Sc.bdV (held ex) (held a), 0) by rw [HV.out, if_neg hs])
    have hh : sg = 0 ∨ (sg = 1 ∧ od ≤ 0) := by
      rcases hu with ⟨h1, _⟩ | h1
      · exact .inl h1
      · exact .inr ⟨h1, by have : ¬ 0 < od := fun h => hs ⟨h1, h⟩; omega⟩
    clear HV hu hs
    rcases hh with rfl | ⟨rfl, ho⟩
    all_goals
      go_enter Tryz.func100, Tryz.ntmps100
      go_upto_region 7 with (go_at_call 98; refine (HF.out _).mono ?_; rintro e w2 ⟨rfl, hb2⟩; have hk2 : Blk w2 w.heap.size 109 #[.int .i64 x, .int .i64 a, .int .i64 b, .int .i64 c, .int .i64 d, .int .i64 p, .int .i64 q, .int .i64 r, .int .i64 s] := Blk.below (Blk.new w _ _) hb2 (by simp); have hc1 : w2.cell? ⟨w.heap.size, 1, none⟩ = some (.int .i64 a) := Blk.cell hk2 1; have hc5 : w2.cell? ⟨w.heap.size, 5, none⟩ = some (.int .i64 p) := Blk.cell hk2 5; have hf5 := Blk.free hk2 5; have HB2 := Lib.hid (andThen (andAlloc (Below.refl _ w) (.cells #[.int .i64 x, .int .i64 a, .int .i64 b, .int .i64 c, .int .i64 d, .int .i64 p, .int .i64 q, .int .i64 r, .int .i64 s] 109)) hb2); clear hk2 hb2)
      go_region_with (first | (go_at_call 165; refine (rheld_any _ _).mono ?_; rintro e w' ⟨rfl, rfl⟩) | (go_at_call 164; refine (Ss.refBad _ _ _).mono ?_; rintro e w3 ⟨rfl, hb3⟩))
      all_goals
        go_wp2_with fail
        go_returns
        rw [HE.out]
        first
          | exact ⟨rfl, andThen HB2.out hb3⟩
          | exact ⟨rfl, andThen HB2.out.drew hb3⟩
          | exact ⟨rfl, andThen (below_drewN HB2.out _) hb3⟩
set_option maxHeartbeats 2000000 in
theorem bad_dn (x a b c d p q r s ex : Int) (n : Nd) (w : World) (hx : ex < 0) (e0 : Gl.nearB ex = true) (e1 : Gl.nearB a = true) (e2 : Gl.nearB p = true) (e3 : Gl.nearB b = true) (e4 : Gl.nearB q = true) (e5 : Gl.nearB c = true) (e6 : Gl.nearB r = true) (e7 : Gl.nearB d = true) (e8 : Gl.nearB s = true) :
    Calls Tryz.prog 100 #[.bool false, .agg #[.int .i64 x, .int .i64 a, .int .i64 b, .int .i64 c, .int .i64 d, .int .i64 p, .int .i64 q, .int .i64 r, .int .i64 s], .int .i64 ex] w (BadO w (setV (fitN n (Gl.fit a b c d p q r s ex)) a p false ex (0, 0))) := by
  have HF := Lib.hid (fun w => Gl.rfit_all x a b c d p q r s ex w e0 e1 e2 e3 e4 e5 e6 e7 e8)
  have hu := fit_dn (a := a) (b := b) (c := c) (d := d) (p := p) (q := q) (r := r) (s := s) hx
  generalize Gl.fit a b c d p q r s ex = F at HF hu ⊢
  obtain ⟨sg, od, nu, de⟩ := F
  simp only at HF hu
  have h64 : -70368744177664 ≤ ex := by simp [Gl.nearB] at e0; omega
  have h65 : -70368744177664 ≤ p ∧ p ≤ 70368744177664 := by simp [Gl.nearB] at e2; omega
  clear e0 e1 e2 e3 e4 e5 e6 e7 e8
  have HV := Lib.hid (show setV (fitN n (sg, od, nu, de)) a p false ex (0, 0) = (if sg = 2 ∧ 0 < od then (0, 0) else if max 0 p < -ex then (1000000, -ex - max 0 p) else (Sc.bdV (held (-ex)) (held p), 0)) by
    unfold setV
    rw [if_neg (by simp; omega), if_neg (by omega)]
    rfl)
  generalize setV (fitN n (sg, od, nu, de)) a p false ex (0, 0) = V at HV ⊢
  by_cases hs : sg = 2 ∧ 0 < od
  · have HE := Lib.hid (show V = (0, 0) by rw [HV.out, if_pos hs])
    obtain ⟨rfl, ho⟩ := hs
    clear HV hu
    go_enter Tryz.func100, Tryz.ntmps100
    go_wp2_with (go_at_call 98; refine (HF.out _).mono ?_; rintro e w2 ⟨rfl, hb2⟩; have hk2 : Blk w2 w.heap.size 109 #[.int .i64 x, .int .i64 a, .int .i64 b, .int .i64 c, .int .i64 d, .int .i64 p, .int .i64 q, .int .i64 r, .int .i64 s] := Blk.below (Blk.new w _ _) hb2 (by simp); have hc1 : w2.cell? ⟨w.heap.size, 1, none⟩ = some (.int .i64 a) := Blk.cell hk2 1; have hc5 : w2.cell? ⟨w.heap.size, 5, none⟩ = some (.int .i64 p) := Blk.cell hk2 5; have hf5 := Blk.free hk2 5; have HB2 := Lib.hid (andThen (andAlloc (Below.refl _ w) (.cells #[.int .i64 x, .int .i64 a, .int .i64 b, .int .i64 c, .int .i64 d, .int .i64 p, .int .i64 q, .int .i64 r, .int .i64 s] 109)) hb2); clear hk2 hb2)
    go_returns
    rw [HE.out]
    exact ⟨rfl, HB2.out⟩
  · have hh : sg = 0 ∨ (sg = 2 ∧ od ≤ 0) := by
      rcases hu with ⟨h1, _⟩ | h1
      · exact .inl h1
      · exact .inr ⟨h1, by have : ¬ 0 < od := fun h => hs ⟨h1, h⟩; omega⟩
    have HV2 := Lib.hid (show V = if max 0 p < -ex then (1000000, -ex - max 0 p) else (Sc.bdV (held (-ex)) (held p), 0) by rw [HV.out, if_neg hs])
    clear HV hu hs
    by_cases hp : p < 0
    · have h1 : (0 : Int) < -ex := by omega
      have HE := Lib.hid (show V = (1000000, -ex) by rw [HV2.out, show max 0 p = 0 by omega, if_pos (by omega), Int.sub_zero])
      clear HV2
      rcases hh with rfl | ⟨rfl, ho⟩
      all_goals
        go_enter Tryz.func100, Tryz.ntmps100
        go_wp2_with (go_at_call 98; refine (HF.out _).mono ?_; rintro e w2 ⟨rfl, hb2⟩; have hk2 : Blk w2 w.heap.size 109 #[.int .i64 x, .int .i64 a, .int .i64 b, .int .i64 c, .int .i64 d, .int .i64 p, .int .i64 q, .int .i64 r, .int .i64 s] := Blk.below (Blk.new w _ _) hb2 (by simp); have hc1 : w2.cell? ⟨w.heap.size, 1, none⟩ = some (.int .i64 a) := Blk.cell hk2 1; have hc5 : w2.cell? ⟨w.heap.size, 5, none⟩ = some (.int .i64 p) := Blk.cell hk2 5; have hf5 := Blk.free hk2 5; have HB2 := Lib.hid (andThen (andAlloc (Below.refl _ w) (.cells #[.int .i64 x, .int .i64 a, .int .i64 b, .int .i64 c, .int .i64 d, .int .i64 p, .int .i64 q, .int .i64 r, .int .i64 s] 109)) hb2); clear hk2 hb2)
        go_returns
        rw [HE.out]
        exact ⟨rfl, HB2.out⟩
    · by_cases hlt : p < -ex
      · have HE := Lib.hid (show V = (1000000, -ex - p) by rw [HV2.out, show max 0 p = p by omega, if_pos hlt])
        clear HV2
        rcases hh with rfl | ⟨rfl, ho⟩
        all_goals
          go_enter Tryz.func100, Tryz.ntmps100
          go_wp2_with (go_at_call 98; refine (HF.out _).mono ?_; rintro e w2 ⟨rfl, hb2⟩; have hk2 : Blk w2 w.heap.size 109 #[.int .i64 x, .int .i64 a, .int .i64 b, .int .i64 c, .int .i64 d, .int .i64 p, .int .i64 q, .int .i64 r, .int .i64 s] := Blk.below (Blk.new w _ _) hb2 (by simp); have hc1 : w2.cell? ⟨w.heap.size, 1, none⟩ = some (.int .i64 a) := Blk.cell hk2 1; have hc5 : w2.cell? ⟨w.heap.size, 5, none⟩ = some (.int .i64 p) := Blk.cell hk2 5; have hf5 := Blk.free hk2 5; have HB2 := Lib.hid (andThen (andAlloc (Below.refl _ w) (.cells #[.int .i64 x, .int .i64 a, .int .i64 b, .int .i64 c, .int .i64 d, .int .i64 p, .int .i64 q, .int .i64 r, .int .i64 s] 109)) hb2); clear hk2 hb2)
          go_returns
          rw [HE.out]
          exact ⟨rfl, HB2.out⟩
      · have HE := Lib.hid (show V = (Sc.bdV (held (-ex)) (held p), 0) by rw [HV2.out, show max 0 p = p by omega, if_neg hlt])
        clear HV2
        rcases hh with rfl | ⟨rfl, ho⟩
        all_goals
          go_enter Tryz.func100, Tryz.ntmps100
          go_wp2_with (first | (go_at_call 98; refine (HF.out _).mono ?_; rintro e w2 ⟨rfl, hb2⟩; have hk2 : Blk w2 w.heap.size 109 #[.int .i64 x, .int .i64 a, .int .i64 b, .int .i64 c, .int .i64 d, .int .i64 p, .int .i64 q, .int .i64 r, .int .i64 s] := Blk.below (Blk.new w _ _) hb2 (by simp); have hc1 : w2.cell? ⟨w.heap.size, 1, none⟩ = some (.int .i64 a) := Blk.cell hk2 1; have hc5 : w2.cell? ⟨w.heap.size, 5, none⟩ = some (.int .i64 p) := Blk.cell hk2 5; have hf5 := Blk.free hk2 5; have HB2 := Lib.hid (andThen (andAlloc (Below.refl _ w) (.cells #[.int .i64 x, .int .i64 a, .int .i64 b, .int .i64 c, .int .i64 d, .int .i64 p, .int .i64 q, .int .i64 r, .int .i64 s] 109)) hb2); clear hk2 hb2) | (go_at_call 165; refine (rheld_any _ _).mono ?_; rintro e w' ⟨rfl, rfl⟩) | (go_at_call 164; refine (Ss.refBad _ _ _).mono ?_; rintro e w3 ⟨rfl, hb3⟩))
          go_returns
          rw [HE.out]
          exact ⟨rfl, andThen HB2.out hb3⟩
theorem rbad_any (x a b c d p q r s ex : Int) (n : Nd) (em : Bool) (w : World) (e0 : Gl.nearB ex = true) (e1 : Gl.nearB a = true) (e2 : Gl.nearB p = true) (e3 : Gl.nearB b = true) (e4 : Gl.nearB q = true) (e5 : Gl.nearB c = true) (e6 : Gl.nearB r = true) (e7 : Gl.nearB d = true) (e8 : Gl.nearB s = true) :
    Calls Tryz.prog 100 #[.bool em, .agg #[.int .i64 x, .int .i64 a, .int .i64 b, .int .i64 c, .int .i64 d, .int .i64 p, .int .i64 q, .int .i64 r, .int .i64 s], .int .i64 ex] w (BadO w (setV (fitN n (Gl.fit a b c d p q r s ex)) a p em ex (0, 0))) := by
  by_cases h0 : em = true ∨ ex = 0
  · exact bad_zero x a b c d p q r s ex _ em w h0
  · have hem : em = false := by cases em <;> simp_all
    subst hem
    have hx : ¬ ex = 0 := fun h => h0 (.inr h)
    rcases Int.lt_trichotomy 0 ex with h | h | h
    · exact bad_up x a b c d p q r s ex n w h e0 e1 e2 e3 e4 e5 e6 e7 e8
    · exact absurd h.symm hx
    · exact bad_dn x a b c d p q r s ex n w h e0 e1 e2 e3 e4 e5 e6 e7 e8
end Go.Proofs.YtoboecenlangmaaGreat.Pk
end
section
namespace Go.Proofs.YtoboecenlangmaaGreat.Pk
open Go.ChangeShapes Go.WideShapes Go.ChangeAt Go.RowKit
open Me Np No
set_option linter.unusedVariables false
set_option linter.unusedSimpArgs false

/-- What the loop of the document's Parted holds. -/
structure InvR (ns : List Nd) (w : World) (R : List Nd × List Nd) (xs : List Nat) (i : Nat) (v u : Value) (wr : World) : Prop where
  rest : ∃ a s, Stand ns a (xs.drop i) ∧ partF ns (xs.drop i) s = R ∧ s.1.length ≤ a ∧ s.2.length ≤ a ∧ Own2 wr w.heap.size v u s.1 s.2
  low : Below w.heap.size w wr
theorem Stand.more {ns : List Nd} {a y : Nat} {ys zs : List Nat} (h : Stand ns a ys) (he : ys = y :: zs) : a < ns.length := by
  have hi := h.its
  rw [he] at hi
  obtain ⟨_, m, hm, _⟩ := hi
  have := endc_bd hm
  rw [List.length_drop] at this
  omega
theorem get_dropN {l : List Nat} {k : Nat} (h : k < l.length) : ∃ x, l[k]? = some x ∧ l.drop k = x :: l.drop (k + 1) := ⟨l[k], List.getElem?_eq_getElem h, List.drop_eq_getElem_cons h⟩
theorem block_cell {w w' : World} {p : Addr} {v : Value} (hb : Below w.heap.size w w') (h : w.cell? p = some v) : w'.cell? p = some v := (hb.cell (block_lt_of_cell h)).trans h
set_option maxHeartbeats 4000000 in
set_option maxRecDepth 100000 in
theorem rparted_any (A : Option Addr) (ns : List Nd) (c : Nat) (w : World) (hc : chk ns = 0) (hcap : ns.length ≤ c) (hseg : Seg w w.heap.size A (ns.flatMap ncs)) :
    Calls Tryz.prog 49 #[.slice A ns.length c] w fun e w' => ∃ v u, e = .returned (.tuple #[v, u]) ∧ Own2 w' w.heap.size v u (partD ns).1 (partD ns).2 ∧ Below w.heap.size w w' := by
  have hl := (chk_run hc).1
  have HEN := Lib.hid (fun (a m : Nat) w1 (h : Below w.heap.size w w1) hm hk => rends_any A ns c a m w1 (by omega) (Seg.belowW hseg h) hm hk)
  have HSR := Lib.hid (rstarts_any A ns c (itsD ns) w hl hseg (itsD_is hc) (fun x hx n hn => by obtain ⟨n', h1, h2, _⟩ := its_beg hc (itsD_is hc) x hx; rw [hn] at h1; injection h1 with h1; rw [h1]; exact h2))
  have HSG := Lib.hid hseg
  have HST := Lib.hid (stand0 hc (itsD_is hc))
  have HCK := Lib.hid hc
  have HR := Lib.hid (show partF ns (itsD ns) ([], []) = partD ns from rfl)
  generalize partD ns = R at HR ⊢
  generalize itsD ns = xs at HR HST HSR
  clear hc hseg
  have hl0 := Lib.hid hl
  generalize hlen : ns.length = len at *
  have HL := Lib.hid hlen
  clear hlen
  go_enter Tryz.func49, Tryz.ntmps49
  go_wp2_with fail
  refine HSR.out.mono ?_
  rintro e w0 ⟨vx, rfl, hox, hb0⟩
  obtain ⟨Ax, cx, hvx⟩ := made_len hox
  have HOX := Lib.hid hox
  have HB0 := Lib.hid hb0
  rw [hvx]
  have HVX := Lib.hid hvx
  clear hox hb0 hvx HSR
  have HXL := Lib.hid (rfl : xs.length = xs.length)
  have hxl : xs.length ≤ 2000 := by have := HST.out.its.len; simp at this; have := HL.out; omega
  go_wp2_with fail
  go_loopw [4, 5, 7] (fun v2 v3 v4 wr => ∃ i : Nat, i ≤ xs.length ∧ v4 = .int .i64 (i : Int) ∧ InvR ns w0 R xs i v2 v3 wr) (fun _ _ v4 _ => xs.length - (intOf v4).toNat)
  case atStart => exact ⟨0, by omega, rfl, ⟨0, ([], []), HST.out, HR.out, by simp, by simp, World.ownsRow_nil _ _ _ _, World.ownsRow_nil _ _ _ _, .inl rfl, .inl rfl⟩, Below.refl _ _⟩
  case round =>
    obtain ⟨i, hix, rfl, hI⟩ := hrel
    obtain ⟨a, s, hst, hR, h1, h2, hO⟩ := hI.rest
    have HLOW0 := Lib.hid hI.low
    have HLOW := Lib.hid (andThen HB0.out hI.low)
    have hal := hst.le
    rw [HL.out] at hal
    by_cases hlt : i < xs.length
    · obtain ⟨y, hy, hdy⟩ := get_dropN hlt
      have hlt2 : a < len := by have := Stand.more hst hdy; rw [HL.out] at this; exact this
      obtain ⟨m, zs, x, hyz, hm, hm1, ham, hst', _, hx, h6, h11⟩ := hst.step (by rw [HL.out]; exact hl) (by rw [HL.out]; exact hlt2)
      rw [hdy] at hyz
      injection hyz with e1 e2
      subst e1
      rw [← e2] at hst'
      rw [hdy] at hR
      rw [HL.out] at ham
      obtain ⟨b, off, rfl, hb, hnode⟩ := seg_node HSG.out hx
      have hn1 : wr.cell? ⟨b, off + y * 19, none⟩ = some (.int .i64 x.kind) := (hnode.below HLOW.out hb) 0 _ rfl
      obtain ⟨gx, rfl, hcx⟩ : ∃ gx, Ax = some ⟨gx, 0, none⟩ ∧ wr.cell? ⟨gx, i, none⟩ = some (.int .i64 (y : Int)) := by
        have ho := own_below HOX.out HLOW0.out
        rw [HVX.out] at ho
        rcases ho.2 with ⟨_, h0⟩ | ⟨g, cap, cur, h', _, _, _⟩
        · omega
        · injection h' with h' _ _
          subst h'
          refine ⟨g, rfl, (ho.cellAt i (by omega)).trans ?_⟩
          rw [List.getElem?_map, hy]
          rfl
      have HS := Lib.hid (And.intro hst' (And.intro hR hO))
      have HX := Lib.hid (And.intro hx hm)
      have HB := Lib.hid (show ∀ n, ns[y]? = some n → ¬ n.kind = 6 from fun n hn => by rw [hx] at hn; injection hn with hn; rw [← hn]; exact h6)
      have HH := Lib.hid (And.intro h1 h2)
      clear hst' hR hO hx hm hnode hI hst h1 h2 hdy hy
      have hifs : (if c = y then some (⟨b, off, none⟩ : Addr) else some ⟨b, off + y * 19, none⟩) = some ⟨b, off + y * 19, none⟩ := if_neg (by omega)
      have HIF := Lib.hid hifs
      have HTL := Lib.hid (show ((ns.drop y).take m).length = m from take_len (by rw [HL.out]; exact ham))
      have HAD := Lib.hid (fun w1 (h : Below w.heap.size w w1) => show ∀ j u, (((ns.drop y).take m).flatMap ncs)[j]? = some u → w1.cell? ⟨b, off + y * 19 + j, none⟩ = some u by
        rw [flat_take ncs_length, flat_drop ncs_length]
        intro j u hu
        have := No.seg_cells (Seg.take (Seg.drop (HSG.out.below h) (y * 19)) (m * 19)) j u hu
        have hadd : (⟨b, off + y * 19, none⟩ : Addr).add j = ⟨b, off + y * 19 + j, none⟩ := by unfold Addr.add; split <;> simp_all
        rwa [hadd] at this)
      clear hifs
      have hal1 : (y : Int) + m ≤ len := by omega
      have hal2 : (y : Int) + m ≤ c := by omega
      have hal3 : (y : Int) ≤ y + m := by omega
      have HTI : (inn ns y m).length ≤ m := by unfold inn; rw [List.length_take]; omega
      by_cases k13 : x.kind = 13
      · have e13 : (x.kind == 13) = true := by simp [k13]
        have HP := Lib.hid (pstep_out (s := s) HX.out.1 HX.out.2 (.inl k13))
        clear k13 h6 h11
        go_wp2_with (first | (go_at_call 93; refine (HEN.out y m _ HLOW.out HX.out.2 HB.out).mono ?_; rintro e w1 ⟨rfl, hb1⟩; have hn2 : w1.cell? ⟨b, off + y * 19, none⟩ = some (.int .i64 x.kind) := (block_cell hb1 hn1); have hcx2 : w1.cell? ⟨gx, i, none⟩ = some (.int .i64 (y : Int)) := (block_cell hb1 hcx); have HB1 := Lib.hid hb1; have HO1 := Lib.hid (HS.out.2.2.below hb1); have HL1 := Lib.hid (andThen HLOW.out hb1); have HL0 := Lib.hid (andThen HLOW0.out hb1); clear hb1) | (at_builtin; go_loud (refine wpList_append_at rfl (.tmp 43) (.tmp 50) rfl w0.heap.size HL0.out.size _ _ _ rfl HO1.out.two b (off + y * 19) (c - y) (y + m - y) ((ns.drop y).take m) rfl (by rw [HTL.out]; omega) (.inr (Nat.lt_of_lt_of_le hb HL1.out.size)) (HAD.out _ HL1.out) (by rw [HTL.out]; have := HH.out.2; omega) ?_; intro v3 W3 hown3 hg3 hv3; have HG3 := Lib.hid (HO1.out.swap.grow hown3 hg3 hv3); have hlow3 := below_grown (Nat.le_refl _) HL0.out hg3 (fun q hq => (HO1.out.two.lt q hq).1); have HLW3 := Lib.hid hlow3; clear hown3 hg3 hv3 hlow3)))
        go_roundw
        case rel =>
          refine ⟨i + 1, by omega, by go_num, ⟨y + m, _, HS.out.1, HS.out.2.1, ?_, ?_, ?_⟩, HLW3.out⟩
          · rw [HP.out]; have := HH.out; have := HTL.out; simp only [List.length_append]; omega
          · rw [HP.out]; have := HH.out; have := HTL.out; have := HTI; simp only [List.length_append]; omega
          · rw [HP.out]; exact HG3.out.swap
        case measure => simp [intOf]; omega
      · have e13 : (x.kind == 13) = false := by simp [k13]
        by_cases k12 : x.kind = 12
        · have e12 : (x.kind == 12) = true := by simp [k12]
          have HP := Lib.hid (pstep_out (s := s) HX.out.1 HX.out.2 (.inr k12))
          clear k13 k12 h6 h11
          go_wp2_with (first | (go_at_call 93; refine (HEN.out y m _ HLOW.out HX.out.2 HB.out).mono ?_; rintro e w1 ⟨rfl, hb1⟩; have hn2 : w1.cell? ⟨b, off + y * 19, none⟩ = some (.int .i64 x.kind) := (block_cell hb1 hn1); have hcx2 : w1.cell? ⟨gx, i, none⟩ = some (.int .i64 (y : Int)) := (block_cell hb1 hcx); have HB1 := Lib.hid hb1; have HO1 := Lib.hid (HS.out.2.2.below hb1); have HL1 := Lib.hid (andThen HLOW.out hb1); have HL0 := Lib.hid (andThen HLOW0.out hb1); clear hb1) | (at_builtin; go_loud (refine wpList_append_at rfl (.tmp 43) (.tmp 50) rfl w0.heap.size HL0.out.size _ _ _ rfl HO1.out.two b (off + y * 19) (c - y) (y + m - y) ((ns.drop y).take m) rfl (by rw [HTL.out]; omega) (.inr (Nat.lt_of_lt_of_le hb HL1.out.size)) (HAD.out _ HL1.out) (by rw [HTL.out]; have := HH.out.2; omega) ?_; intro v3 W3 hown3 hg3 hv3; have HG3 := Lib.hid (HO1.out.swap.grow hown3 hg3 hv3); have hlow3 := below_grown (Nat.le_refl _) HL0.out hg3 (fun q hq => (HO1.out.two.lt q hq).1); have HLW3 := Lib.hid hlow3; clear hown3 hg3 hv3 hlow3)))
          go_roundw
          case rel =>
            refine ⟨i + 1, by omega, by go_num, ⟨y + m, _, HS.out.1, HS.out.2.1, ?_, ?_, ?_⟩, HLW3.out⟩
            · rw [HP.out]; have := HH.out; have := HTL.out; simp only [List.length_append]; omega
            · rw [HP.out]; have := HH.out; have := HTL.out; have := HTI; simp only [List.length_append]; omega
            · rw [HP.out]; exact HG3.out.swap
          case measure => simp [intOf]; omega
        · have e12 : (x.kind == 12) = false := by simp [k12]
          by_cases k17 : x.kind = 17
          · have e17 : (x.kind == 17) = true := by simp [k17]
            have HP := Lib.hid (pstep_in (s := s) HX.out.1 HX.out.2 k17)
            have hm2 : 2 ≤ m := endc_two HX.out.1 (by simp [opensB, k17]) HX.out.2
            have HTN := Lib.hid (inn_len (ns := ns) (by rw [HL.out]; exact ham) hm2)
            have HAI := Lib.hid (fun w1 (h : Below w.heap.size w w1) => show ∀ j u, ((inn ns y m).flatMap ncs)[j]? = some u → w1.cell? ⟨b, off + (y + 1) * 19 + j, none⟩ = some u by
              unfold inn
              rw [flat_take ncs_length, flat_drop ncs_length]
              intro j u hu
              have := No.seg_cells (Seg.take (Seg.drop (HSG.out.below h) ((y + 1) * 19)) ((m - 2) * 19)) j u hu
              have hadd : (⟨b, off + (y + 1) * 19, none⟩ : Addr).add j = ⟨b, off + (y + 1) * 19 + j, none⟩ := by unfold Addr.add; split <;> simp_all
              rwa [hadd] at this)
            clear k13 k12 k17 h6 h11
            go_wp2_with (first | (go_at_call 93; refine (HEN.out y m _ HLOW.out HX.out.2 HB.out).mono ?_; rintro e w1 ⟨rfl, hb1⟩; have hn2 : w1.cell? ⟨b, off + y * 19, none⟩ = some (.int .i64 x.kind) := (block_cell hb1 hn1); have hcx2 : w1.cell? ⟨gx, i, none⟩ = some (.int .i64 (y : Int)) := (block_cell hb1 hcx); have HB1 := Lib.hid hb1; have HO1 := Lib.hid (HS.out.2.2.below hb1); have HL1 := Lib.hid (andThen HLOW.out hb1); have HL0 := Lib.hid (andThen HLOW0.out hb1); clear hb1) | (at_builtin; go_loud (refine wpList_append_at rfl (.tmp 54) (.tmp 63) rfl w0.heap.size HL0.out.size _ _ _ rfl HO1.out.two b (off + (y + 1) * 19) (c - (y + 1)) (y + m - 1 - (y + 1)) (inn ns y m) rfl (by rw [HTN.out]; omega) (.inr (Nat.lt_of_lt_of_le hb HL1.out.size)) (HAI.out _ HL1.out) (by rw [HTN.out]; have := HH.out.2; omega) ?_; intro v3 W3 hown3 hg3 hv3; have HG3 := Lib.hid (HO1.out.swap.grow hown3 hg3 hv3); have hlow3 := below_grown (Nat.le_refl _) HL0.out hg3 (fun q hq => (HO1.out.two.lt q hq).1); have HLW3 := Lib.hid hlow3; clear hown3 hg3 hv3 hlow3)))
            go_roundw
            case rel =>
              refine ⟨i + 1, by omega, by go_num, ⟨y + m, _, HS.out.1, HS.out.2.1, ?_, ?_, ?_⟩, HLW3.out⟩
              · rw [HP.out]; have := HH.out; simp only; omega
              · rw [HP.out]; have := HH.out; have := HTI; simp only [List.length_append]; omega
              · rw [HP.out]; exact HG3.out.swap
            case measure => simp [intOf]; omega
          · have e17 : (x.kind == 17) = false := by simp [k17]
            have HP := Lib.hid (pstep_stay (s := s) HX.out.1 HX.out.2 k13 k12 k17)
            clear k13 k12 k17 h6 h11
            go_wp2_with (first | (go_at_call 93; refine (HEN.out y m _ HLOW.out HX.out.2 HB.out).mono ?_; rintro e w1 ⟨rfl, hb1⟩; have hn2 : w1.cell? ⟨b, off + y * 19, none⟩ = some (.int .i64 x.kind) := (block_cell hb1 hn1); have hcx2 : w1.cell? ⟨gx, i, none⟩ = some (.int .i64 (y : Int)) := (block_cell hb1 hcx); have HB1 := Lib.hid hb1; have HO1 := Lib.hid (HS.out.2.2.below hb1); have HL1 := Lib.hid (andThen HLOW.out hb1); have HL0 := Lib.hid (andThen HLOW0.out hb1); clear hb1) | (at_builtin; go_loud (refine wpList_append_at rfl (.tmp 31) (.tmp 38) rfl w0.heap.size HL0.out.size _ _ _ rfl HO1.out.one b (off + y * 19) (c - y) (y + m - y) ((ns.drop y).take m) rfl (by rw [HTL.out]; omega) (.inr (Nat.lt_of_lt_of_le hb HL1.out.size)) (HAD.out _ HL1.out) (by rw [HTL.out]; have := HH.out.1; omega) ?_; intro v3 W3 hown3 hg3 hv3; have HG3 := Lib.hid (HO1.out.grow hown3 hg3 hv3); have hlow3 := below_grown (Nat.le_refl _) HL0.out hg3 (fun q hq => (HO1.out.one.lt q hq).1); have HLW3 := Lib.hid hlow3; clear hown3 hg3 hv3 hlow3)))
            go_roundw
            case rel =>
              refine ⟨i + 1, by omega, by go_num, ⟨y + m, _, HS.out.1, HS.out.2.1, ?_, ?_, ?_⟩, HLW3.out⟩
              · rw [HP.out]; have := HH.out; have := HTL.out; simp only [List.length_append]; omega
              · rw [HP.out]; have := HH.out; have := HTL.out; have := HTI; simp only [List.length_append]; omega
              · rw [HP.out]; exact HG3.out
            case measure => simp [intOf]; omega
    · obtain rfl : i = xs.length := by omega
      rw [List.drop_length] at hst hR
      have HS := Lib.hid (And.intro hR hO)
      clear hI hst hR hO h1 h2
      go_wp2_with fail
      go_ret2
      exact ⟨_, _, rfl, HS.out.1 ▸ ⟨own_base HS.out.2.one HB0.out.size, own_base HS.out.2.two HB0.out.size, HS.out.2.dist, HS.out.2.dist'⟩, HLOW.out⟩
end Go.Proofs.YtoboecenlangmaaGreat.Pk
end
section
namespace Go.Proofs.YtoboecenlangmaaGreat.Pk
open Go.ChangeShapes Go.WideShapes Go.ChangeAt Go.RowKit
open Me Np No
set_option linter.unusedVariables false
set_option linter.unusedSimpArgs false

theorem blkFit {w : World} {g : Nat} {n : Nd} (h : Blk w g 101 (nc n)) (sg od nu de : Int) :
    Blk ((((w.setCell ⟨g, 12, none⟩ (.int .i64 sg)).setCell ⟨g, 13, none⟩ (.int .i64 od)).setCell ⟨g, 14, none⟩ (.int .i64 nu)).setCell ⟨g, 15, none⟩ (.int .i64 de)) g 101 (nc (fitN n (sg, od, nu, de))) :=
  Blk.set (Blk.set (Blk.set (Blk.set h 12 (.int .i64 sg)) 13 (.int .i64 od)) 14 (.int .i64 nu)) 15 (.int .i64 de)
theorem nodeFit {w : World} {g : Nat} {n : Nd} (h : Blk w g 101 (nc n)) (sg od nu de : Int) :
    NodeAt ((((w.setCell ⟨g, 12, none⟩ (.int .i64 sg)).setCell ⟨g, 13, none⟩ (.int .i64 od)).setCell ⟨g, 14, none⟩ (.int .i64 nu)).setCell ⟨g, 15, none⟩ (.int .i64 de)) g 0 (fitN n (sg, od, nu, de)) :=
  Blk.node (blkFit h sg od nu de)
theorem setFour {w0 w : World} (h : Below w0.heap.size w0 w) (sg od nu de : Int) :
    Below w0.heap.size w0 ((((w.setCell ⟨w0.heap.size, 12, none⟩ (.int .i64 sg)).setCell ⟨w0.heap.size, 13, none⟩ (.int .i64 od)).setCell ⟨w0.heap.size, 14, none⟩ (.int .i64 nu)).setCell ⟨w0.heap.size, 15, none⟩ (.int .i64 de)) :=
  by
  refine Below.setCell ?_ (by exact Nat.le_refl _) _
  refine Below.setCell ?_ (by exact Nat.le_refl _) _
  refine Below.setCell ?_ (by exact Nat.le_refl _) _
  refine Below.setCell ?_ (by exact Nat.le_refl _) _
  exact h
theorem keepFour {w : World} {g t : Nat} {cs : Array Value} (h : Blk w (g + 1) t cs) (sg od nu de : Int) :
    Blk ((((w.setCell ⟨g, 12, none⟩ (.int .i64 sg)).setCell ⟨g, 13, none⟩ (.int .i64 od)).setCell ⟨g, 14, none⟩ (.int .i64 nu)).setCell ⟨g, 15, none⟩ (.int .i64 de)) (g + 1) t cs :=
  (((h.far (p := ⟨g, 12, none⟩) (by simp) (.int .i64 sg)).far (p := ⟨g, 13, none⟩) (by simp) (.int .i64 od)).far (p := ⟨g, 14, none⟩) (by simp) (.int .i64 nu)).far (p := ⟨g, 15, none⟩) (by simp) (.int .i64 de)
def BxO (L : List Nd) (V : Int × Int) (e3 : Int) (w : World) (e : Ending) (w' : World) : Prop :=
  if e3 = 0 then (∃ v, e = .returned (.tuple #[v, .int .i64 V.1, .int .i64 V.2, .int .i64 0]) ∧ w'.ownsRow w.heap.size 101 19 v L.length (L.flatMap ncs) ∧ Below w.heap.size w w')
  else e = .returned (.tuple #[.slice none 0 0, .int .i64 0, .int .i64 0, .int .i64 e3]) ∧ Below w.heap.size w w'
attribute [local go_sem ↓] ldN_eq
set_option maxHeartbeats 2000000 in
set_option maxRecDepth 100000 in
theorem rboxed_any (n : Nd) (A : Option Addr) (S L : List Nd) (k : Nat) (x a b c d p q r s ex e3 : Int) (em : Bool) (w : World) (hem : ((S.length : Int) == 0) = em) (hS : S.length ≤ 2000) (hseg : Seg w w.heap.size A (S.flatMap ncs)) (hA : A = none → k = 0)
    (hw : ∀ (A : Option Addr) (c' : Nat) (w : World), Seg w w.heap.size A (S.flatMap ncs) → (A = none → c' = 0) → Calls Tryz.prog 99 #[.agg (nc (fitN n (Gl.fit a b c d p q r s ex))), .slice A S.length c'] w fun e' w' => ∃ v, e' = .returned (.tuple #[v, .int .i64 e3]) ∧ w'.ownsRow w.heap.size 101 19 v L.length (L.flatMap ncs) ∧ Below w.heap.size w w')
    (e0 : Gl.nearB ex = true) (e1 : Gl.nearB a = true) (e2 : Gl.nearB p = true) (e4 : Gl.nearB b = true) (e5 : Gl.nearB q = true) (e6 : Gl.nearB c = true) (e7 : Gl.nearB r = true) (e8 : Gl.nearB d = true) (e9 : Gl.nearB s = true) :
    Calls Tryz.prog 52 #[.agg (nc n), .slice A S.length k, .agg #[.int .i64 x, .int .i64 a, .int .i64 b, .int .i64 c, .int .i64 d, .int .i64 p, .int .i64 q, .int .i64 r, .int .i64 s], .int .i64 ex] w (BxO L (setV (fitN n (Gl.fit a b c d p q r s ex)) a p em ex (0, 0)) e3 w) := by
  have HF := Lib.hid (fun w => Gl.rfit_all x a b c d p q r s ex w e0 e1 e2 e4 e5 e6 e7 e8 e9)
  have HBD := Lib.hid (fun w => rbad_any x a b c d p q r s ex n em w e0 e1 e2 e4 e5 e6 e7 e8 e9)
  have HWR := Lib.hid (fun (w1 : World) (hb : Below w.heap.size w w1) => hw A k w1 (Seg.belowW hseg hb) hA)
  have HB0 := Lib.hid (andAlloc (andAlloc (Below.refl _ w) (.cells (nc n) 101)) (.cells #[.int .i64 x, .int .i64 a, .int .i64 b, .int .i64 c, .int .i64 d, .int .i64 p, .int .i64 q, .int .i64 r, .int .i64 s] 109))
  have HN0 := Lib.hid (show Blk ((w.alloc (.cells (nc n) 101)).alloc (.cells #[.int .i64 x, .int .i64 a, .int .i64 b, .int .i64 c, .int .i64 d, .int .i64 p, .int .i64 q, .int .i64 r, .int .i64 s] 109)) w.heap.size 101 (nc n) from (Blk.new w _ _).alloc _)
  have HT0 := Lib.hid (show Blk ((w.alloc (.cells (nc n) 101)).alloc (.cells #[.int .i64 x, .int .i64 a, .int .i64 b, .int .i64 c, .int .i64 d, .int .i64 p, .int .i64 q, .int .i64 r, .int .i64 s] 109)) (w.heap.size + 1) 109 #[.int .i64 x, .int .i64 a, .int .i64 b, .int .i64 c, .int .i64 d, .int .i64 p, .int .i64 q, .int .i64 r, .int .i64 s] from Blk.new' (by first | rfl | (simp; done)))
  generalize Gl.fit a b c d p q r s ex = F at *
  obtain ⟨sg, od, nu, de⟩ := F
  simp only at HF
  generalize setV (fitN n (sg, od, nu, de)) a p em ex (0, 0) = V at *
  generalize S.length = len at *
  clear hw hseg
  by_cases h3 : e3 = 0
  · have t3 : (e3 != 0) = false := by simp [h3]
    go_enter Tryz.func52, Tryz.ntmps52
    go_wp2_with (first | (go_at_call 98; refine (HF.out _).mono ?_; rintro e w2 ⟨rfl, hb2⟩; have HB2 := Lib.hid (andThen HB0.out hb2); have HN2 := Lib.hid (show Blk w2 w.heap.size 101 (nc n) from Blk.below HN0.out hb2 (Blk.lt HN0.out)); have HT2 := Lib.hid (show Blk w2 (w.heap.size + 1) 109 #[.int .i64 x, .int .i64 a, .int .i64 b, .int .i64 c, .int .i64 d, .int .i64 p, .int .i64 q, .int .i64 r, .int .i64 s] from Blk.below HT0.out hb2 (Blk.lt HT0.out)); have hd12 : w2.cell? ⟨w.heap.size, 12, none⟩ = some (.int .i64 n.sign) := Blk.cell HN2.out 12; have hf12 := Blk.free HN2.out 12; have hd13 : w2.cell? ⟨w.heap.size, 13, none⟩ = some (.int .i64 n.order) := Blk.cell HN2.out 13; have hf13 := Blk.free HN2.out 13; have hd14 : w2.cell? ⟨w.heap.size, 14, none⟩ = some (.int .i64 n.num) := Blk.cell HN2.out 14; have hf14 := Blk.free HN2.out 14; have hd15 : w2.cell? ⟨w.heap.size, 15, none⟩ = some (.int .i64 n.den) := Blk.cell HN2.out 15; have hf15 := Blk.free HN2.out 15; have hld := run_ldN (nodeFit HN2.out sg od nu de); have HW2 := Lib.hid (setFour HB2.out sg od nu de); have HT3 := Lib.hid (keepFour HT2.out sg od nu de); clear hb2) | (go_at_call 99; refine (HWR.out _ HW2.out).mono ?_; rintro e w3 ⟨v, rfl, ho3, hb3⟩; have HO3 := Lib.hid (And.intro ho3 hb3); have hT3 : Blk w3 (w.heap.size + 1) 109 #[.int .i64 x, .int .i64 a, .int .i64 b, .int .i64 c, .int .i64 d, .int .i64 p, .int .i64 q, .int .i64 r, .int .i64 s] := Blk.below HT3.out hb3 (by have := Blk.lt HT3.out; exact this); have ht0 : w3.cell? ⟨w.heap.size + 1, 0, none⟩ = some (.int .i64 x) := Blk.cell hT3 0; have ht1 : w3.cell? ⟨w.heap.size + 1, 1, none⟩ = some (.int .i64 a) := Blk.cell hT3 1; have ht2 : w3.cell? ⟨w.heap.size + 1, 2, none⟩ = some (.int .i64 b) := Blk.cell hT3 2; have ht3 : w3.cell? ⟨w.heap.size + 1, 3, none⟩ = some (.int .i64 c) := Blk.cell hT3 3; have ht4 : w3.cell? ⟨w.heap.size + 1, 4, none⟩ = some (.int .i64 d) := Blk.cell hT3 4; have ht5 : w3.cell? ⟨w.heap.size + 1, 5, none⟩ = some (.int .i64 p) := Blk.cell hT3 5; have ht6 : w3.cell? ⟨w.heap.size + 1, 6, none⟩ = some (.int .i64 q) := Blk.cell hT3 6; have ht7 : w3.cell? ⟨w.heap.size + 1, 7, none⟩ = some (.int .i64 r) := Blk.cell hT3 7; have ht8 : w3.cell? ⟨w.heap.size + 1, 8, none⟩ = some (.int .i64 s) := Blk.cell hT3 8; clear ho3 hb3 hT3) | (go_at_call 100; refine (HBD.out _).mono ?_; rintro e w4 ⟨rfl, hb4⟩; have HB4 := Lib.hid hb4; clear hb4))
    go_returns
    unfold BxO
    rw [if_pos h3]
    exact ⟨_, rfl, own_below (own_base HO3.out.1 HW2.out.size) HB4.out, andThen (andThen HW2.out HO3.out.2) HB4.out⟩
  · have t3 : (e3 != 0) = true := by simp [h3]
    go_enter Tryz.func52, Tryz.ntmps52
    go_wp2_with (first | (go_at_call 98; refine (HF.out _).mono ?_; rintro e w2 ⟨rfl, hb2⟩; have HB2 := Lib.hid (andThen HB0.out hb2); have HN2 := Lib.hid (show Blk w2 w.heap.size 101 (nc n) from Blk.below HN0.out hb2 (Blk.lt HN0.out)); have HT2 := Lib.hid (show Blk w2 (w.heap.size + 1) 109 #[.int .i64 x, .int .i64 a, .int .i64 b, .int .i64 c, .int .i64 d, .int .i64 p, .int .i64 q, .int .i64 r, .int .i64 s] from Blk.below HT0.out hb2 (Blk.lt HT0.out)); have hd12 : w2.cell? ⟨w.heap.size, 12, none⟩ = some (.int .i64 n.sign) := Blk.cell HN2.out 12; have hf12 := Blk.free HN2.out 12; have hd13 : w2.cell? ⟨w.heap.size, 13, none⟩ = some (.int .i64 n.order) := Blk.cell HN2.out 13; have hf13 := Blk.free HN2.out 13; have hd14 : w2.cell? ⟨w.heap.size, 14, none⟩ = some (.int .i64 n.num) := Blk.cell HN2.out 14; have hf14 := Blk.free HN2.out 14; have hd15 : w2.cell? ⟨w.heap.size, 15, none⟩ = some (.int .i64 n.den) := Blk.cell HN2.out 15; have hf15 := Blk.free HN2.out 15; have hld := run_ldN (nodeFit HN2.out sg od nu de); have HW2 := Lib.hid (setFour HB2.out sg od nu de); have HT3 := Lib.hid (keepFour HT2.out sg od nu de); clear hb2) | (go_at_call 99; refine (HWR.out _ HW2.out).mono ?_; rintro e w3 ⟨v, rfl, ho3, hb3⟩; have HO3 := Lib.hid (And.intro ho3 hb3); have hT3 : Blk w3 (w.heap.size + 1) 109 #[.int .i64 x, .int .i64 a, .int .i64 b, .int .i64 c, .int .i64 d, .int .i64 p, .int .i64 q, .int .i64 r, .int .i64 s] := Blk.below HT3.out hb3 (by have := Blk.lt HT3.out; exact this); have ht0 : w3.cell? ⟨w.heap.size + 1, 0, none⟩ = some (.int .i64 x) := Blk.cell hT3 0; have ht1 : w3.cell? ⟨w.heap.size + 1, 1, none⟩ = some (.int .i64 a) := Blk.cell hT3 1; have ht2 : w3.cell? ⟨w.heap.size + 1, 2, none⟩ = some (.int .i64 b) := Blk.cell hT3 2; have ht3 : w3.cell? ⟨w.heap.size + 1, 3, none⟩ = some (.int .i64 c) := Blk.cell hT3 3; have ht4 : w3.cell? ⟨w.heap.size + 1, 4, none⟩ = some (.int .i64 d) := Blk.cell hT3 4; have ht5 : w3.cell? ⟨w.heap.size + 1, 5, none⟩ = some (.int .i64 p) := Blk.cell hT3 5; have ht6 : w3.cell? ⟨w.heap.size + 1, 6, none⟩ = some (.int .i64 q) := Blk.cell hT3 6; have ht7 : w3.cell? ⟨w.heap.size + 1, 7, none⟩ = some (.int .i64 r) := Blk.cell hT3 7; have ht8 : w3.cell? ⟨w.heap.size + 1, 8, none⟩ = some (.int .i64 s) := Blk.cell hT3 8; clear ho3 hb3 hT3) | (go_at_call 100; refine (HBD.out _).mono ?_; rintro e w4 ⟨rfl, hb4⟩; have HB4 := Lib.hid hb4; clear hb4))
    go_returns
    unfold BxO
    rw [if_neg h3]
    exact ⟨rfl, andThen HW2.out HO3.out.2⟩
end Go.Proofs.YtoboecenlangmaaGreat.Pk
end
section
namespace Go.Proofs.YtoboecenlangmaaGreat.Pk
open Go.ChangeShapes Go.WideShapes Go.ChangeAt Go.RowKit
open Me Np No
set_option linter.unusedVariables false
set_option linter.unusedSimpArgs false

theorem Src.none0 {w : World} {A : Option Addr} {c : Nat} {l : List Nd} (h : Src w A c l) : A = none → c = 0 := by
  rcases h with ⟨b, off, rfl, _⟩ | ⟨_, rfl, _⟩ | ⟨ad, rfl, _⟩
  · intro e; cases e
  · intro _; rfl
  · intro e; cases e
theorem out2 {w0 w w' : World} {v u : Value} {S O L : List Nd} {base : Nat} (h : Own2 w w0.heap.size v u S O) (hl : Below w0.heap.size w0 w) {vL : Value} (ho : w'.ownsRow base 101 19 vL L.length (L.flatMap ncs)) (hB : w.heap.size ≤ base) (hb : Below w.heap.size w w') (y z : Int) :
    HOut (L, O, y, z, 0) w0 (.returned (.tuple #[vL, u, .int .i64 y, .int .i64 z, .int .i64 0])) w' := by
  have hq : ∀ q, vL.ownBlock = some q → u.ownBlock ≠ some q := fun q h1 h2 => by
    have := (ho.lt q h1).1
    have := (h.two.lt q h2).2
    omega
  refine ⟨vL, u, rfl, ⟨own_base ho (Nat.le_trans hl.size hB), own_below h.two hb, ?_, ?_⟩, andThen hl hb⟩
  · cases e : vL.ownBlock with
    | none => exact .inl rfl
    | some q => exact .inr (fun e' => hq q e e'.symm)
  · cases e : u.ownBlock with
    | none => exact .inl rfl
    | some q => exact .inr (fun e' => hq q e'.symm e)
theorem rhpack_err (A : Option Addr) (ns : List Nd) (k : Nat) (tw : Int) (ex : Bool) (w : World) (hl : ns.length ≤ 9223372036854775806) (hseg : Seg w w.heap.size A (ns.flatMap ncs)) (hc : ¬ chk ns = 0) :
    Calls Tryz.prog 17 #[.slice A ns.length k, .int .i64 tw, .bool ex] w (HOut ([], [], 0, 0, chk ns) w) := by
  have e0 : (chk ns != 0) = true := by simp [hc]
  have e1 : (chk ns == 0) = false := by simp [hc]
  have HC := Lib.hid (rcheckl_any A ns k w (by omega) hseg)
  clear hseg hc
  generalize chk ns = q0 at *
  generalize ns.length = len at *
  go_enter Tryz.func17, Tryz.ntmps17
  go_wp2_with fail
  refine HC.out.mono ?_
  rintro e w1 ⟨rfl, hb1⟩
  go_wp2_with fail
  go_returns
  exact HOut.no hb1 _
theorem rhpack_far (A : Option Addr) (ns : List Nd) (k : Nat) (tw : Int) (ex : Bool) (w : World) (hl : ns.length ≤ 9223372036854775806) (hseg : Seg w w.heap.size A (ns.flatMap ncs)) (hc : chk ns = 0) (ht : dimB tw = false) :
    Calls Tryz.prog 17 #[.slice A ns.length k, .int .i64 tw, .bool ex] w (HOut ([], [], 0, 0, 11) w) := by
  have HC := Lib.hid (rcheckl_any A ns k w (by omega) hseg)
  rw [hc] at HC
  have HD := Lib.hid (fun w => rdimen_any tw w)
  rw [ht] at HD
  clear hseg hc
  generalize ns.length = len at *
  go_enter Tryz.func17, Tryz.ntmps17
  go_wp2_with fail
  refine HC.out.mono ?_
  rintro e w1 ⟨rfl, hb1⟩
  go_wp2_with (go_at_call 48; refine (HD.out _).mono ?_; rintro e w' ⟨rfl, rfl⟩)
  go_returns
  exact HOut.no hb1 _
end Go.Proofs.YtoboecenlangmaaGreat.Pk
end
section
namespace Go.Proofs.YtoboecenlangmaaGreat.Pk
open Go.ChangeShapes Go.WideShapes Go.ChangeAt Go.RowKit
open Me Np No
set_option linter.unusedVariables false
set_option linter.unusedSimpArgs false

theorem run_bldH (W h v : Int) (w : World) : (bldN #[(0, .int .i64 4), (3, .int .i64 W), (4, .int .i64 h), (5, .int .i64 v)]).run Tryz.prog w = .ok (.agg (nc (hN W h v))) w := by
  rw [← bldN_eq]
  exact run_build w 101 #[(0, .int .i64 4), (3, .int .i64 W), (4, .int .i64 h), (5, .int .i64 v)] (nc (hN W h v)) (by kernel_rfl)
attribute [local go_sem ↓] bldN_eq
set_option maxHeartbeats 4000000 in
set_option maxRecDepth 100000 in
theorem rhpack_main (A : Option Addr) (ns S O L : List Nd) (k : Nat) (tw : Int) (ex : Bool) (w : World) (hc : chk ns = 0) (hcap : ns.length ≤ k) (hseg : Seg w w.heap.size A (ns.flatMap ncs)) (ht : dimB tw = true) (hS : partD ns = (S, O)) (x a b c d p q r s e1 h v e2 e3 W : Int) (M : Msr S false x a b c d p q r s e1 h v e2) (MR : MsrR S false x a b c d p q r s e1 h v e2)
    (hW : W = if ex = true then tw else x + tw)
    (hw : ∀ (A : Option Addr) (c' : Nat) (w : World), Seg w w.heap.size A (S.flatMap ncs) → (A = none → c' = 0) → Calls Tryz.prog 99 #[.agg (nc (fitN (hN W h v) (Gl.fit a b c d p q r s (W - x)))), .slice A S.length c'] w fun e' w' => ∃ v, e' = .returned (.tuple #[v, .int .i64 e3]) ∧ w'.ownsRow w.heap.size 101 19 v L.length (L.flatMap ncs) ∧ Below w.heap.size w w') :
    Calls Tryz.prog 17 #[.slice A ns.length k, .int .i64 tw, .bool ex] w (HOut (hpkR e1 e2 (dimB W) e3 L O (setV (fitN (hN W h v) (Gl.fit a b c d p q r s (W - x))) a p ((S.length : Int) == 0) (W - x) (0, 0)).1 (setV (fitN (hN W h v) (Gl.fit a b c d p q r s (W - x))) a p ((S.length : Int) == 0) (W - x) (0, 0)).2) w) := by
  have hSl : S.length ≤ 2000 := by have := (partD_len hc).1; rw [hS] at this; exact this
  have HC := Lib.hid (rcheckl_any A ns k w (by have := (chk_run hc).1; omega) hseg)
  rw [hc] at HC
  have HD := Lib.hid (fun w => rdimen_any tw w)
  rw [ht] at HD
  have HP := Lib.hid (fun w1 (hb : Below w.heap.size w w1) => rparted_any A ns k w1 hc hcap (Seg.belowW hseg hb))
  rw [hS] at HP
  have HM := Lib.hid M
  have HMT := Lib.hid MR.tot
  have HME := Lib.hid MR.ext
  have HW := Lib.hid hw
  obtain ⟨R, hR⟩ : ∃ R, R = hpkR e1 e2 (dimB W) e3 L O (setV (fitN (hN W h v) (Gl.fit a b c d p q r s (W - x))) a p ((S.length : Int) == 0) (W - x) (0, 0)).1 (setV (fitN (hN W h v) (Gl.fit a b c d p q r s (W - x))) a p ((S.length : Int) == 0) (W - x) (0, 0)).2 := ⟨_, rfl⟩
  rw [← hR]
  have HR := Lib.hid hR
  have HWE := Lib.hid hW
  have htw : -1073741823 ≤ tw ∧ tw ≤ 1073741823 := by simpa [dimB] using ht
  clear hR hseg hc hS M MR hw hW ht
  generalize ns.length = len at *
  have hbH := run_bldH
  go_enter Tryz.func17, Tryz.ntmps17
  go_wp2_with fail
  refine HC.out.mono ?_
  rintro e w1 ⟨rfl, hb1⟩
  go_wp2_with (go_at_call 48; refine (HD.out _).mono ?_; rintro e w' ⟨rfl, rfl⟩)
  refine (HP.out _ hb1).mono ?_
  rintro e w2 ⟨vS, vO, rfl, hO, hb2⟩
  have hb12 := andThen hb1 hb2
  obtain ⟨AS, kS, hvS, hkS, hsrc⟩ : ∃ A c, vS = .slice A S.length c ∧ S.length ≤ c ∧ Src w2 A c S := by
    obtain ⟨A, c, h1, h2, _, h4⟩ := Src.own hO.one
    exact ⟨A, c, h1, h2, h4⟩
  subst hvS
  have HH := Lib.hid (show Own2 w2 w.heap.size (.slice AS S.length kS) vO S O from ⟨own_base hO.one hb1.size, own_base hO.two hb1.size, hO.dist, hO.dist'⟩)
  have HB2 := Lib.hid hb12
  have HSG := Lib.hid (fun (w3 : World) (hb : Below w2.heap.size w2 w3) => Seg.belowW hsrc.seg hb)
  have HN0 := Lib.hid (Src.none0 hsrc)
  have HBX := Lib.hid (fun (w3 : World) (hb : Below w2.heap.size w2 w3) (em : Bool) (hem : ((S.length : Int) == 0) = em) e0 e1 e2 e4 e5 e6 e7 e8 e9 => rboxed_any (hN W h v) AS S L kS x a b c d p q r s (W - x) e3 em w3 hem hSl (Seg.belowW hsrc.seg hb) (Src.none0 hsrc) HW.out e0 e1 e2 e4 e5 e6 e7 e8 e9)
  clear hO hb1 hb2 hb12 HC HP HW hsrc
  go_wp2_with fail
  refine (HMT.out AS kS w2 hkS (HSG.out w2 (Below.refl _ _))).mono ?_
  rintro e w4 ⟨rfl, hb4⟩
  have HBA := Lib.hid (fun ob => andAlloc hb4 ob)
  have HB4 := Lib.hid hb4
  clear hb4
  by_cases he1 : e1 = 0
  · have u1 : (e1 != 0) = false := by simp [he1]
    cases ex with
    | true =>
      have hnx := HM.out.nat he1
      have hnx' : -1073741823 ≤ x ∧ x ≤ 1073741823 := by simpa [dimB] using hnx
      have hwe : W = tw := HWE.out
      subst hwe
      have HNW := Lib.hid (show Gl.nearB (W - x) = true by unfold Gl.nearB; rw [decide_eq_true_eq]; omega)
      clear hnx
      by_cases he2 : e2 = 0
      · have u2 : (e2 != 0) = false := by simp [he2]
        by_cases hdw : dimB (W) = true
        · by_cases he3 : e3 = 0
          · have u3 : (e3 != 0) = false := by simp [he3]
            have hr := HR.out
            unfold hpkR at hr
            rw [if_pos he1, if_pos he2, if_pos hdw, if_pos he3] at hr
            have HR' := Lib.hid hr
            clear hr HR
            go_wp2_with (first | (go_at_call 51; refine (HME.out AS kS _ hkS (HSG.out _ (HBA.out _))).mono ?_; rintro e w6 ⟨rfl, hb6⟩; have hT6 : Blk w6 w4.heap.size 109 #[.int .i64 x, .int .i64 a, .int .i64 b, .int .i64 c, .int .i64 d, .int .i64 p, .int .i64 q, .int .i64 r, .int .i64 s] := Blk.below (Blk.new w4 _ _) hb6 (Blk.lt (Blk.new w4 109 #[.int .i64 x, .int .i64 a, .int .i64 b, .int .i64 c, .int .i64 d, .int .i64 p, .int .i64 q, .int .i64 r, .int .i64 s])); have ht0 : w6.cell? ⟨w4.heap.size, 0, none⟩ = some (.int .i64 x) := Blk.cell hT6 0; have ht1 : w6.cell? ⟨w4.heap.size, 1, none⟩ = some (.int .i64 a) := Blk.cell hT6 1; have ht2 : w6.cell? ⟨w4.heap.size, 2, none⟩ = some (.int .i64 b) := Blk.cell hT6 2; have ht3 : w6.cell? ⟨w4.heap.size, 3, none⟩ = some (.int .i64 c) := Blk.cell hT6 3; have ht4 : w6.cell? ⟨w4.heap.size, 4, none⟩ = some (.int .i64 d) := Blk.cell hT6 4; have ht5 : w6.cell? ⟨w4.heap.size, 5, none⟩ = some (.int .i64 p) := Blk.cell hT6 5; have ht6 : w6.cell? ⟨w4.heap.size, 6, none⟩ = some (.int .i64 q) := Blk.cell hT6 6; have ht7 : w6.cell? ⟨w4.heap.size, 7, none⟩ = some (.int .i64 r) := Blk.cell hT6 7; have ht8 : w6.cell? ⟨w4.heap.size, 8, none⟩ = some (.int .i64 s) := Blk.cell hT6 8; have HB6 := Lib.hid (andThen (HBA.out _) hb6); clear hb6 hT6) | (go_at_call 48; refine (rdimen_any _ _).mono ?_; rintro e w' ⟨rfl, rfl⟩) | (go_at_call 52; refine (HBX.out _ HB6.out _ rfl HNW.out (HM.out.near he1).1 (HM.out.near he1).2.2.2.2.1 (HM.out.near he1).2.1 (HM.out.near he1).2.2.2.2.2.1 (HM.out.near he1).2.2.1 (HM.out.near he1).2.2.2.2.2.2.1 (HM.out.near he1).2.2.2.1 (HM.out.near he1).2.2.2.2.2.2.2).mono ?_; rintro e w7 hq; unfold BxO at hq; rw [if_pos he3] at hq; obtain ⟨vL, rfl, ho7, hb7⟩ := hq; have HO7 := Lib.hid (And.intro ho7 hb7); clear ho7 hb7))
            go_returns
            rw [HR'.out]
            exact out2 HH.out HB2.out HO7.out.1 HB6.out.size (andThen HB6.out HO7.out.2) _ _
          · have u3 : (e3 != 0) = true := by simp [he3]
            have hr : R = ([], [], 0, 0, e3) := by rw [HR.out]; unfold hpkR; rw [if_pos he1, if_pos he2, if_pos hdw, if_neg he3]
            have HR' := Lib.hid hr
            clear hr HR
            go_wp2_with (first | (go_at_call 51; refine (HME.out AS kS _ hkS (HSG.out _ (HBA.out _))).mono ?_; rintro e w6 ⟨rfl, hb6⟩; have hT6 : Blk w6 w4.heap.size 109 #[.int .i64 x, .int .i64 a, .int .i64 b, .int .i64 c, .int .i64 d, .int .i64 p, .int .i64 q, .int .i64 r, .int .i64 s] := Blk.below (Blk.new w4 _ _) hb6 (Blk.lt (Blk.new w4 109 #[.int .i64 x, .int .i64 a, .int .i64 b, .int .i64 c, .int .i64 d, .int .i64 p, .int .i64 q, .int .i64 r, .int .i64 s])); have ht0 : w6.cell? ⟨w4.heap.size, 0, none⟩ = some (.int .i64 x) := Blk.cell hT6 0; have ht1 : w6.cell? ⟨w4.heap.size, 1, none⟩ = some (.int .i64 a) := Blk.cell hT6 1; have ht2 : w6.cell? ⟨w4.heap.size, 2, none⟩ = some (.int .i64 b) := Blk.cell hT6 2; have ht3 : w6.cell? ⟨w4.heap.size, 3, none⟩ = some (.int .i64 c) := Blk.cell hT6 3; have ht4 : w6.cell? ⟨w4.heap.size, 4, none⟩ = some (.int .i64 d) := Blk.cell hT6 4; have ht5 : w6.cell? ⟨w4.heap.size, 5, none⟩ = some (.int .i64 p) := Blk.cell hT6 5; have ht6 : w6.cell? ⟨w4.heap.size, 6, none⟩ = some (.int .i64 q) := Blk.cell hT6 6; have ht7 : w6.cell? ⟨w4.heap.size, 7, none⟩ = some (.int .i64 r) := Blk.cell hT6 7; have ht8 : w6.cell? ⟨w4.heap.size, 8, none⟩ = some (.int .i64 s) := Blk.cell hT6 8; have HB6 := Lib.hid (andThen (HBA.out _) hb6); clear hb6 hT6) | (go_at_call 48; refine (rdimen_any _ _).mono ?_; rintro e w' ⟨rfl, rfl⟩) | (go_at_call 52; refine (HBX.out _ HB6.out _ rfl HNW.out (HM.out.near he1).1 (HM.out.near he1).2.2.2.2.1 (HM.out.near he1).2.1 (HM.out.near he1).2.2.2.2.2.1 (HM.out.near he1).2.2.1 (HM.out.near he1).2.2.2.2.2.2.1 (HM.out.near he1).2.2.2.1 (HM.out.near he1).2.2.2.2.2.2.2).mono ?_; rintro e w7 hq; unfold BxO at hq; rw [if_neg he3] at hq; obtain ⟨rfl, hb7⟩ := hq; have HB7 := Lib.hid hb7; clear hb7))
            go_returns
            rw [HR'.out]
            exact HOut.no (andThen HB2.out (andThen HB6.out HB7.out)) _
        · have hdw' : dimB (W) = false := by simpa using hdw
          have hr : R = ([], [], 0, 0, 20) := by rw [HR.out]; unfold hpkR; rw [if_pos he1, if_pos he2, if_neg hdw]
          have HR' := Lib.hid hr
          clear hr HR hdw
          go_wp2_with (first | (go_at_call 51; refine (HME.out AS kS _ hkS (HSG.out _ (HBA.out _))).mono ?_; rintro e w6 ⟨rfl, hb6⟩; have hT6 : Blk w6 w4.heap.size 109 #[.int .i64 x, .int .i64 a, .int .i64 b, .int .i64 c, .int .i64 d, .int .i64 p, .int .i64 q, .int .i64 r, .int .i64 s] := Blk.below (Blk.new w4 _ _) hb6 (Blk.lt (Blk.new w4 109 #[.int .i64 x, .int .i64 a, .int .i64 b, .int .i64 c, .int .i64 d, .int .i64 p, .int .i64 q, .int .i64 r, .int .i64 s])); have ht0 : w6.cell? ⟨w4.heap.size, 0, none⟩ = some (.int .i64 x) := Blk.cell hT6 0; have ht1 : w6.cell? ⟨w4.heap.size, 1, none⟩ = some (.int .i64 a) := Blk.cell hT6 1; have ht2 : w6.cell? ⟨w4.heap.size, 2, none⟩ = some (.int .i64 b) := Blk.cell hT6 2; have ht3 : w6.cell? ⟨w4.heap.size, 3, none⟩ = some (.int .i64 c) := Blk.cell hT6 3; have ht4 : w6.cell? ⟨w4.heap.size, 4, none⟩ = some (.int .i64 d) := Blk.cell hT6 4; have ht5 : w6.cell? ⟨w4.heap.size, 5, none⟩ = some (.int .i64 p) := Blk.cell hT6 5; have ht6 : w6.cell? ⟨w4.heap.size, 6, none⟩ = some (.int .i64 q) := Blk.cell hT6 6; have ht7 : w6.cell? ⟨w4.heap.size, 7, none⟩ = some (.int .i64 r) := Blk.cell hT6 7; have ht8 : w6.cell? ⟨w4.heap.size, 8, none⟩ = some (.int .i64 s) := Blk.cell hT6 8; have HB6 := Lib.hid (andThen (HBA.out _) hb6); clear hb6 hT6) | (go_at_call 48; refine (rdimen_any _ _).mono ?_; rintro e w' ⟨rfl, rfl⟩))
          go_returns
          rw [HR'.out]
          exact HOut.no (andThen HB2.out HB6.out) _
      · have u2 : (e2 != 0) = true := by simp [he2]
        have h20 : e2 = 20 := by rcases HM.out.err he1 with h | h; exact absurd h he2; exact h
        have hr : R = ([], [], 0, 0, 20) := by rw [HR.out]; unfold hpkR; rw [if_pos he1, if_neg he2, h20]
        have HR' := Lib.hid hr
        clear hr HR h20
        cases hdw : dimB (W)
        all_goals
          go_wp2_with (first | (go_at_call 51; refine (HME.out AS kS _ hkS (HSG.out _ (HBA.out _))).mono ?_; rintro e w6 ⟨rfl, hb6⟩; have hT6 : Blk w6 w4.heap.size 109 #[.int .i64 x, .int .i64 a, .int .i64 b, .int .i64 c, .int .i64 d, .int .i64 p, .int .i64 q, .int .i64 r, .int .i64 s] := Blk.below (Blk.new w4 _ _) hb6 (Blk.lt (Blk.new w4 109 #[.int .i64 x, .int .i64 a, .int .i64 b, .int .i64 c, .int .i64 d, .int .i64 p, .int .i64 q, .int .i64 r, .int .i64 s])); have ht0 : w6.cell? ⟨w4.heap.size, 0, none⟩ = some (.int .i64 x) := Blk.cell hT6 0; have ht1 : w6.cell? ⟨w4.heap.size, 1, none⟩ = some (.int .i64 a) := Blk.cell hT6 1; have ht2 : w6.cell? ⟨w4.heap.size, 2, none⟩ = some (.int .i64 b) := Blk.cell hT6 2; have ht3 : w6.cell? ⟨w4.heap.size, 3, none⟩ = some (.int .i64 c) := Blk.cell hT6 3; have ht4 : w6.cell? ⟨w4.heap.size, 4, none⟩ = some (.int .i64 d) := Blk.cell hT6 4; have ht5 : w6.cell? ⟨w4.heap.size, 5, none⟩ = some (.int .i64 p) := Blk.cell hT6 5; have ht6 : w6.cell? ⟨w4.heap.size, 6, none⟩ = some (.int .i64 q) := Blk.cell hT6 6; have ht7 : w6.cell? ⟨w4.heap.size, 7, none⟩ = some (.int .i64 r) := Blk.cell hT6 7; have ht8 : w6.cell? ⟨w4.heap.size, 8, none⟩ = some (.int .i64 s) := Blk.cell hT6 8; have HB6 := Lib.hid (andThen (HBA.out _) hb6); clear hb6 hT6) | (go_at_call 48; refine (rdimen_any _ _).mono ?_; rintro e w' ⟨rfl, rfl⟩))
          go_returns
          rw [HR'.out]
          exact HOut.no (andThen HB2.out HB6.out) _
    | false =>
      have hnx := HM.out.nat he1
      have hnx' : -1073741823 ≤ x ∧ x ≤ 1073741823 := by simpa [dimB] using hnx
      have hwe : W = x + tw := HWE.out
      subst hwe
      have HNW := Lib.hid (show Gl.nearB (x + tw - x) = true by unfold Gl.nearB; rw [decide_eq_true_eq]; omega)
      clear hnx
      by_cases he2 : e2 = 0
      · have u2 : (e2 != 0) = false := by simp [he2]
        by_cases hdw : dimB (x + tw) = true
        · by_cases he3 : e3 = 0
          · have u3 : (e3 != 0) = false := by simp [he3]
            have hr := HR.out
            unfold hpkR at hr
            rw [if_pos he1, if_pos he2, if_pos hdw, if_pos he3] at hr
            have HR' := Lib.hid hr
            clear hr HR
            go_wp2_with (first | (go_at_call 51; refine (HME.out AS kS _ hkS (HSG.out _ (HBA.out _))).mono ?_; rintro e w6 ⟨rfl, hb6⟩; have hT6 : Blk w6 w4.heap.size 109 #[.int .i64 x, .int .i64 a, .int .i64 b, .int .i64 c, .int .i64 d, .int .i64 p, .int .i64 q, .int .i64 r, .int .i64 s] := Blk.below (Blk.new w4 _ _) hb6 (Blk.lt (Blk.new w4 109 #[.int .i64 x, .int .i64 a, .int .i64 b, .int .i64 c, .int .i64 d, .int .i64 p, .int .i64 q, .int .i64 r, .int .i64 s])); have ht0 : w6.cell? ⟨w4.heap.size, 0, none⟩ = some (.int .i64 x) := Blk.cell hT6 0; have ht1 : w6.cell? ⟨w4.heap.size, 1, none⟩ = some (.int .i64 a) := Blk.cell hT6 1; have ht2 : w6.cell? ⟨w4.heap.size, 2, none⟩ = some (.int .i64 b) := Blk.cell hT6 2; have ht3 : w6.cell? ⟨w4.heap.size, 3, none⟩ = some (.int .i64 c) := Blk.cell hT6 3; have ht4 : w6.cell? ⟨w4.heap.size, 4, none⟩ = some (.int .i64 d) := Blk.cell hT6 4; have ht5 : w6.cell? ⟨w4.heap.size, 5, none⟩ = some (.int .i64 p) := Blk.cell hT6 5; have ht6 : w6.cell? ⟨w4.heap.size, 6, none⟩ = some (.int .i64 q) := Blk.cell hT6 6; have ht7 : w6.cell? ⟨w4.heap.size, 7, none⟩ = some (.int .i64 r) := Blk.cell hT6 7; have ht8 : w6.cell? ⟨w4.heap.size, 8, none⟩ = some (.int .i64 s) := Blk.cell hT6 8; have HB6 := Lib.hid (andThen (HBA.out _) hb6); clear hb6 hT6) | (go_at_call 48; refine (rdimen_any _ _).mono ?_; rintro e w' ⟨rfl, rfl⟩) | (go_at_call 52; refine (HBX.out _ HB6.out _ rfl HNW.out (HM.out.near he1).1 (HM.out.near he1).2.2.2.2.1 (HM.out.near he1).2.1 (HM.out.near he1).2.2.2.2.2.1 (HM.out.near he1).2.2.1 (HM.out.near he1).2.2.2.2.2.2.1 (HM.out.near he1).2.2.2.1 (HM.out.near he1).2.2.2.2.2.2.2).mono ?_; rintro e w7 hq; unfold BxO at hq; rw [if_pos he3] at hq; obtain ⟨vL, rfl, ho7, hb7⟩ := hq; have HO7 := Lib.hid (And.intro ho7 hb7); clear ho7 hb7))
            go_returns
            rw [HR'.out]
            exact out2 HH.out HB2.out HO7.out.1 HB6.out.size (andThen HB6.out HO7.out.2) _ _
          · have u3 : (e3 != 0) = true := by simp [he3]
            have hr : R = ([], [], 0, 0, e3) := by rw [HR.out]; unfold hpkR; rw [if_pos he1, if_pos he2, if_pos hdw, if_neg he3]
            have HR' := Lib.hid hr
            clear hr HR
            go_wp2_with (first | (go_at_call 51; refine (HME.out AS kS _ hkS (HSG.out _ (HBA.out _))).mono ?_; rintro e w6 ⟨rfl, hb6⟩; have hT6 : Blk w6 w4.heap.size 109 #[.int .i64 x, .int .i64 a, .int .i64 b, .int .i64 c, .int .i64 d, .int .i64 p, .int .i64 q, .int .i64 r, .int .i64 s] := Blk.below (Blk.new w4 _ _) hb6 (Blk.lt (Blk.new w4 109 #[.int .i64 x, .int .i64 a, .int .i64 b, .int .i64 c, .int .i64 d, .int .i64 p, .int .i64 q, .int .i64 r, .int .i64 s])); have ht0 : w6.cell? ⟨w4.heap.size, 0, none⟩ = some (.int .i64 x) := Blk.cell hT6 0; have ht1 : w6.cell? ⟨w4.heap.size, 1, none⟩ = some (.int .i64 a) := Blk.cell hT6 1; have ht2 : w6.cell? ⟨w4.heap.size, 2, none⟩ = some (.int .i64 b) := Blk.cell hT6 2; have ht3 : w6.cell? ⟨w4.heap.size, 3, none⟩ = some (.int .i64 c) := Blk.cell hT6 3; have ht4 : w6.cell? ⟨w4.heap.size, 4, none⟩ = some (.int .i64 d) := Blk.cell hT6 4; have ht5 : w6.cell? ⟨w4.heap.size, 5, none⟩ = some (.int .i64 p) := Blk.cell hT6 5; have ht6 : w6.cell? ⟨w4.heap.size, 6, none⟩ = some (.int .i64 q) := Blk.cell hT6 6; have ht7 : w6.cell? ⟨w4.heap.size, 7, none⟩ = some (.int .i64 r) := Blk.cell hT6 7; have ht8 : w6.cell? ⟨w4.heap.size, 8, none⟩ = some (.int .i64 s) := Blk.cell hT6 8; have HB6 := Lib.hid (andThen (HBA.out _) hb6); clear hb6 hT6) | (go_at_call 48; refine (rdimen_any _ _).mono ?_; rintro e w' ⟨rfl, rfl⟩) | (go_at_call 52; refine (HBX.out _ HB6.out _ rfl HNW.out (HM.out.near he1).1 (HM.out.near he1).2.2.2.2.1 (HM.out.near he1).2.1 (HM.out.near he1).2.2.2.2.2.1 (HM.out.near he1).2.2.1 (HM.out.near he1).2.2.2.2.2.2.1 (HM.out.near he1).2.2.2.1 (HM.out.near he1).2.2.2.2.2.2.2).mono ?_; rintro e w7 hq; unfold BxO at hq; rw [if_neg he3] at hq; obtain ⟨rfl, hb7⟩ := hq; have HB7 := Lib.hid hb7; clear hb7))
            go_returns
            rw [HR'.out]
            exact HOut.no (andThen HB2.out (andThen HB6.out HB7.out)) _
        · have hdw' : dimB (x + tw) = false := by simpa using hdw
          have hr : R = ([], [], 0, 0, 20) := by rw [HR.out]; unfold hpkR; rw [if_pos he1, if_pos he2, if_neg hdw]
          have HR' := Lib.hid hr
          clear hr HR hdw
          go_wp2_with (first | (go_at_call 51; refine (HME.out AS kS _ hkS (HSG.out _ (HBA.out _))).mono ?_; rintro e w6 ⟨rfl, hb6⟩; have hT6 : Blk w6 w4.heap.size 109 #[.int .i64 x, .int .i64 a, .int .i64 b, .int .i64 c, .int .i64 d, .int .i64 p, .int .i64 q, .int .i64 r, .int .i64 s] := Blk.below (Blk.new w4 _ _) hb6 (Blk.lt (Blk.new w4 109 #[.int .i64 x, .int .i64 a, .int .i64 b, .int .i64 c, .int .i64 d, .int .i64 p, .int .i64 q, .int .i64 r, .int .i64 s])); have ht0 : w6.cell? ⟨w4.heap.size, 0, none⟩ = some (.int .i64 x) := Blk.cell hT6 0; have ht1 : w6.cell? ⟨w4.heap.size, 1, none⟩ = some (.int .i64 a) := Blk.cell hT6 1; have ht2 : w6.cell? ⟨w4.heap.size, 2, none⟩ = some (.int .i64 b) := Blk.cell hT6 2; have ht3 : w6.cell? ⟨w4.heap.size, 3, none⟩ = some (.int .i64 c) := Blk.cell hT6 3; have ht4 : w6.cell? ⟨w4.heap.size, 4, none⟩ = some (.int .i64 d) := Blk.cell hT6 4; have ht5 : w6.cell? ⟨w4.heap.size, 5, none⟩ = some (.int .i64 p) := Blk.cell hT6 5; have ht6 : w6.cell? ⟨w4.heap.size, 6, none⟩ = some (.int .i64 q) := Blk.cell hT6 6; have ht7 : w6.cell? ⟨w4.heap.size, 7, none⟩ = some (.int .i64 r) := Blk.cell hT6 7; have ht8 : w6.cell? ⟨w4.heap.size, 8, none⟩ = some (.int .i64 s) := Blk.cell hT6 8; have HB6 := Lib.hid (andThen (HBA.out _) hb6); clear hb6 hT6) | (go_at_call 48; refine (rdimen_any _ _).mono ?_; rintro e w' ⟨rfl, rfl⟩))
          go_returns
          rw [HR'.out]
          exact HOut.no (andThen HB2.out HB6.out) _
      · have u2 : (e2 != 0) = true := by simp [he2]
        have h20 : e2 = 20 := by rcases HM.out.err he1 with h | h; exact absurd h he2; exact h
        have hr : R = ([], [], 0, 0, 20) := by rw [HR.out]; unfold hpkR; rw [if_pos he1, if_neg he2, h20]
        have HR' := Lib.hid hr
        clear hr HR h20
        cases hdw : dimB (x + tw)
        all_goals
          go_wp2_with (first | (go_at_call 51; refine (HME.out AS kS _ hkS (HSG.out _ (HBA.out _))).mono ?_; rintro e w6 ⟨rfl, hb6⟩; have hT6 : Blk w6 w4.heap.size 109 #[.int .i64 x, .int .i64 a, .int .i64 b, .int .i64 c, .int .i64 d, .int .i64 p, .int .i64 q, .int .i64 r, .int .i64 s] := Blk.below (Blk.new w4 _ _) hb6 (Blk.lt (Blk.new w4 109 #[.int .i64 x, .int .i64 a, .int .i64 b, .int .i64 c, .int .i64 d, .int .i64 p, .int .i64 q, .int .i64 r, .int .i64 s])); have ht0 : w6.cell? ⟨w4.heap.size, 0, none⟩ = some (.int .i64 x) := Blk.cell hT6 0; have ht1 : w6.cell? ⟨w4.heap.size, 1, none⟩ = some (.int .i64 a) := Blk.cell hT6 1; have ht2 : w6.cell? ⟨w4.heap.size, 2, none⟩ = some (.int .i64 b) := Blk.cell hT6 2; have ht3 : w6.cell? ⟨w4.heap.size, 3, none⟩ = some (.int .i64 c) := Blk.cell hT6 3; have ht4 : w6.cell? ⟨w4.heap.size, 4, none⟩ = some (.int .i64 d) := Blk.cell hT6 4; have ht5 : w6.cell? ⟨w4.heap.size, 5, none⟩ = some (.int .i64 p) := Blk.cell hT6 5; have ht6 : w6.cell? ⟨w4.heap.size, 6, none⟩ = some (.int .i64 q) := Blk.cell hT6 6; have ht7 : w6.cell? ⟨w4.heap.size, 7, none⟩ = some (.int .i64 r) := Blk.cell hT6 7; have ht8 : w6.cell? ⟨w4.heap.size, 8, none⟩ = some (.int .i64 s) := Blk.cell hT6 8; have HB6 := Lib.hid (andThen (HBA.out _) hb6); clear hb6 hT6) | (go_at_call 48; refine (rdimen_any _ _).mono ?_; rintro e w' ⟨rfl, rfl⟩))
          go_returns
          rw [HR'.out]
          exact HOut.no (andThen HB2.out HB6.out) _
  · have u1 : (e1 != 0) = true := by simp [he1]
    have hr : R = ([], [], 0, 0, e1) := by rw [HR.out]; unfold hpkR; rw [if_neg he1]
    have HR' := Lib.hid hr
    clear hr HR
    go_wp2_with fail
    go_returns
    rw [HR'.out]
    exact HOut.no (andThen HB2.out (HBA.out _)) _
end Go.Proofs.YtoboecenlangmaaGreat.Pk
end
section
namespace Go.Proofs.YtoboecenlangmaaGreat.No
open Go.ChangeShapes Go.WideShapes Go.ChangeAt Go.RowKit
open Me Np
set_option linter.unusedVariables false
set_option linter.unusedSimpArgs false

/-- Wrap. -/
def WrpP (n : Nd) (ns : List Nd) (L : List Nd) (e : Int) : Prop := (∀ (A : Option Addr) (c : Nat) (w : World), Src w A c ns →
    Calls Tryz.prog 88 #[.agg (nc n), .slice A ns.length c] w fun e' w' => ∃ v, e' = .returned (.tuple #[v, .int .i64 e]) ∧ w'.ownsRow w.heap.size 101 19 v L.length (L.flatMap ncs) ∧ Below w.heap.size w w') ∧
  (∀ (A : Option Addr) (c : Nat) (w : World), Seg w w.heap.size A (ns.flatMap ncs) → (A = none → c = 0) →
    Calls Tryz.prog 99 #[.agg (nc n), .slice A ns.length c] w fun e' w' => ∃ v, e' = .returned (.tuple #[v, .int .i64 e]) ∧ w'.ownsRow w.heap.size 101 19 v L.length (L.flatMap ncs) ∧ Below w.heap.size w w')
theorem wrp_case (n : Nd) (ns : List Nd) (hl : ns.length ≤ 879609302220) : ∃ L e, L.length ≤ 2002 ∧ WrpP n ns L e := by
  cases hr : right n
  · refine ⟨[], 1, by simp, fun A c w hs => (wrap_r n A ns c w hr).mono ?_, fun A c w hs hA => (rwrap_r n A ns c w hr).mono ?_⟩
    · rintro e w' ⟨rfl, hb⟩; exact ⟨_, rfl, World.ownsRow_nil _ _ _ _, hb⟩
    · rintro e w' ⟨rfl, hb⟩; exact ⟨_, rfl, World.ownsRow_nil _ _ _ _, hb⟩
  · cases ho : opensB n
    · refine ⟨[], 1, by simp, fun A c w hs => (wrap_o n A ns c w hr ho).mono ?_, fun A c w hs hA => (rwrap_o n A ns c w hr ho).mono ?_⟩
      · rintro e w' ⟨rfl, hb⟩; exact ⟨_, rfl, World.ownsRow_nil _ _ _ _, hb⟩
      · rintro e w' ⟨rfl, hb⟩; exact ⟨_, rfl, World.ownsRow_nil _ _ _ _, hb⟩
    · by_cases h10 : n.kind = 10
      · refine ⟨[], 1, by simp, fun A c w hs => (wrap_d n A ns c w hr ho h10).mono ?_, fun A c w hs hA => (rwrap_d n A ns c w hr ho h10).mono ?_⟩
        · rintro e w' ⟨rfl, hb⟩; exact ⟨_, rfl, World.ownsRow_nil _ _ _ _, hb⟩
        · rintro e w' ⟨rfl, hb⟩; exact ⟨_, rfl, World.ownsRow_nil _ _ _ _, hb⟩
      · by_cases hc : chk ns = 0
        · by_cases hw : chk (wrapL n ns) = 0
          · have h2 := (chk_run hw).1
            refine ⟨wrapL n ns, 0, by omega, fun A c w hs => (wrap_ok n A ns c w hs hr ho h10 hc hw).mono ?_, fun A c w hs hA => (rwrap_ok n A ns c w hs hA hr ho h10 hc hw).mono ?_⟩
            · rintro e w' ⟨v, rfl, h, hb⟩; exact ⟨v, rfl, h, hb⟩
            · rintro e w' ⟨v, rfl, h, hb⟩; exact ⟨v, rfl, h, hb⟩
          · refine ⟨[], chk (wrapL n ns), by simp, fun A c w hs => (wrap_w n A ns c w hs hr ho h10 hc hw).mono ?_, fun A c w hs hA => (rwrap_w n A ns c w hs hA hr ho h10 hc hw).mono ?_⟩
            · rintro e w' ⟨rfl, hb⟩; exact ⟨_, rfl, World.ownsRow_nil _ _ _ _, hb⟩
            · rintro e w' ⟨rfl, hb⟩; exact ⟨_, rfl, World.ownsRow_nil _ _ _ _, hb⟩
        · refine ⟨[], chk ns, by simp, fun A c w hs => (wrap_c n A ns c w (by omega) (Src.seg hs) hr ho h10 hc).mono ?_, fun A c w hs hA => (rwrap_c n A ns c w (by omega) hs hr ho h10 hc).mono ?_⟩
          · rintro e w' ⟨rfl, hb⟩; exact ⟨_, rfl, World.ownsRow_nil _ _ _ _, hb⟩
          · rintro e w' ⟨rfl, hb⟩; exact ⟨_, rfl, World.ownsRow_nil _ _ _ _, hb⟩
end Go.Proofs.YtoboecenlangmaaGreat.No
end
section
namespace Go.Proofs.YtoboecenlangmaaGreat.Pk
open Go.ChangeShapes Go.WideShapes Go.ChangeAt Go.RowKit
open Me Np No
set_option linter.unusedVariables false
set_option linter.unusedSimpArgs false

/-- What Hpack comes to, both. -/
def HpkP (ns : List Nd) (tw : Int) (ex : Bool) (R : List Nd × List Nd × Int × Int × Int) : Prop :=
  (∀ (A : Option Addr) (k : Nat) (w : World), ns.length ≤ k → Seg w w.heap.size A (ns.flatMap ncs) → Calls Tryz.prog 16 #[.slice A ns.length k, .int .i64 tw, .bool ex] w (HOut R w)) ∧
  (∀ (A : Option Addr) (k : Nat) (w : World), ns.length ≤ k → Seg w w.heap.size A (ns.flatMap ncs) → Calls Tryz.prog 17 #[.slice A ns.length k, .int .i64 tw, .bool ex] w (HOut R w))
theorem hpkR_len (e1 e2 : Int) (dW : Bool) (e3 : Int) (L O : List Nd) (y z : Int) (hL : L.length ≤ 2002) (hO : O.length ≤ 2000) : (hpkR e1 e2 dW e3 L O y z).1.length ≤ 2002 ∧ (hpkR e1 e2 dW e3 L O y z).2.1.length ≤ 2000 := by
  unfold hpkR
  split
  · split
    · split
      · split
        · exact ⟨hL, hO⟩
        · exact ⟨by simp, by simp⟩
      · exact ⟨by simp, by simp⟩
    · exact ⟨by simp, by simp⟩
  · exact ⟨by simp, by simp⟩
theorem hpack_case (ns : List Nd) (tw : Int) (ex : Bool) (hl : ns.length ≤ 9223372036854775806) : ∃ R, R.1.length ≤ 2002 ∧ R.2.1.length ≤ 2000 ∧ HpkP ns tw ex R := by
  by_cases hc : chk ns = 0
  · cases ht : dimB tw
    · exact ⟨([], [], 0, 0, 11), by simp, by simp, fun A k w hk hs => hpack_far A ns k tw ex w hl hs hc ht, fun A k w hk hs => rhpack_far A ns k tw ex w hl hs hc ht⟩
    · obtain ⟨S, O, hS⟩ : ∃ S O, partD ns = (S, O) := ⟨_, _, rfl⟩
      have hlen := partD_len hc
      rw [hS] at hlen
      have hlen1 : S.length ≤ 2000 := hlen.1
      obtain ⟨x, a, b, c, d, p, q, r, s, e1, h, v, e2, M, MR⟩ := msr_case S false (by omega)
      obtain ⟨L, e3, hL, hP⟩ := wrp_case (fitN (hN (if ex = true then tw else tw + x) h v) (Gl.fit a b c d p q r s ((if ex = true then tw else tw + x) - x))) S (by omega)
      refine ⟨_, (hpkR_len e1 e2 (dimB (if ex = true then tw else tw + x)) e3 L O _ _ hL hlen.2).1, (hpkR_len e1 e2 (dimB (if ex = true then tw else tw + x)) e3 L O _ _ hL hlen.2).2, fun A k w hk hs => hpack_main A ns S O L k tw ex w hc hk hs ht hS x a b c d p q r s e1 h v e2 e3 _ M rfl hP.1, fun A k w hk hs => rhpack_main A ns S O L k tw ex w hc hk hs ht hS x a b c d p q r s e1 h v e2 e3 _ M MR (by rw [Int.add_comm]) hP.2⟩
  · exact ⟨([], [], 0, 0, chk ns), by simp, by simp, fun A k w hk hs => hpack_err A ns k tw ex w hl hs hc, fun A k w hk hs => rhpack_err A ns k tw ex w hl hs hc⟩
end Go.Proofs.YtoboecenlangmaaGreat.Pk
end
section
namespace Go.Proofs.YtoboecenlangmaaGreat.Al
open Go.ChangeShapes Go.WideShapes Go.ChangeAt Go.RowKit
open Me Np No Pk
open Gl (G Row)
set_option linter.unusedVariables false
set_option linter.unusedSimpArgs false

/-- The document's Hpack tells of a list what the program's does. -/
theorem wd_ref (w : World) (l : List Nd) (hl : l.length ≤ 9223372036854775806) : ∃ R, R.2.2.2.2 = (wd l).1 ∧ R.1.length ≤ 2002 ∧ ((wd l).1 = 0 → ∃ n r, R.1 = n :: r ∧ n.wd = (wd l).2) ∧
    ∀ (A : Option Addr) (k : Nat) (w : World), l.length ≤ k → Seg w w.heap.size A (l.flatMap ncs) → Calls Tryz.prog 17 #[.slice A l.length k, .int .i64 0, .bool false] w (HOut R w) := by
  obtain ⟨R, hR1, hR2, hP, hQ⟩ := hpack_case l 0 false hl
  obtain ⟨_, T, hE, hT1, _, hg, hb, hcall⟩ := wd_is l hl
  have hs : Seg (w.alloc (.cells (l.flatMap ncs).toArray 101)) (w.alloc (.cells (l.flatMap ncs).toArray 101)).heap.size (some ⟨w.heap.size, 0, none⟩) (l.flatMap ncs) :=
    .inr ⟨w.heap.size, 0, rfl, by simp, fun j u hu => by rw [Nat.zero_add, (Blk.new w _ _).cell j]; simpa using hu⟩
  have k1 := hcall (some ⟨w.heap.size, 0, none⟩) l.length _ (Nat.le_refl _) hs
  have k2 := hP (some ⟨w.heap.size, 0, none⟩) l.length _ (Nat.le_refl _) hs
  generalize w.alloc (.cells (l.flatMap ncs).toArray 101) = W at k1 k2
  obtain ⟨v, w', r1, r2⟩ := agree (R := fun v w' => ∃ x u, v = .tuple #[x, u, .int .i64 T.2.2.1, .int .i64 T.2.2.2.1, .int .i64 T.2.2.2.2] ∧ Own2 w' W.heap.size x u T.1 T.2.1)
    (R' := fun v w' => ∃ x u, v = .tuple #[x, u, .int .i64 R.2.2.1, .int .i64 R.2.2.2.1, .int .i64 R.2.2.2.2] ∧ Own2 w' W.heap.size x u R.1 R.2.1)
    (k1.mono (by rintro e w' ⟨x, u, rfl, ho, _⟩; exact ⟨_, rfl, x, u, rfl, ho⟩)) (k2.mono (by rintro e w' ⟨x, u, rfl, ho, _⟩; exact ⟨_, rfl, x, u, rfl, ho⟩)) (by kernel_rfl)
  obtain ⟨x, u, rfl, o1⟩ := r1
  obtain ⟨x', u', hv, o2⟩ := r2
  injection hv with hv
  injection hv with hv
  simp only [List.cons.injEq, Value.int.injEq, true_and, and_true] at hv
  obtain ⟨rfl, rfl, _, _, hz⟩ := hv
  refine ⟨R, by rw [← hz, hE], hR1, fun h0 => ?_, hQ⟩
  obtain ⟨n, r, hT, hn⟩ := hg h0
  have q1 := o1.one
  have q2 := o2.one
  obtain ⟨A1, c1, rfl, _⟩ := val_own q1
  obtain ⟨A2, c2, e3, _⟩ := val_own q2
  have hlen : T.1.length = R.1.length := by injection e3
  match hRR : R.1 with
  | [] =>
    rw [hRR, hT] at hlen
    simp at hlen
  | n' :: r' =>
    refine ⟨n', r', rfl, ?_⟩
    have q2' : w'.ownsRow W.heap.size 101 19 (.slice A1 R.1.length c1) R.1.length (R.1.flatMap ncs) := by rw [← hlen] at q2 ⊢; exact q2
    obtain ⟨b1, o1', hA1, hc1⟩ := head_cells q1 hT
    obtain ⟨b2, o2', hA2, hc2⟩ := head_cells q2' hRR
    rw [hA1] at hA2
    simp only [Option.some.injEq, Addr.mk.injEq, and_true] at hA2
    obtain ⟨rfl, rfl⟩ := hA2
    have e1 := (hc1 w' (Below.refl _ _)).1
    have e2 := (hc2 w' (Below.refl _ _)).1
    rw [e1] at e2
    simp only [Option.some.injEq, Value.int.injEq, true_and] at e2
    rw [← e2]
    exact hn
/-- natural. -/
theorem natural_al (x : Cl) (w : World) (h : LsOk w (fun _ => True) x.A x.c x.l) (hE : (wd x.l).1 = 0) :
    Calls Tryz.prog 36 #[.agg #[.slice x.A x.l.length x.c, .int .i64 x.sp]] w fun e w' => e = .returned (.int .i64 (wd x.l).2) ∧ Below w.heap.size w w' := by
  have hxl := h.len
  obtain ⟨⟨Lb, Lo, bad, ov, E⟩, hRE, hl1, hgd, hcall⟩ := wd_ref w x.l (by omega)
  simp only at hRE hl1 hgd
  have HCALL := Lib.hid (fun (w' : World) (hb : Below w.heap.size w w') => hcall x.A x.c w' h.cap (Seg.belowW h.seg.seg hb))
  rw [hE] at hRE
  subst hRE
  obtain ⟨n0, r0, hLb, hn0⟩ := hgd hE
  have hlb : (0 : Int) < (Lb.length : Int) := by rw [hLb]; simp
  have hlc : 0 < Lb.length := by rw [hLb]; simp
  have HLB := Lib.hid (And.intro hLb hn0)
  clear hLb hn0 hgd hcall h hE
  go_enter Tryz.func36, Tryz.ntmps36
  go_wp2_with fail
  refine (HCALL.out _ (andAlloc (Below.refl _ _) _)).mono ?_
  rintro e w5 ⟨vb, vo, rfl, oao, hb5⟩
  obtain ⟨Ab, xb, f0, hxb⟩ := val_own oao.one
  obtain ⟨Ao, xo, f1, _⟩ := val_own oao.two
  simp only at f0 f1
  subst f0 f1
  obtain ⟨b1, o1, rfl, hce⟩ := head_cells oao.one HLB.out.1
  have hcw := (hce w5 (Below.refl _ _)).1
  rw [HLB.out.2] at hcw
  have HB5 := Lib.hid (andThen (andAlloc (Below.refl w.heap.size w) (.cells #[.slice x.A x.l.length x.c, .int .i64 x.sp] 86)) hb5)
  clear oao hb5 hce HLB hxb
  simp only
  generalize Lb.length = la at *
  go_wp2_with fail
  go_ret
  exact ⟨rfl, HB5.out⟩
theorem dimen11_al (z : Int) (w : World) : Calls Tryz.prog 37 #[.int .i64 z] w fun e w' => e = .returned (.bool (dimB z)) ∧ w = w' := by
  by_cases h0 : -1073741823 ≤ z
  · by_cases h1 : z ≤ 1073741823
    · have HD := Lib.hid (show dimB z = true by simp [dimB, h0, h1])
      go_enter Tryz.func37, Tryz.ntmps37
      go_wp2_with fail
      go_ret
      exact ⟨by rw [HD.out]; rfl, rfl⟩
    · have HD := Lib.hid (show dimB z = false by simp [dimB, h1])
      go_enter Tryz.func37, Tryz.ntmps37
      go_wp2_with fail
      go_ret
      exact ⟨by rw [HD.out]; rfl, rfl⟩
  · have HD := Lib.hid (show dimB z = false by simp [dimB, h0])
    go_enter Tryz.func37, Tryz.ntmps37
    go_wp2_with fail
    go_ret
    exact ⟨by rw [HD.out]; rfl, rfl⟩
end Go.Proofs.YtoboecenlangmaaGreat.Al
end
section
namespace Go.Proofs.YtoboecenlangmaaGreat.Al
open Go.ChangeShapes Go.WideShapes Go.ChangeAt Go.RowKit
open Me Np No Pk
open Gl (G Row)
set_option linter.unusedVariables false
set_option linter.unusedSimpArgs false

theorem cel_bad {r : Rw} {cols a E : Int} {k : Nat} {x : Cl} (h : celE cols 0 r.d.1 = celE cols a (r.d.1.drop k)) (hx : r.cs[k]? = some x) (h0 : ¬ E = 0) (hE : (if x.sp < 1 ∨ cols - a < x.sp then 220 else (wd x.l).1) = E) : rowErr cols r.d = E := by
  have hd : r.d.1[k]? = some x.d := by show (r.cs.map Cl.d)[k]? = _; rw [List.getElem?_map, hx]; rfl
  have h1 : celE cols 0 r.d.1 = E := by
    rw [h, celE_drop hd]
    show (if x.sp < 1 ∨ cols - a < x.sp then 220 else if (wd x.l).1 = 0 then celE cols (a + x.sp) (r.d.1.drop (k + 1)) else (wd x.l).1) = E
    by_cases h2 : x.sp < 1 ∨ cols - a < x.sp
    · rw [if_pos h2] at hE ⊢
      exact hE
    · rw [if_neg h2] at hE ⊢
      rw [if_neg (by rw [hE]; exact h0), hE]
  unfold rowErr
  rw [h1, if_neg h0]
theorem cel_next {r : Rw} {cols a : Int} {k : Nat} {x : Cl} (h : celE cols 0 r.d.1 = celE cols a (r.d.1.drop k)) (hx : r.cs[k]? = some x) (h1 : ¬ x.sp < 1) (h2 : ¬ cols - a < x.sp) (hE : (wd x.l).1 = 0) : celE cols 0 r.d.1 = celE cols (a + x.sp) (r.d.1.drop (k + 1)) := by
  have hd : r.d.1[k]? = some x.d := by show (r.cs.map Cl.d)[k]? = _; rw [List.getElem?_map, hx]; rfl
  rw [h, celE_drop hd, if_neg (by show ¬ (x.sp < 1 ∨ cols - a < x.sp); omega)]
  exact if_pos hE
theorem cel_all {r : Rw} {cols a : Int} (h : celE cols 0 r.d.1 = celE cols a (r.d.1.drop r.cs.length)) : rowErr cols r.d = chk r.ex := by
  have h1 : celE cols 0 r.d.1 = 0 := by
    rw [h, List.drop_of_length_le (by show (r.cs.map Cl.d).length ≤ _; simp)]
    rfl
  unfold rowErr
  rw [if_pos h1]
  rfl

set_option maxHeartbeats 4000000 in
set_option maxRecDepth 100000 in
theorem row_rf (r : Rw) (cols : Int) (w : World) (h : r.Ok w (fun _ => True)) (hc0 : 0 ≤ cols) (hc1 : cols ≤ 256) :
    Calls Tryz.prog 75 #[.agg #[.slice r.A r.cs.length r.c, .slice r.E r.ex.length r.k], .int .i64 cols] w fun e w' => e = .returned (.int .i64 (rowErr cols r.d)) ∧ Below w.heap.size w w' := by
  have HRO := Lib.hid h
  have hrl := h.len
  clear h
  go_enter Tryz.func75, Tryz.ntmps75
  go_upto_region 1 with fail
  obtain ⟨W0, hW0⟩ : ∃ W, W = w.alloc (.cells #[.slice r.A r.cs.length r.c, .slice r.E r.ex.length r.k] 81) := ⟨_, rfl⟩
  have HB0 := Lib.hid (show Below w.heap.size w W0 by rw [hW0]; exact andAlloc (Below.refl _ _) _)
  have HK0 := Lib.hid (show Blk W0 w.heap.size 81 #[.slice r.A r.cs.length r.c, .slice r.E r.ex.length r.k] by rw [hW0]; exact Blk.new _ _ _)
  rw [← hW0]
  clear hW0
  go_wp2_with fail
  go_loopw [5, 6] (fun v5 v6 wr => ∃ (k : Nat) (a : Int), k ≤ r.cs.length ∧ v6 = .int .i64 (k : Int) ∧ v5 = .int .i64 a ∧ 0 ≤ a ∧ a ≤ cols ∧ celE cols 0 r.d.1 = celE cols a (r.d.1.drop k) ∧ Below W0.heap.size W0 wr) (fun _ v6 _ => r.cs.length - (intOf v6).toNat)
  case atStart => exact ⟨0, 0, by omega, rfl, rfl, by omega, by omega, rfl, Below.refl _ _⟩
  case round =>
    obtain ⟨k, a, hk, rfl, rfl, ha0, ha1, hce, hbw⟩ := hrel
    have HCE := Lib.hid hce
    have HBW := Lib.hid hbw
    have hbk := HK0.out.below hbw HK0.out.lt
    have hg0 : wr.cell? ⟨w.heap.size, 0, none⟩ = some (.slice r.A r.cs.length r.c) := (hbk.cell 0).trans rfl
    have hg1 : wr.cell? ⟨w.heap.size, 1, none⟩ = some (.slice r.E r.ex.length r.k) := (hbk.cell 1).trans rfl
    have hgl := hbk.lt
    have hro := HRO.out.keep (Kp.below _ (andThen HB0.out hbw))
    clear hce hbw hbk
    by_cases hlt : k < r.cs.length
    · obtain ⟨x, hx⟩ := get_some hlt
      obtain ⟨b2, off2, hA2, hb2, hx0, hx1⟩ := hro.cell hx
      have HXO := Lib.hid (hro.get hx)
      have HXK := Lib.hid hx
      have hkl : (k : Int) < (r.cs.length : Int) := by omega
      have hxl := HXO.out.len
      rw [hA2] at hg0
      clear hA2
      clear hro hx
      by_cases q1 : x.sp < 1
      · have HBAD := Lib.hid (cel_bad (E := 220) HCE.out HXK.out (by decide) (if_pos (.inl q1)))
        go_wp2_with fail
        go_returns
        exact ⟨by rw [HBAD.out]; rfl, andAlloc (andThen HB0.out HBW.out) _⟩
      · have hw2 : IntKind.i64.wrap (cols - a) = cols - a := IntWalk.i64_in _ (by omega)
        by_cases q2 : cols - a < x.sp
        · have HBAD := Lib.hid (cel_bad (E := 220) HCE.out HXK.out (by decide) (if_pos (.inr q2)))
          go_wp2_with fail
          go_returns
          exact ⟨by rw [HBAD.out]; rfl, andAlloc (andThen HB0.out HBW.out) _⟩
        · have hw3 : IntKind.i64.wrap (a + x.sp) = a + x.sp := IntWalk.i64_in _ (by omega)
          obtain ⟨⟨Lb, Lo, bad, ov, E⟩, hRE, _, _, hcall⟩ := wd_ref wr x.l (by omega)
          simp only at hRE
          have HCALL := Lib.hid (fun (w' : World) (hb : Below wr.heap.size wr w') => hcall x.A x.c w' HXO.out.cap (Seg.belowW HXO.out.seg.seg hb))
          have HRE := Lib.hid hRE
          clear hcall hRE
          by_cases q3 : E = 0
          · have q4 : (E != 0) = false := by simp [q3]
            have HNX := Lib.hid (cel_next HCE.out HXK.out q1 q2 (by rw [← HRE.out]; exact q3))
            go_wp2_with fail
            refine (HCALL.out _ (andAlloc (Below.refl _ _) _)).mono ?_
            rintro e w5 ⟨vb, vo, rfl, oao, hb5⟩
            have HB5 := Lib.hid (andThen HBW.out (andThen (andAlloc (Below.refl wr.heap.size wr) (.cells #[.slice x.A x.l.length x.c, .int .i64 x.sp] 86)) hb5))
            clear oao hb5
            simp only
            go_wp2_with fail
            go_roundw
            case rel => exact ⟨k + 1, a + x.sp, by omega, by go_num, by go_num, by omega, by omega, HNX.out, HB5.out⟩
            case measure => simp [intOf]; omega
          · have q4 : (E != 0) = true := by simp [q3]
            have HBAD := Lib.hid (cel_bad (E := E) HCE.out HXK.out q3 ((if_neg (by omega)).trans HRE.out.symm))
            go_wp2_with fail
            refine (HCALL.out _ (andAlloc (Below.refl _ _) _)).mono ?_
            rintro e w5 ⟨vb, vo, rfl, oao, hb5⟩
            have HB5 := Lib.hid (andThen HBW.out (andThen (andAlloc (Below.refl wr.heap.size wr) (.cells #[.slice x.A x.l.length x.c, .int .i64 x.sp] 86)) hb5))
            clear oao hb5
            simp only
            go_wp2_with fail
            go_returns
            exact ⟨by rw [HBAD.out]; rfl, andThen HB0.out HB5.out⟩
    · obtain rfl : k = r.cs.length := by omega
      have HGD := Lib.hid (cel_all HCE.out)
      have HCK := Lib.hid (rcheckl_any r.E r.ex r.k wr (by have := hro.extra.len; omega) hro.extra.seg.seg)
      clear hro
      go_wp2_with fail
      refine HCK.out.mono ?_
      rintro e w5 ⟨rfl, hb5⟩
      have HB5 := Lib.hid hb5
      clear hb5
      go_wp2_with fail
      go_ret
      exact ⟨by rw [HGD.out]; rfl, andThen HB0.out (andThen HBW.out HB5.out)⟩

theorem shape_size (A : Option Addr) (ss : List G) (c : Nat) (B : Option Addr) (rs : List Rw) (k : Nat) (w : World) (h63 : ss.length ≤ maxLen) (hr63 : rs.length ≤ maxLen) (h : ss.length < 2 ∨ 257 < ss.length ∨ 2000 < rs.length) :
    Calls Tryz.prog 35 #[.slice A ss.length c, .slice B rs.length k] w fun e w' => e = .returned (.int .i64 (ckE ss (rs.map Rw.d))) ∧ Below w.heap.size w w' := by
  have hE : ckE ss (rs.map Rw.d) = 220 := by unfold ckE; rw [if_pos (by simpa using h)]
  have HE := Lib.hid hE
  clear hE
  unfold maxLen at h63 hr63
  by_cases h1 : (ss.length : Int) < 2
  · clear h
    go_enter Tryz.func35, Tryz.ntmps35
    go_wp2_with fail
    go_returns
    exact ⟨by rw [HE.out]; rfl, Below.refl _ _⟩
  · by_cases h2 : (257 : Int) < ss.length
    · clear h
      go_enter Tryz.func35, Tryz.ntmps35
      go_wp2_with fail
      go_returns
      exact ⟨by rw [HE.out]; rfl, Below.refl _ _⟩
    · have h3 : (2000 : Int) < rs.length := by omega
      clear h
      go_enter Tryz.func35, Tryz.ntmps35
      go_wp2_with fail
      go_returns
      exact ⟨by rw [HE.out]; rfl, Below.refl _ _⟩

set_option maxHeartbeats 4000000 in
set_option maxRecDepth 100000 in
theorem shape_go (A : Option Addr) (ss : List G) (c : Nat) (B : Option Addr) (rs : List Rw) (kk : Nat) (w : World) (hS : Row w A ss) (hR : RsOk w (fun _ => True) B kk rs) (h2 : 2 ≤ ss.length) (h257 : ss.length ≤ 257) (h2000 : rs.length ≤ 2000) :
    Calls Tryz.prog 35 #[.slice A ss.length c, .slice B rs.length kk] w fun e w' => e = .returned (.int .i64 (ckE ss (rs.map Rw.d))) ∧ Below w.heap.size w w' := by
  have hE : ckE ss (rs.map Rw.d) = if ss.all G.ok = true then rowsE ((ss.length : Int) - 1) (rs.map Rw.d) else 30 := by unfold ckE; rw [if_neg (by simp; omega)]
  have HE := Lib.hid hE
  have HS := Lib.hid hS
  have HR := Lib.hid hR
  clear hE hS hR
  have t1 : ¬ (ss.length : Int) < 2 := by omega
  have t2 : ¬ (257 : Int) < ss.length := by omega
  have t3 : ¬ (2000 : Int) < rs.length := by omega
  generalize hn : ss.length = n at *
  have HN := Lib.hid hn
  clear hn
  generalize hm : rs.length = m at *
  have HM := Lib.hid hm
  clear hm
  go_enter Tryz.func35, Tryz.ntmps35
  go_wp2_with fail
  go_loopw [5] (fun v5 wr => ∃ i : Nat, i ≤ n ∧ v5 = .int .i64 (i : Int) ∧ (ss.take i).all G.ok = true ∧ Below w.heap.size w wr) (fun v5 _ => n - (intOf v5).toNat)
  case atStart => exact ⟨0, by omega, rfl, by simp, Below.refl _ _⟩
  case round =>
    obtain ⟨i, hi, rfl, hall, hb⟩ := hrel
    have HA := Lib.hid hall
    have HB := Lib.hid hb
    clear hall
    by_cases hlt : i < n
    · obtain ⟨g, hg⟩ := get_some (l := ss) (i := i) (by rw [HN.out]; exact hlt)
      obtain ⟨b, off, rfl, c0, c1, c2, c3, c4⟩ := HS.out.cells hb hg
      have hsz := hb.size
      have hii : (i : Int) < (n : Int) := by omega
      have HG := Lib.hid hg
      clear hb hg
      cases hok : g.ok
      · have H30 := Lib.hid (show (Gl.chk g.n g.s g.h g.a g.b != 0) = true by have := G.chk_bad hok; unfold G.chk at this; rw [this]; rfl)
        have HC' := Lib.hid (show ckE ss (rs.map Rw.d) = 30 by
          rw [HE.out, if_neg]
          intro h
          have h1 := List.all_eq_true.1 h g (List.mem_of_getElem? HG.out)
          rw [hok] at h1
          cases h1)
        clear hok
        go_wp2_with (go_at_call 74; refine (Ck.rcheck_any _ _ _ _ _ _).mono ?_; rintro e w' ⟨rfl, rfl⟩; have h30 := H30.out)
        go_returns
        exact ⟨by rw [HC'.out]; rfl, andAlloc HB.out _⟩
      · have H0 := Lib.hid (show Gl.chk g.n g.s g.h g.a g.b = 0 by have := G.chk_ok hok; unfold G.chk at this; exact this)
        have HOK := Lib.hid hok
        clear hok
        go_wp2_with (go_at_call 74; refine (Ck.rcheck_any _ _ _ _ _ _).mono ?_; rintro e w' ⟨rfl, rfl⟩; rw [H0.out])
        go_roundw
        case rel => exact ⟨i + 1, by omega, by go_num, by rw [List.take_add_one, HG.out, List.all_append, HA.out]; simp [HOK.out], andAlloc HB.out _⟩
        case measure => simp [intOf]; omega
    · obtain rfl : i = n := by omega
      have HE2 := Lib.hid (show ckE ss (rs.map Rw.d) = rowsE ((i : Int) - 1) (rs.map Rw.d) by rw [HE.out, if_pos]; have := HA.out; rwa [List.take_of_length_le (by rw [HN.out]; exact Nat.le_refl _)] at this)
      obtain ⟨n, rfl⟩ : ∃ z, z = i := ⟨_, rfl⟩
      have hw1 : IntKind.i64.wrap ((n : Int) - 1) = (n : Int) - 1 := IntWalk.i64_in _ (by omega)
      clear HA HE hi hlt hb
      go_wp2_with fail
      go_loopw [6] (fun v6 wr => ∃ i : Nat, i ≤ m ∧ v6 = .int .i64 (i : Int) ∧ (∀ q ∈ (rs.map Rw.d).take i, rowErr ((n : Int) - 1) q = 0) ∧ Below w.heap.size w wr) (fun v6 _ => m - (intOf v6).toNat)
      case atStart => exact ⟨0, by omega, rfl, by simp, HB.out⟩
      case round =>
        obtain ⟨i, hi, rfl, her, hbw⟩ := hrel
        have HER := Lib.hid her
        have HBW := Lib.hid hbw
        clear her
        by_cases hlt : i < m
        · obtain ⟨r, hr⟩ := get_some (l := rs) (i := i) (by rw [HM.out]; exact hlt)
          have hw := HR.out.below hbw
          obtain ⟨b, off, rfl, hb, hc0, hc1⟩ := hw.row hr
          have HROW := Lib.hid (row_rf r ((n : Int) - 1) wr (hw.get hr) (by omega) (by omega))
          have HRK := Lib.hid hr
          have hii : (i : Int) < (m : Int) := by omega
          clear hbw hw hr
          generalize hre : rowErr ((n : Int) - 1) r.d = E at HROW
          have HRE := Lib.hid hre
          clear hre
          by_cases q3 : E = 0
          · have q4 : (E != 0) = false := by simp [q3]
            go_wp2_with fail
            refine HROW.out.mono ?_
            rintro e w5 ⟨rfl, hb5⟩
            have HB5 := Lib.hid (andThen HBW.out hb5)
            clear hb5
            go_wp2_with fail
            go_roundw
            case rel =>
              refine ⟨i + 1, by omega, by go_num, fun q hq => ?_, HB5.out⟩
              rw [List.take_add_one, List.getElem?_map, HRK.out] at hq
              rcases List.mem_append.1 hq with hq | hq
              · exact HER.out q hq
              · simp at hq
                rw [hq, HRE.out]
                exact q3
            case measure => simp [intOf]; omega
          · have q4 : (E != 0) = true := by simp [q3]
            have HBAD := Lib.hid (show ckE ss (rs.map Rw.d) = E by
              rw [HE2.out, rowsE_take (i := i) (r := r.d) (by rw [List.getElem?_map, HRK.out]; rfl) HER.out (by rw [HRE.out]; exact q3), HRE.out])
            go_wp2_with fail
            refine HROW.out.mono ?_
            rintro e w5 ⟨rfl, hb5⟩
            have HB5 := Lib.hid (andThen HBW.out hb5)
            clear hb5
            go_wp2_with fail
            go_returns
            exact ⟨by rw [HBAD.out]; rfl, HB5.out⟩
        · obtain rfl : i = m := by omega
          have H0 := Lib.hid (show ckE ss (rs.map Rw.d) = 0 by
            rw [HE2.out]
            refine rowsE_zero fun q hq => HER.out q ?_
            rwa [List.take_of_length_le (by rw [List.length_map, HM.out]; exact Nat.le_refl _)])
          go_wp2_with fail
          go_ret
          exact ⟨by rw [H0.out]; rfl, HBW.out⟩
theorem shape_al (A : Option Addr) (ss : List G) (c : Nat) (B : Option Addr) (rs : List Rw) (k : Nat) (w : World) (hS : Row w A ss) (hR : RsOk w (fun _ => True) B k rs) (h63 : ss.length ≤ maxLen) :
    Calls Tryz.prog 35 #[.slice A ss.length c, .slice B rs.length k] w fun e w' => e = .returned (.int .i64 (ckE ss (rs.map Rw.d))) ∧ Below w.heap.size w w' := by
  by_cases h : ss.length < 2 ∨ 257 < ss.length ∨ 2000 < rs.length
  · exact shape_size A ss c B rs k w h63 (by have := hR.len; simp [maxLen]; omega) h
  · exact shape_go A ss c B rs k w hS hR (by omega) (by omega) (by omega)
end Go.Proofs.YtoboecenlangmaaGreat.Al
end
section
namespace Go.Proofs.YtoboecenlangmaaGreat.Al
open Go.ChangeShapes Go.WideShapes Go.ChangeAt Go.RowKit
open Me Np No Pk
open Gl (G Row)
set_option linter.unusedVariables false
set_option linter.unusedSimpArgs false

set_option maxHeartbeats 4000000 in
set_option maxRecDepth 100000 in
theorem rwidths_bad (A : Option Addr) (ss : List G) (c : Nat) (B : Option Addr) (rs : List Rw) (k : Nat) (w : World) (hS : Row w A ss) (hR : RsOk w (fun _ => True) B k rs) (h63 : ss.length ≤ maxLen) (hE : ¬ ckE ss (rs.map Rw.d) = 0) :
    Calls Tryz.prog 9 #[.slice A ss.length c, .slice B rs.length k] w (RwOut (mdE ss (rs.map Rw.d)) (mdC ss (rs.map Rw.d)) w) := by
  have HM := Lib.hid (show mdE ss (rs.map Rw.d) = ckE ss (rs.map Rw.d) from if_neg hE)
  have HC := Lib.hid (shape_al A ss c B rs k w hS hR h63)
  have HN := Lib.hid hE
  have q1 : (ckE ss (rs.map Rw.d) != 0) = true := by simp [hE]
  clear hS hR hE
  go_enter Tryz.func9, Tryz.ntmps9
  go_wp2_with fail
  refine HC.out.mono ?_
  rintro e w1 ⟨rfl, hb1⟩
  go_wp2_with fail
  go_returns
  exact RwOut.no HM.out HN.out hb1

set_option maxHeartbeats 8000000 in
set_option maxRecDepth 100000 in
theorem rwidths_go (A : Option Addr) (ss : List G) (c : Nat) (B : Option Addr) (rs : List Rw) (k : Nat) (w : World) (hS : Row w A ss) (hR : RsOk w (fun _ => True) B k rs) (h63 : ss.length ≤ maxLen) (hE : ckE ss (rs.map Rw.d) = 0) :
    Calls Tryz.prog 9 #[.slice A ss.length c, .slice B rs.length k] w (RwOut (mdE ss (rs.map Rw.d)) (mdC ss (rs.map Rw.d)) w) := by
  have hbd : 2 ≤ ss.length ∧ ss.length ≤ 257 ∧ rs.length ≤ 2000 := by
    unfold ckE at hE
    split at hE
    · cases hE
    · rename_i h
      simp at h
      omega
  have hc0 := shape_al A ss c B rs k w hS hR h63
  rw [hE] at hc0
  have HC := Lib.hid hc0
  have HS := Lib.hid hS
  have HR := Lib.hid hR
  have HE := Lib.hid hE
  have HMD := Lib.hid (show mdE ss (rs.map Rw.d) = if (mdC ss (rs.map Rw.d)).w.all dimB = true then 0 else 20 from if_pos hE)
  obtain ⟨h2, h257, h2000⟩ := hbd
  obtain ⟨nw, hnw⟩ : ∃ q, ss.length = q + 1 := ⟨ss.length - 1, by omega⟩
  obtain ⟨R, hRR⟩ : ∃ R, R = (rs.map Rw.d).map cel := ⟨_, rfl⟩
  have HCC := Lib.hid (show mdC ss (rs.map Rw.d) = cols R ss nw by unfold mdC; rw [hRR, hnw]; rfl)
  have HRG := Lib.hid (fun (i : Nat) (r : Rw) (h : rs[i]? = some r) => show R[i]? = some (cel r.d) by rw [hRR, List.getElem?_map, List.getElem?_map, h]; rfl)
  have HRN := Lib.hid (show R.length = rs.length by rw [hRR]; simp)
  clear hS hR hE hc0 h63 hRR
  have hnn : (nw : Int) < (ss.length : Int) := by omega
  have hn1 : (ss.length : Int) ≤ nw + 1 := by omega
  have hw1 : IntKind.i64.wrap ((ss.length : Int) - 1) = (nw : Int) := (IntWalk.i64_in _ (by omega)).trans (by omega)
  generalize hn : ss.length = n at *
  have HN := Lib.hid hn
  clear hn
  generalize hm : rs.length = m at *
  have HM := Lib.hid hm
  clear hm
  have HNW := Lib.hid hnw
  clear hnw
  have hmi := make_i2 nw (by omega)
  have hmb := make_b2 nw (by omega)
  obtain ⟨b, off, rfl, hbb⟩ : ∃ b off, A = some ⟨b, off, none⟩ ∧ b < w.heap.size := by
    obtain ⟨g, hg⟩ := get_some (l := ss) (i := 0) (by rw [HN.out]; omega)
    obtain ⟨b, off, hA, hb, _⟩ := Seg.row Gl.G.vals_len HS.out hg (by decide)
    exact ⟨b, off, hA, hb⟩
  go_enter Tryz.func9, Tryz.ntmps9
  go_upto_region 7 with (go_at_call 35; refine HC.out.mono ?_; rintro e w1 ⟨rfl, hb1⟩)
  clear hmi hmb
  obtain ⟨U, hU⟩ : ∃ U, U = (w1.alloc (.cells (Array.replicate nw (intV 0)) 3)).alloc (.cells (Array.replicate nw (boolV false)) 4) := ⟨_, rfl⟩
  have hu1 : Below w1.heap.size w1 U := by rw [hU]; exact andAlloc (andAlloc (Below.refl _ _) _) _
  have hu2 : Blk U w1.heap.size 3 ((List.replicate nw 0).map intV).toArray := by
    have h : ((List.replicate nw (0 : Int)).map intV).toArray = Array.replicate nw (intV 0) := by simp
    rw [hU, h]
    exact (Blk.new _ _ _).alloc _
  have hu3 : Blk U (w1.heap.size + 1) 4 ((List.replicate nw false).map boolV).toArray := by
    have h : ((List.replicate nw false).map boolV).toArray = Array.replicate nw (boolV false) := by simp
    rw [hU, h]
    exact Blk.new' (by simp)
  rw [← hU]
  clear hU
  have hlU := andThen hb1 hu1
  have HU := Lib.hid (And.intro hlU (And.intro hu2 hu3))
  have HGD := Lib.hid (And.intro hb1.size (show w.heap.size ≤ w1.heap.size + 1 from Nat.le_succ_of_le hb1.size))
  generalize w1.heap.size + 1 = gD at *
  generalize w1.heap.size = gW at *
  have hU0 : (U.alloc (.cells #[] 96)).ownsRow U.heap.size 96 5 (.slice (some ⟨U.heap.size, 0, none⟩) 0 0) 0 [] := by simpa using World.ownsRow_made U #[] 0 (e := 96) (size := 5) (Nat.le_refl _) (by simp [maxLen]) (by simp)
  have HU0 := Lib.hid hU0
  have HSC := Lib.hid (seg_add (Seg.belowW HS.out (andThen hlU (andAlloc (Below.refl U.heap.size U) (.cells #[] 96)))))
  clear hu1 hu2 hu3 hlU hU0 hb1
  go_wp2_with (at_builtin; refine wpList_append_src rfl (.tmp 34) (.tmp 35) 22 rfl U.heap.size 96 (.agg #[.int .i64 0, .int .i64 0, .int .i64 0, .int .i64 0, .int .i64 0]) 5 40 Tryz.underlying22 info_g rfl (by decide) (.slice (some ⟨U.heap.size, 0, none⟩) 0 0) 0 [] rfl HU0.out ⟨b, off, none⟩ n c (ss.flatMap G.vals) rfl (by rw [flat_length Gl.G.vals_len, HN.out]) HSC.out (glue_one _) (by simp [maxLen]; omega) (by omega) (by simp) ?_; intro v4 w4 hown4 hg4; rw [Nat.zero_add, List.nil_append] at hown4; obtain ⟨gS, cS, rfl, hcS⟩ := own_some hown4 (by omega))
  have hJ0 : DJ w gW gD gS cS (List.replicate nw 0) (List.replicate nw false) ss w4 := by
    have k1 : Below U.heap.size U w4 := below_grown (Nat.le_refl _) (andAlloc (Below.refl _ _) _) hg4 fun q hq => by
      have hq' : some U.heap.size = some q := hq
      injection hq' with hq'
      omega
    refine ⟨HU.out.2.1.below k1 HU.out.2.1.lt, HU.out.2.2.below k1 HU.out.2.2.lt, ?_, HGD.out.1, HGD.out.2, andThen HU.out.1 k1⟩
    rw [HN.out]
    exact base_of hown4 HU.out.1.size
  have HJ0 := Lib.hid hJ0
  clear hJ0 hown4 hg4 HSC HC HU0 HU
  go_wp2_with fail
  go_loopw [13] (fun v13 wr => ∃ (j : Nat) (W : List Int) (D : List Bool), j ≤ nw ∧ v13 = .int .i64 (j : Int) ∧ DO R ss nw j W D ∧ (cols R ss j).w.all dimB = true ∧ DJ w gW gD gS cS W D (cols R ss j).s wr) (fun v13 _ => nw - (intOf v13).toNat)
  case atStart => exact ⟨0, _, _, by omega, rfl, DO.zero nw, rfl, HJ0.out⟩
  case round =>
    obtain ⟨j, W, D, hj, rfl, hdo, hall, hJ⟩ := hrel
    have HDO := Lib.hid hdo
    have HJ := Lib.hid hJ
    have HALL := Lib.hid hall
    clear hdo hall
    by_cases hlt : j < nw
    · have hjn : (j : Int) < (nw : Int) := by omega
      obtain ⟨d0, hd0⟩ := get_some (l := D) (i := j) (by rw [HDO.out.ld]; exact hlt)
      have k0 := hJ.cD hd0
      have kf := hJ.bd.free j
      have kl := hJ.bd.lt
      clear hJ hd0
      go_upto_region 12 with fail
      have HJ1 := Lib.hid (HJ.out.setD j true)
      have HI1 := Lib.hid (HDO.out.start hlt)
      clear k0 kf kl
      generalize wr.setCell ⟨gD, j, none⟩ (.bool true) = W0 at *
      go_wp2_with fail
      go_loopw [14] (fun v14 wr => ∃ (i : Nat) (mm : Option Int) (W : List Int) (D : List Bool), i ≤ m ∧ v14 = .int .i64 (i : Int) ∧ colM (cols R ss j).f j none R = colM (cols R ss j).f j mm (R.drop i) ∧ DI R ss nw j mm W D ∧ DJ w gW gD gS cS W D (cols R ss j).s wr) (fun v14 _ => m - (intOf v14).toNat)
      case atStart => exact ⟨0, none, _, _, by omega, rfl, rfl, HI1.out, HJ1.out⟩
      case round =>
        obtain ⟨i, mm, W, D, hi, rfl, hcm, hdi, hJ⟩ := hrel
        have HCM := Lib.hid hcm
        have HI := Lib.hid hdi
        have HJ := Lib.hid hJ
        clear hcm hdi
        by_cases hlt2 : i < m
        · obtain ⟨r, hr⟩ := get_some (l := rs) (i := i) (by rw [HM.out]; exact hlt2)
          have HRK := Lib.hid hr
          have HRM := Lib.hid (show r.d ∈ rs.map Rw.d from List.mem_map.2 ⟨r, List.mem_of_getElem? hr, rfl⟩)
          have hii : (i : Int) < (m : Int) := by omega
          have hrl := (HR.out.get hr).len
          clear hJ hr
          go_wp2_with fail
          go_loopw [15, 16] (fun v15 v16 wr => ∃ (q : Nat) (m2 : Option Int) (W : List Int) (D : List Bool), q ≤ r.cs.length ∧ v16 = .int .i64 (q : Int) ∧ v15 = .int .i64 ((pos (cel r.d) q : Nat) : Int) ∧ mx mm (ask (cols R ss j).f j 0 (cel r.d)) = mx m2 (ask (cols R ss j).f j (pos (cel r.d) q) ((cel r.d).drop q)) ∧ DI R ss nw j m2 W D ∧ DJ w gW gD gS cS W D (cols R ss j).s wr) (fun _ v16 _ => r.cs.length - (intOf v16).toNat)
          case atStart => exact ⟨0, mm, _, _, by omega, rfl, by rw [pos_zero]; rfl, by rw [pos_zero, List.drop_zero], HI.out, HJ.out⟩
          case round =>
            obtain ⟨q, m2, W, D, hq, rfl, rfl, hask, hdi, hJ⟩ := hrel
            have HASK := Lib.hid hask
            have HI := Lib.hid hdi
            have HJ := Lib.hid hJ
            have hw2 := HR.out.below hJ.low
            obtain ⟨b1, off1, rfl, hb1, hc0, hc1⟩ := hw2.row HRK.out
            have hro := hw2.get HRK.out
            clear hask hdi hJ hw2 hc1
            by_cases hlt3 : q < r.cs.length
            · obtain ⟨x, hx⟩ := get_some hlt3
              obtain ⟨hcl, hsp, hx1, hxp⟩ := cel_good HE.out HRM.out hx
              rw [HN.out] at hxp
              have HWZ := Lib.hid (((row_good HE.out HRM.out).1 x.d (List.mem_of_getElem? (show r.d.1[q]? = some x.d by show (r.cs.map Cl.d)[q]? = _; rw [List.getElem?_map, hx]; rfl))).2)
              obtain ⟨b2, off2, hA2, hb2, hx0, hx2⟩ := hro.cell hx
              have HXO := Lib.hid (hro.get hx)
              have HCL := Lib.hid hcl
              have HSP := Lib.hid hsp
              have hqi : (q : Int) < (r.cs.length : Int) := by omega
              rw [hA2] at hc0
              obtain ⟨sp, hspn⟩ : ∃ s : Nat, x.sp = (s : Int) := ⟨x.sp.toNat, by omega⟩
              have HSN := Lib.hid hspn
              rw [hspn] at hx2 hx1 hxp
              clear hcl hsp hx hro hspn
              obtain ⟨Wk, rfl⟩ : ∃ W, W = wr := ⟨_, rfl⟩
              generalize hpa : pos (cel r.d) q = a at hxp HASK ⊢
              have HPA := Lib.hid hpa
              clear hpa
              have hw2 : IntKind.i64.wrap ((a : Int) + (sp : Int)) = (a : Int) + (sp : Int) := IntWalk.i64_in _ (by omega)
              have hw3 : IntKind.i64.wrap ((a : Int) + (sp : Int) - 1) = (a : Int) + (sp : Int) - 1 := IntWalk.i64_in _ (by omega)
              have HAD := Lib.hid (ask_drop (f := (cols R ss j).f) (j := j) (a := a) HCL.out)
              have HPS := Lib.hid (show pos (cel r.d) (q + 1) = a + sp by rw [pos_succ HCL.out, HPA.out, HSN.out]; rfl)
              have HJ3 := Lib.hid (HJ.out.below (andAlloc (Below.refl Wk.heap.size Wk) (.cells #[.slice x.A x.l.length x.c, .int .i64 (sp : Int)] 86)))
              have HK3 := Lib.hid (Blk.new Wk 86 #[.slice x.A x.l.length x.c, .int .i64 (sp : Int)])
              by_cases c2 : (a : Int) + (sp : Int) - 1 = (j : Int)
              · have HAY := Lib.hid (show ask (cols R ss j).f j a ((cel r.d).drop q) = some (less (cols R ss j).f a (j - a) (wd x.l).2) by
                  rw [HAD.out, if_neg (by rw [HSN.out]; show ¬ j < a + (sp : Int).toNat - 1; omega), if_pos (by rw [HSN.out]; show a + (sp : Int).toNat - 1 = j; omega)])
                have c3 : ((a : Int) + (sp : Int) - 1 == (j : Int)) = true := by rw [beq_iff_eq]; exact c2
                have HNT := Lib.hid (natural_al ⟨x.A, x.c, x.l, (sp : Int)⟩ _ (HXO.out.keep (Kp.below _ (andAlloc (Below.refl Wk.heap.size Wk) (.cells #[.slice x.A x.l.length x.c, .int .i64 (sp : Int)] 86)))) HWZ.out)
                generalize hwd : (wd x.l).2 = n0 at *
                clear hwd
                go_upto_region 22 with fail
                clear hc0 hx0 hx2
                generalize Wk.alloc (.cells #[.slice x.A x.l.length x.c, .int .i64 (sp : Int)] 86) = W3 at *
                generalize Wk.heap.size = gx at *
                have g0 : W3.cell? ⟨gx, 0, none⟩ = some (.slice x.A x.l.length x.c) := (HK3.out.cell 0).trans rfl
                have g1 : W3.cell? ⟨gx, 1, none⟩ = some (.int .i64 (sp : Int)) := (HK3.out.cell 1).trans rfl
                have gl := HK3.out.lt
                go_wp2_with (go_at_call 36; refine HNT.out.mono ?_; rintro e W5 ⟨rfl, hb5⟩)
                clear g0 g1 gl
                have HJ5 := Lib.hid (HJ3.out.below hb5)
                have HK5 := Lib.hid (HK3.out.below hb5 HK3.out.lt)
                clear hb5
                go_loopw [19, 20] (fun v19 v20 wr => ∃ (p : Nat) (z : Int), a ≤ p ∧ p ≤ j ∧ v20 = .int .i64 (p : Int) ∧ v19 = .int .i64 z ∧ less (cols R ss j).f a (j - a) n0 = less (cols R ss j).f p (j - p) z ∧ Below W5.heap.size W5 wr) (fun _ v20 _ => j - (intOf v20).toNat)
                case atStart => exact ⟨a, n0, by omega, by omega, rfl, rfl, rfl, Below.refl _ _⟩
                case round =>
                  obtain ⟨p, z, hap, hpj, rfl, rfl, hls, hbp⟩ := hrel
                  have HLS := Lib.hid hls
                  have HJ6 := Lib.hid (HJ5.out.below hbp)
                  have HK6 := Lib.hid (HK5.out.below hbp HK5.out.lt)
                  have HBP := Lib.hid hbp
                  clear hls hbp
                  by_cases hlt4 : p < j
                  · have hpj2 : (p : Int) < (j : Int) := by omega
                    obtain ⟨wp, hwp⟩ := get_some (l := (cols R ss j).w) (i := p) (by rw [(cols_len R ss j).1]; exact hlt4)
                    obtain ⟨gp, hgp⟩ := get_some (l := (cols R ss j).s) (i := p + 1) (by rw [(cols_len R ss j).2.2, HN.out]; omega)
                    have y0 := HJ6.out.cW ((HI.out.w0 p hlt4).trans hwp)
                    have y1 := HJ6.out.getS hgp
                    have y2 := HJ6.out.bw.lt
                    have y3 := (HJ6.out.os.lt gS rfl).2
                    have HF := Lib.hid (show (cols R ss j).f p = wrap64 (wp + gp.n) by unfold Co.f; rw [List.getD_eq_getElem?_getD, List.getD_eq_getElem?_getD, hwp, hgp]; rfl)
                    have hw5 : IntKind.i64.wrap ((p : Int) + 1) = (p : Int) + 1 := IntWalk.i64_in _ (by omega)
                    have hpn : (p : Int) + 1 < (n : Int) := by omega
                    have hpw : (p : Int) < (nw : Int) := by omega
                    have htn : ((p : Int) + 1).toNat = p + 1 := by omega
                    clear hwp hgp
                    go_upto_region 26 with fail
                    go_quiet (fail)
                    go_wp2_with fail
                    go_roundw
                    case rel =>
                      refine ⟨p + 1, wrap64 (wrap64 (z - wp) - gp.n), by omega, by omega, by go_num, rfl, ?_, below_drewN HBP.out _⟩
                      rw [wrap_two, HLS.out, show j - p = (j - (p + 1)) + 1 by omega, less, HF.out]
                    case measure => simp [intOf]; omega
                  · obtain rfl : p = j := by omega
                    have HLZ := Lib.hid (show less (cols R ss p).f a (p - a) n0 = z by rw [HLS.out, Nat.sub_self]; rfl)
                    have HNX := Lib.hid (show mx mm (ask (cols R ss p).f p 0 (cel r.d)) = mx (mx m2 (some z)) (ask (cols R ss p).f p (pos (cel r.d) (q + 1)) ((cel r.d).drop (q + 1))) by
                      rw [ask_before (by rw [HPS.out]; omega) (fun c hc => HSP.out c (List.mem_of_mem_drop hc)), mx_right, HASK.out, HAY.out, HLZ.out])
                    have z0 := HJ6.out.cD HI.out.dj
                    have z1 := HJ6.out.cW HI.out.wj
                    have z2 := HJ6.out.bw.free p
                    have z3 := HJ6.out.bw.lt
                    have z4 := HJ6.out.bd.free p
                    have z5 := HJ6.out.bd.lt
                    have hpw : (p : Int) < (nw : Int) := by omega
                    rcases m2 with _ | y
                    · have z0' : wr.cell? ⟨gD, p, none⟩ = some (.bool true) := z0
                      have z1' : wr.cell? ⟨gW, p, none⟩ = some (.int .i64 0) := z1
                      clear z0 z1
                      go_upto_region 29 with fail
                      have HJ7 := Lib.hid (HJ6.out.setW p z)
                      have HK7 := Lib.hid (HK6.out.far (p := ⟨gW, p, none⟩) (blk_ne HK6.out HJ6.out.bw (by decide)) (.int .i64 z))
                      clear z0' z1' z2 z3 z4 z5
                      generalize wr.setCell ⟨gW, p, none⟩ (.int .i64 z) = W7 at *
                      have z0 := HJ7.out.cD HI.out.dj
                      have z1 := HJ7.out.bd.free p
                      have z2 := HJ7.out.bd.lt
                      go_upto_region 30 with fail
                      have HJ8 := Lib.hid (HJ7.out.setD p false)
                      have HK8 := Lib.hid (HK7.out.far (p := ⟨gD, p, none⟩) (blk_ne HK7.out HJ7.out.bd (by decide)) (.bool false))
                      clear z0 z1 z2
                      generalize W7.setCell ⟨gD, p, none⟩ (.bool false) = W8 at *
                      have z0 : W8.cell? ⟨gx, 1, none⟩ = some (.int .i64 (sp : Int)) := (HK8.out.cell 1).trans rfl
                      have z1 := HK8.out.lt
                      go_wp2_with fail
                      go_roundw
                      case rel => exact ⟨q + 1, some z, _, _, by omega, by go_num, by rw [HPS.out]; go_num, HNX.out, HI.out.put z, HJ8.out⟩
                      case measure => simp [intOf]; omega
                    · have z0' : wr.cell? ⟨gD, p, none⟩ = some (.bool false) := z0
                      have z1' : wr.cell? ⟨gW, p, none⟩ = some (.int .i64 y) := z1
                      clear z0 z1
                      by_cases hyz : y < z
                      · have HNY := Lib.hid (show mx mm (ask (cols R ss p).f p 0 (cel r.d)) = mx (some z) (ask (cols R ss p).f p (pos (cel r.d) (q + 1)) ((cel r.d).drop (q + 1))) by
                          rw [HNX.out]; simp only [mx]; rw [if_pos hyz])
                        go_upto_region 29 with fail
                        have HJ7 := Lib.hid (HJ6.out.setW p z)
                        have HK7 := Lib.hid (HK6.out.far (p := ⟨gW, p, none⟩) (blk_ne HK6.out HJ6.out.bw (by decide)) (.int .i64 z))
                        clear z0' z1' z2 z3 z4 z5
                        generalize wr.setCell ⟨gW, p, none⟩ (.int .i64 z) = W7 at *
                        have z0 := HJ7.out.cD HI.out.dj
                        have z1 := HJ7.out.bd.free p
                        have z2 := HJ7.out.bd.lt
                        go_upto_region 30 with fail
                        have HJ8 := Lib.hid (HJ7.out.setD p false)
                        have HK8 := Lib.hid (HK7.out.far (p := ⟨gD, p, none⟩) (blk_ne HK7.out HJ7.out.bd (by decide)) (.bool false))
                        clear z0 z1 z2
                        generalize W7.setCell ⟨gD, p, none⟩ (.bool false) = W8 at *
                        have z0 : W8.cell? ⟨gx, 1, none⟩ = some (.int .i64 (sp : Int)) := (HK8.out.cell 1).trans rfl
                        have z1 := HK8.out.lt
                        go_wp2_with fail
                        go_roundw
                        case rel => exact ⟨q + 1, some z, _, _, by omega, by go_num, by rw [HPS.out]; go_num, HNY.out, HI.out.put z, HJ8.out⟩
                        case measure => simp [intOf]; omega
                      · have HNY := Lib.hid (show mx mm (ask (cols R ss p).f p 0 (cel r.d)) = mx (some y) (ask (cols R ss p).f p (pos (cel r.d) (q + 1)) ((cel r.d).drop (q + 1))) by
                          rw [HNX.out]; simp only [mx]; rw [if_neg hyz])
                        go_upto_region 30 with fail
                        have HJ8 := Lib.hid (HJ6.out.setD p false)
                        have HK8 := Lib.hid (HK6.out.far (p := ⟨gD, p, none⟩) (blk_ne HK6.out HJ6.out.bd (by decide)) (.bool false))
                        clear z0' z1' z2 z3 z4 z5
                        generalize wr.setCell ⟨gD, p, none⟩ (.bool false) = W8 at *
                        have z0 : W8.cell? ⟨gx, 1, none⟩ = some (.int .i64 (sp : Int)) := (HK8.out.cell 1).trans rfl
                        have z1 := HK8.out.lt
                        go_wp2_with fail
                        go_roundw
                        case rel => exact ⟨q + 1, some y, _, _, by omega, by go_num, by rw [HPS.out]; go_num, HNY.out, HI.out.stay, HJ8.out⟩
                        case measure => simp [intOf]; omega
              · have c3 : ((a : Int) + (sp : Int) - 1 == (j : Int)) = false := by rw [beq_eq_false_iff_ne]; exact c2
                have HNX := Lib.hid (show mx mm (ask (cols R ss j).f j 0 (cel r.d)) = mx m2 (ask (cols R ss j).f j (pos (cel r.d) (q + 1)) ((cel r.d).drop (q + 1))) by
                  rw [HASK.out, HAD.out, HPS.out]
                  by_cases c1 : j < a + sp - 1
                  · rw [if_pos (by rw [HSN.out]; exact c1), ask_before (by omega) (fun c hc => HSP.out c (List.mem_of_mem_drop hc))]
                  · rw [if_neg (by rw [HSN.out]; exact c1), if_neg (by rw [HSN.out]; show ¬ a + (sp : Int).toNat - 1 = j; omega), HSN.out]
                    rfl)
                go_wp2_with fail
                go_roundw
                case rel => exact ⟨q + 1, m2, _, _, by omega, by go_num, by rw [HPS.out]; go_num, HNX.out, HI.out, HJ3.out⟩
                case measure => simp [intOf]; omega
            · obtain rfl : q = r.cs.length := by omega
              have HNX := Lib.hid (show colM (cols R ss j).f j none R = colM (cols R ss j).f j m2 (R.drop (i + 1)) by
                rw [HCM.out, colM_drop (r := cel r.d) (HRG.out i r HRK.out), HASK.out, List.drop_of_length_le (by unfold cel; show ((r.cs.map Cl.d).map _).length ≤ _; simp)]
                show _ = colM _ j m2 _
                rw [show ask (cols R ss j).f j (pos (cel r.d) r.cs.length) [] = none from rfl, mx_right])
              go_wp2_with fail
              go_roundw
              case rel => exact ⟨i + 1, m2, _, _, by omega, by go_num, HNX.out, HI.out, HJ.out⟩
              case measure => simp [intOf]; omega
        · obtain rfl : i = m := by omega
          have HCE := Lib.hid (show colM (cols R ss j).f j none R = mm by
            rw [HCM.out, List.drop_of_length_le (by rw [HRN.out]; exact Nat.le_refl _)]
            rfl)
          obtain ⟨W1, rfl⟩ : ∃ W, W = wr := ⟨_, rfl⟩
          have hls := (cols_len R ss j).2.2
          rw [HN.out] at hls
          have HLS := Lib.hid hls
          have hw7 : IntKind.i64.wrap ((j : Int) + 1) = (j : Int) + 1 := IntWalk.i64_in _ (by omega)
          obtain ⟨e1, e2, e3⟩ := cols_next HCE.out
          have HW := Lib.hid e1
          have HSS := Lib.hid e3
          have HDN := Lib.hid (HI.out.next HCE.out)
          have z0 := hJ.cD HI.out.dj
          have z5 := hJ.bd.lt
          clear hls hJ e1 e2 e3
          rcases mm with _ | y
          · have z0' : W1.cell? ⟨gD, j, none⟩ = some (.bool true) := z0
            clear z0
            have hjn2 : (j : Int) + 1 < (n : Int) := by omega
            have htn : ((j : Int) + 1).toNat = j + 1 := by omega
            have HT := Lib.hid (show W1.there gS ((j + 1) * 5) 5 from own_here HJ.out.os (j + 1) (by rw [HLS.out]; omega))
            obtain ⟨u0, k0⟩ := Option.isSome_iff_exists.1 (HT.out 0 (by decide)).1
            obtain ⟨u1, k1⟩ := Option.isSome_iff_exists.1 (HT.out 1 (by decide)).1
            obtain ⟨u2, k2⟩ := Option.isSome_iff_exists.1 (HT.out 2 (by decide)).1
            obtain ⟨u3, k3⟩ := Option.isSome_iff_exists.1 (HT.out 3 (by decide)).1
            obtain ⟨u4, k4⟩ := Option.isSome_iff_exists.1 (HT.out 4 (by decide)).1
            have f0 := (HT.out 0 (by decide)).2
            have f1 := (HT.out 1 (by decide)).2
            have f2 := (HT.out 2 (by decide)).2
            have f3 := (HT.out 3 (by decide)).2
            have f4 := (HT.out 4 (by decide)).2
            rw [Nat.add_zero] at k0 f0
            go_upto_region 33 with fail
            clear k0 k1 k2 k3 k4 f0 f1 f2 f3 f4 z0' z5
            have HJ4 := Lib.hid (DJ.skip (k := j + 1) (x := gz) HJ.out (by rw [HLS.out]; omega))
            generalize hW3 : W1.setCells gS ((j + 1) * 5) gz.vals = W3 at HJ4
            have hW3' : ((((W1.setCell ⟨gS, (j + 1) * 5, none⟩ (.int .i64 0)).setCell ⟨gS, (j + 1) * 5 + 1, none⟩ (.int .i64 0)).setCell ⟨gS, (j + 1) * 5 + 2, none⟩ (.int .i64 0)).setCell ⟨gS, (j + 1) * 5 + 3, none⟩ (.int .i64 0)).setCell ⟨gS, (j + 1) * 5 + 4, none⟩ (.int .i64 0) = W3 := hW3
            try rw [hW3']
            clear hW3 hW3'
            have y0 : W3.cell? ⟨gW, j, none⟩ = some (.int .i64 0) := HJ4.out.cW HI.out.wj
            have y1 := HJ4.out.bw.lt
            go_wp2_with (go_at_call 37; refine (dimen11_al _ _).mono ?_; rintro e w' ⟨rfl, rfl⟩; rw [show dimB 0 = true from rfl])
            go_roundw
            case rel => exact ⟨j + 1, _, _, by omega, by go_num, HDN.out, by rw [HW.out, List.all_append, HALL.out]; rfl, by rw [HSS.out]; exact HJ4.out⟩
            case measure => simp [intOf]; omega
          · have z0' : W1.cell? ⟨gD, j, none⟩ = some (.bool false) := z0
            have y0 : W1.cell? ⟨gW, j, none⟩ = some (.int .i64 y) := HJ.out.cW HI.out.wj
            have y1 := HJ.out.bw.lt
            clear z0
            cases hd : dimB y
            · have HD := Lib.hid hd
              have HBAD := Lib.hid (show mdE ss (rs.map Rw.d) = 20 by
                rw [HMD.out, HCC.out, if_neg]
                intro h
                have h1 := List.all_eq_true.1 h y (List.mem_of_getElem? (i := j) (by rw [(cols_keep R ss (j := j + 1) (n := nw) (by omega)).1 j (by omega), HW.out, List.getElem?_append_right (by rw [(cols_len R ss j).1]; exact Nat.le_refl _), (cols_len R ss j).1]; simp))
                rw [HD.out] at h1
                cases h1)
              clear hd
              go_wp2_with (go_at_call 37; refine (dimen11_al _ _).mono ?_; rintro e w' ⟨rfl, rfl⟩; rw [HD.out])
              go_returns
              exact RwOut.no HBAD.out (by decide) HJ.out.low
            · have HD := Lib.hid hd
              clear hd
              go_wp2_with (go_at_call 37; refine (dimen11_al _ _).mono ?_; rintro e w' ⟨rfl, rfl⟩; rw [HD.out])
              go_roundw
              case rel => exact ⟨j + 1, _, _, by omega, by go_num, HDN.out, by rw [HW.out, List.all_append, HALL.out]; simp [HD.out], by rw [HSS.out]; exact HJ.out⟩
              case measure => simp [intOf]; omega
    · obtain rfl : j = nw := by omega
      have HG := Lib.hid (show mdE ss (rs.map Rw.d) = 0 by rw [HMD.out, HCC.out, if_pos HALL.out])
      go_wp2_with fail
      go_returns
      rw [HCC.out]
      exact RwOut.yes HG.out HJ.out HDO.out.all.1 HDO.out.all.2 (cols_len R ss j).1 (cols_len R ss j).2.1
theorem rwidths_al (A : Option Addr) (ss : List G) (c : Nat) (B : Option Addr) (rs : List Rw) (k : Nat) (w : World) (hS : Row w A ss) (hR : RsOk w (fun _ => True) B k rs) (h63 : ss.length ≤ maxLen) :
    Calls Tryz.prog 9 #[.slice A ss.length c, .slice B rs.length k] w (RwOut (mdE ss (rs.map Rw.d)) (mdC ss (rs.map Rw.d)) w) := by
  by_cases hE : ckE ss (rs.map Rw.d) = 0
  · exact rwidths_go A ss c B rs k w hS hR h63 hE
  · exact rwidths_bad A ss c B rs k w hS hR h63 hE
end Go.Proofs.YtoboecenlangmaaGreat.Al
end
section
namespace Go.Proofs.YtoboecenlangmaaGreat.Al
open Go.ChangeShapes Go.WideShapes Go.ChangeAt Go.RowKit
open Me Np No
set_option linter.unusedVariables false
set_option linter.unusedSimpArgs false

structure GI (w : World) (rs : List Rw) (i : Nat) (v : Value) (done : List Rw) (wr : World) : Prop where
  own : wr.ownsRow w.heap.size 84 2 v i (done.flatMap Rw.vals)
  dat : done.map Rw.d = (rs.take i).map Rw.d
  ok : ∀ r ∈ done, r.Ok wr (fun b => w.heap.size ≤ b ∧ v.ownBlock ≠ some b)
  low : Below w.heap.size w wr
structure GC (W : World) (gx : Nat) (r : Rw) (E : Option Addr) (ke : Nat) (k : Nat) (v : Value) (done : List Cl) (wr : World) : Prop where
  blk : Blk wr gx 84 #[v, .slice E r.ex.length ke]
  own : wr.ownsRow (gx + 1) 87 2 v k (done.flatMap Cl.vals)
  dat : done.map Cl.d = (r.cs.take k).map Cl.d
  ok : ∀ x ∈ done, LsOk wr (fun b => gx < b ∧ v.ownBlock ≠ some b) x.A x.c x.l
  low : Below W.heap.size W wr
  ge : W.heap.size ≤ gx
  ext : LsOk wr (fun b => W.heap.size ≤ b ∧ b < gx) E ke r.ex

theorem take_map {α β γ : Type} {f : α → γ} {g : β → γ} {l : List α} {k : Nat} {x : α} {dn : List β} {y : β} (h : dn.map g = (l.take k).map f) (hx : l[k]? = some x) (hy : g y = f x) : (dn ++ [y]).map g = (l.take (k + 1)).map f := by
  rw [List.map_append, h, List.take_add_one, hx, List.map_append]
  simp [hy]
theorem GC.next {W0 wr W7 W8 : World} {gx : Nat} {r : Rw} {E : Option Addr} {ke k : Nat} {v : Value} {dn : List Cl} {x : Cl} {A7 A8 : Option Addr} {c7 c8 : Nat} (h : GC W0 gx r E ke k v dn wr) (hx : r.cs[k]? = some x) (hb7 : Below wr.heap.size wr W7)
    (h7 : LsOk W7 (fun b => wr.heap.size ≤ b) A7 c7 x.l) (hown : W8.ownsRow (gx + 1) 87 2 (.slice A8 (k + 1) c8) (k + 1) (dn.flatMap Cl.vals ++ [.slice A7 x.l.length c7, .int .i64 x.sp]))
    (hg : (W7.alloc (.cells #[.slice A7 x.l.length c7, .int .i64 x.sp] 87)).grownBy W8 v.ownBlock) (hv : (Value.slice A8 (k + 1) c8).ownBlock = v.ownBlock ∨ ∃ q, (Value.slice A8 (k + 1) c8).ownBlock = some q ∧ (W7.alloc (.cells #[.slice A7 x.l.length c7, .int .i64 x.sp] 87)).heap.size ≤ q) :
    GC W0 gx r E ke (k + 1) (.slice A8 (k + 1) c8) (dn ++ [⟨A7, c7, x.l, x.sp⟩]) (W8.setCell ⟨gx, 0, none⟩ (.slice A8 (k + 1) c8)) := by
  have hgl := h.blk.lt
  have hs7 := hb7.size
  have hlow8 : Below W0.heap.size W0 W8 := below_grown (Nat.le_refl _) (andAlloc (andThen h.low hb7) _) hg (fun q hq => by have := (h.own.lt q hq).1; have := h.ge; omega)
  have hne : some gx ≠ v.ownBlock := fun e => by have := (h.own.lt gx e.symm).1; omega
  have hvl : ∀ q, v.ownBlock = some q → gx < q ∧ q < wr.heap.size := fun q hq => by have := h.own.lt q hq; omega
  have hv8 : ∀ b, (Value.slice A8 (k + 1) c8).ownBlock = some b → v.ownBlock = some b ∨ W7.heap.size < b := fun b hb => by
    rcases hv with hv | ⟨q, hv, hq⟩
    · exact .inl (hv ▸ hb)
    · rw [hv] at hb
      injection hb with hb
      simp at hq
      exact .inr (by omega)
  refine ⟨?_, (by have := ownsRow_setCell_below hown (a := ⟨gx, 0, none⟩) (Nat.lt_succ_self _) (.slice A8 (k + 1) c8); simpa [List.flatMap_append, Cl.vals] using this), take_map h.dat hx rfl, ?_, hlow8.setCell h.ge _, h.ge, ?_⟩
  · have h1 : Blk W8 gx 84 #[v, .slice E r.ex.length ke] := (hg.block gx (by simp; omega) hne).trans ((Blk.below h.blk hb7 hgl).alloc _)
    have h2 := h1.set 0 (.slice A8 (k + 1) c8)
    simpa using h2
  · intro y hy
    rcases List.mem_append.1 hy with hy | hy
    · have h1 := (h.ok y hy).mono (S' := fun b => (gx < b ∧ v.ownBlock ≠ some b) ∧ b < wr.heap.size) fun b hb hs => ⟨hs, hb⟩
      have k1 : Kp (fun b => (gx < b ∧ v.ownBlock ≠ some b) ∧ b < wr.heap.size) wr (W8.setCell ⟨gx, 0, none⟩ (.slice A8 (k + 1) c8)) :=
        (((Kp.below _ hb7).trans (Kp.alloc _ _ _)).trans (Kp.grown hg fun b _ hs e => hs.1.2 e.symm)).trans (Kp.set fun b _ hs => by have := hs.1.1; simp; omega)
      refine (h1.keep k1).mono fun b _ hs => ⟨hs.1.1, fun e => ?_⟩
      rcases hv8 b e with h2 | h2
      · exact hs.1.2 h2
      · have := hs.2; omega
    · obtain rfl := List.mem_singleton.1 hy
      have h1 := h7.mono (S' := fun b => wr.heap.size ≤ b ∧ b < W7.heap.size) fun b hb hs => ⟨hs, hb⟩
      have k1 : Kp (fun b => wr.heap.size ≤ b ∧ b < W7.heap.size) W7 (W8.setCell ⟨gx, 0, none⟩ (.slice A8 (k + 1) c8)) :=
        ((Kp.alloc _ _ _).trans (Kp.grown hg fun b _ hs e => by have := hvl b e.symm; omega)).trans (Kp.set fun b _ hs => by simp; omega)
      refine (h1.keep k1).mono fun b _ hs => ⟨by omega, fun e => ?_⟩
      rcases hv8 b e with h2 | h2
      · have := hvl b h2; omega
      · omega
  · have k1 : Kp (fun b => W0.heap.size ≤ b ∧ b < gx) wr (W8.setCell ⟨gx, 0, none⟩ (.slice A8 (k + 1) c8)) :=
      (((Kp.below _ hb7).trans (Kp.alloc _ _ _)).trans (Kp.grown hg fun b _ hs e => by have := hvl b e.symm; omega)).trans (Kp.set fun b _ hs => by simp; omega)
    exact h.ext.keep k1
theorem GC.row {W0 wr : World} {gx : Nat} {r : Rw} {E : Option Addr} {ke : Nat} {A : Option Addr} {c : Nat} {dn : List Cl} (h : GC W0 gx r E ke r.cs.length (.slice A r.cs.length c) dn wr) (hl : r.cs.length ≤ 4398046511103) :
    dn.length = r.cs.length ∧ (⟨A, c, dn, E, ke, r.ex⟩ : Rw).Ok wr (fun b => W0.heap.size ≤ b) ∧ (⟨A, c, dn, E, ke, r.ex⟩ : Rw).d = r.d := by
  have hd := h.dat
  rw [List.take_length] at hd
  have hn : dn.length = r.cs.length := by have := congrArg List.length hd; simpa using this
  have hge := h.ge
  obtain ⟨A1, c1, e1, h1, _, _, h4⟩ := SegS.own (S := fun b => W0.heap.size ≤ b) h.own (fun b hb => by have := (h.own.lt b hb).1; omega)
  injection e1 with e1 _ e2
  subst e1 e2
  exact ⟨hn, ⟨by rw [hn]; exact h1, by rw [hn]; exact hl, h4, fun x hx => (h.ok x hx).mono fun b _ hs => by have := hs.1; omega, h.ext.mono fun b _ hs => hs.1⟩, by show (dn.map Cl.d, r.ex) = _; rw [hd]; rfl⟩
theorem GI.next {w W0 wr W9 : World} {rs : List Rw} {i : Nat} {v v' : Value} {done : List Rw} {r R : Rw} (h : GI w rs i v done W0) (hr : rs[i]? = some r) (hb : Below W0.heap.size W0 wr) (hR : R.Ok wr (fun b => W0.heap.size ≤ b)) (hd : R.d = r.d)
    (hown : W9.ownsRow w.heap.size 84 2 v' (i + 1) (done.flatMap Rw.vals ++ R.vals)) (hg : (wr.alloc (.cells R.vals.toArray 84)).grownBy W9 v.ownBlock) (hv : v'.ownBlock = v.ownBlock ∨ ∃ q, v'.ownBlock = some q ∧ (wr.alloc (.cells R.vals.toArray 84)).heap.size ≤ q) :
    GI w rs (i + 1) v' (done ++ [R]) W9 := by
  have hs := hb.size
  have hvl : ∀ q, v.ownBlock = some q → w.heap.size ≤ q ∧ q < W0.heap.size := fun q hq => h.own.lt q hq
  have hv8 : ∀ b, v'.ownBlock = some b → v.ownBlock = some b ∨ wr.heap.size < b := fun b hb => by
    rcases hv with hv | ⟨q, hv, hq⟩
    · exact .inl (hv ▸ hb)
    · rw [hv] at hb
      injection hb with hb
      simp at hq
      exact .inr (by omega)
  have hlw := h.low.size
  refine ⟨by simpa [List.flatMap_append] using hown, take_map h.dat hr hd, ?_, below_grown (Nat.le_refl _) (andAlloc (andThen h.low hb) _) hg fun q hq => (hvl q hq).1⟩
  intro y hy
  rcases List.mem_append.1 hy with hy | hy
  · have h1 := (h.ok y hy).mono (S' := fun b => (w.heap.size ≤ b ∧ v.ownBlock ≠ some b) ∧ b < W0.heap.size) fun b hb hs => ⟨hs, hb⟩
    have k1 : Kp (fun b => (w.heap.size ≤ b ∧ v.ownBlock ≠ some b) ∧ b < W0.heap.size) W0 W9 :=
      ((Kp.below _ hb).trans (Kp.alloc _ _ _)).trans (Kp.grown hg fun b _ hs e => hs.1.2 e.symm)
    refine (h1.keep k1).mono fun b _ hs => ⟨hs.1.1, fun e => ?_⟩
    rcases hv8 b e with h2 | h2
    · exact hs.1.2 h2
    · have := hs.2; omega
  · obtain rfl := List.mem_singleton.1 hy
    have h1 := hR.mono (S' := fun b => W0.heap.size ≤ b ∧ b < wr.heap.size) fun b hb hs => ⟨hs, hb⟩
    have k1 : Kp (fun b => W0.heap.size ≤ b ∧ b < wr.heap.size) wr W9 := (Kp.alloc _ _ _).trans (Kp.grown hg fun b _ hs e => by have := hvl b e.symm; omega)
    refine (h1.keep k1).mono fun b _ hs => ⟨by omega, fun e => ?_⟩
    rcases hv8 b e with h2 | h2
    · have := hvl b h2; omega
    · omega

set_option maxHeartbeats 4000000 in
set_option maxRecDepth 100000 in
theorem given_any (A : Option Addr) (rs : List Rw) (c : Nat) (w : World) (h : RsOk w (fun _ => True) A c rs) :
    Calls Tryz.prog 7 #[.slice A rs.length c] w fun e w' => ∃ v done, e = .returned v ∧ GI w rs rs.length v done w' := by
  have HR := Lib.hid h
  have hcap := h.cap
  have hlen := h.len
  clear h
  go_enter Tryz.func7, Tryz.ntmps7
  go_wp2_with fail
  go_loopw [3, 4] (fun v3 v4 wr => ∃ (i : Nat) (done : List Rw), i ≤ rs.length ∧ v4 = .int .i64 (i : Int) ∧ GI w rs i v3 done wr) (fun _ v4 _ => rs.length - (intOf v4).toNat)
  case atStart => exact ⟨0, [], by omega, rfl, ⟨World.ownsRow_nil _ _ _ _, rfl, by simp, Below.refl _ _⟩⟩
  case round =>
    obtain ⟨i, done, hi, rfl, hI⟩ := hrel
    have HI := Lib.hid hI
    by_cases hlt : i < rs.length
    · obtain ⟨r, hr⟩ := get_some hlt
      have hw := HR.out.below HI.out.low
      obtain ⟨b, off, rfl, hb, hc0, hc1⟩ := hw.row hr
      have hro := hw.get hr
      have HRO := Lib.hid hro
      have hxl := hro.extra.len
      clear hI hw hro
      have HA0 := Lib.hid (by simpa using World.ownsRow_made wr #[] 0 (e := 101) (size := 19) (Nat.le_refl _) (by simp [maxLen]) (by simp) : (wr.alloc (.cells #[] 101)).ownsRow wr.heap.size 101 19 (.slice (some ⟨wr.heap.size, 0, none⟩) 0 0) 0 [])
      have HSX := Lib.hid (fun (w' : World) (hb : Below wr.heap.size wr w') => (src_in HRO.out.extra.seg.seg HRO.out.extra.nil).below hb)
      go_upto_region 6 with (at_builtin; refine wpList_append_long rfl (.tmp 13) (.tmp 18) rfl wr.heap.size (by simp) (.slice (some ⟨wr.heap.size, 0, none⟩) 0 0) 0 [] rfl HA0.out r.E r.k r.ex rfl (HSX.out _ (andAlloc (Below.refl _ _) _)) (by omega) ?_; intro v5 w5 hown5 hg5; obtain ⟨E5, k5, rfl, hk5, _, hz5, hs5⟩ := SegS.own (S := fun b => wr.heap.size ≤ b) hown5 (fun b hb => (hown5.lt b hb).1))
      have hlow5 : Below wr.heap.size wr w5 := below_grown (Nat.le_refl _) (andAlloc (Below.refl _ _) _) hg5 (fun g hg => by
        have hg' : some wr.heap.size = some g := hg
        injection hg' with hg'
        omega)
      rw [Nat.zero_add] at hk5
      rw [List.nil_append] at hs5
      have hlow6 : Below wr.heap.size wr (w5.alloc (.cells #[.slice none 0 0, .slice E5 r.ex.length k5] 84)) := andAlloc hlow5 _
      have hext : LsOk (w5.alloc (.cells #[.slice none 0 0, .slice E5 r.ex.length k5] 84)) (fun b => wr.heap.size ≤ b ∧ b < w5.heap.size) E5 k5 r.ex :=
        ⟨hk5, hxl, hz5, (hs5.mono (S' := fun b => wr.heap.size ≤ b ∧ b < w5.heap.size) fun b h1 h2 => ⟨h2, h1⟩).keep (Kp.alloc _ _ _)⟩
      have hG0 : GC wr w5.heap.size r E5 k5 0 (.slice none 0 0) [] (w5.alloc (.cells #[.slice none 0 0, .slice E5 r.ex.length k5] 84)) :=
        ⟨Blk.new _ _ _, World.ownsRow_nil _ _ _ _, rfl, by simp, hlow6, hlow5.size, hext⟩
      have HG0 := Lib.hid hG0
      clear hG0 hext hlow6 hs5 hown5 hg5 HA0 HSX hc1
      generalize w5.alloc (.cells #[.slice none 0 0, .slice E5 r.ex.length k5] 84) = W6 at HG0 ⊢
      have HC0 := Lib.hid hc0
      obtain ⟨W0, rfl⟩ : ∃ W, W = wr := ⟨_, rfl⟩
      clear hc0
      go_wp2_with fail
      go_loopw [6] (fun v6 wr => ∃ (k : Nat) (v : Value) (dn : List Cl), k ≤ r.cs.length ∧ v6 = .int .i64 (k : Int) ∧ GC W0 w5.heap.size r E5 k5 k v dn wr) (fun v6 _ => r.cs.length - (intOf v6).toNat)
      case atStart => exact ⟨0, _, [], by omega, rfl, HG0.out⟩
      case round =>
        obtain ⟨k, v, dn, hk, rfl, hC⟩ := hrel
        have HC := Lib.hid hC
        have hc0 : wr.cell? ⟨b, off + i * 2, none⟩ = some (.slice r.A r.cs.length r.c) := (hC.low.cell (p := ⟨b, off + i * 2, none⟩) hb).trans HC0.out
        by_cases hlt2 : k < r.cs.length
        · obtain ⟨x, hx⟩ := get_some hlt2
          obtain ⟨b2, off2, hA2, hb2, hx0, hx1⟩ := HRO.out.cell hx
          rw [hA2] at hc0
          have hgxv : wr.cell? ⟨w5.heap.size, 0, none⟩ = some v := (hC.blk.cell 0).trans rfl
          have hgf := hC.blk.free 0
          have hgl := hC.blk.lt
          have HXO := Lib.hid ((HRO.out.get hx).keep (Kp.below _ hC.low))
          have hxl2 := HXO.out.len
          have HCS := Lib.hid (fun (w' : World) (hz : Below W0.heap.size W0 w') => And.intro ((hz.cell (p := ⟨b, off + i * 2, none⟩) hb).trans (HC0.out.trans (by rw [hA2]))) (And.intro ((hz.cell (p := ⟨b2, off2 + k * 2, none⟩) hb2).trans hx0) (And.intro ((hz.cell (p := ⟨b2, off2 + k * 2 + 1, none⟩) hb2).trans hx1) hz)))
          have hLow := hC.low
          have HXK := Lib.hid hx
          have HA0 := Lib.hid (by simpa using World.ownsRow_made wr #[] 0 (e := 101) (size := 19) (Nat.le_refl _) (by simp [maxLen]) (by simp) : (wr.alloc (.cells #[] 101)).ownsRow wr.heap.size 101 19 (.slice (some ⟨wr.heap.size, 0, none⟩) 0 0) 0 [])
          have HSX := Lib.hid (fun (w' : World) (hb : Below wr.heap.size wr w') => (src_in HXO.out.seg.seg HXO.out.nil).below hb)
          have HOV := Lib.hid (fun (w' : World) (hb : Below wr.heap.size wr w') => own_below HC.out.own hb)
          have HGX := Lib.hid (fun (w' : World) (hz : Below wr.heap.size wr w') => And.intro ((hz.cell (p := ⟨w5.heap.size, 0, none⟩) hgl).trans hgxv) ((hz.frozen (p := ⟨w5.heap.size, 0, none⟩) hgl).trans hgf))
          have hr32 : (k + 1) * 32 ≤ 140737488355328 := by have := HRO.out.len; omega
          have HLW := Lib.hid (show Below wr.heap.size wr (wr.alloc (.cells #[] 101)).drew from below_drewN (andAlloc (Below.refl _ _) _) 1)
          have hlt3 : (k : Int) < (r.cs.length : Int) := by omega
          have hHC := (HCS.out _ hLow).1
          have hHC1 := (HCS.out _ hLow).2.1
          have hHC2 := (HCS.out _ hLow).2.2.1
          clear hC hr hx hx0 hx1 hc0
          generalize w5.heap.size = gx at *
          go_upto_region 9 with fail
          refine wp_region_held_drew (S := fun w' => w'.cell? ⟨b, off + i * 2, none⟩ = some (.slice (some ⟨b2, off2, none⟩) r.cs.length r.c) ∧ w'.cell? ⟨b2, off2 + k * 2, none⟩ = some (.slice x.A x.l.length x.c) ∧ w'.cell? ⟨b2, off2 + k * 2 + 1, none⟩ = some (.int .i64 x.sp) ∧ Below W0.heap.size W0 w') (by kernel_rfl) (HCS.out _ (below_drewN hLow 1)) (fun hH => ?_)
          refine take_lit (i := 0) (v := (.pointer (some ⟨gx, 0, none⟩))) (by kernel_rfl) (by kernel_rfl) (by kernel_rfl) (by kernel_rfl) (fun _ _ _ _ h => h) hH (fun oi hoi => ?_)
          simp only [List.getElem?_toArray, List.getElem?_cons_succ, List.getElem?_cons_zero, Option.some.injEq] at hoi
          subst hoi
          refine ⟨.inl ⟨by rfl, fun w hSw => by (try dsimp only at hSw); first | (go_simp; done) | (go_simp; with_reducible rfl)⟩, ?_⟩
          simp only [Act.put, List.setIfInBounds_toArray, List.set_cons_zero, List.set_cons_succ]
          refine take_lit (i := 3) (v := (.slice (some ⟨b, off, none⟩) rs.length c)) (by kernel_rfl) (by kernel_rfl) (by kernel_rfl) (by kernel_rfl) (fun _ _ _ _ h => h) hH (fun oi hoi => ?_)
          simp only [List.getElem?_toArray, List.getElem?_cons_succ, List.getElem?_cons_zero, Option.some.injEq] at hoi
          subst hoi
          refine ⟨.inl ⟨by rfl, fun w hSw => by (try dsimp only at hSw); first | (go_simp; done) | (go_simp; with_reducible rfl)⟩, ?_⟩
          simp only [Act.put, List.setIfInBounds_toArray, List.set_cons_zero, List.set_cons_succ]
          refine take_lit (i := 4) (v := (.int .i64 (i : Int))) (by kernel_rfl) (by kernel_rfl) (by kernel_rfl) (by kernel_rfl) (fun _ _ _ _ h => h) hH (fun oi hoi => ?_)
          simp only [List.getElem?_toArray, List.getElem?_cons_succ, List.getElem?_cons_zero, Option.some.injEq] at hoi
          subst hoi
          refine ⟨.inl ⟨by rfl, fun w hSw => by (try dsimp only at hSw); first | (go_simp; done) | (go_simp; with_reducible rfl)⟩, ?_⟩
          simp only [Act.put, List.setIfInBounds_toArray, List.set_cons_zero, List.set_cons_succ]
          refine take_lit (i := 5) (v := (.pointer (some ⟨b, off + i * 2, none⟩))) (by kernel_rfl) (by kernel_rfl) (by kernel_rfl) (by kernel_rfl) (fun _ _ _ _ h => h) hH (fun oi hoi => ?_)
          simp only [List.getElem?_toArray, List.getElem?_cons_succ, List.getElem?_cons_zero, Option.some.injEq] at hoi
          subst hoi
          refine ⟨.inl ⟨by rfl, fun w hSw => by (try dsimp only at hSw); first | (go_simp; done) | (go_simp; with_reducible rfl)⟩, ?_⟩
          simp only [Act.put, List.setIfInBounds_toArray, List.set_cons_zero, List.set_cons_succ]
          refine take_lit (i := 6) (v := (.pointer (some ⟨b, off + i * 2, none⟩))) (by kernel_rfl) (by kernel_rfl) (by kernel_rfl) (by kernel_rfl) (fun _ _ _ _ h => h) hH (fun oi hoi => ?_)
          simp only [List.getElem?_toArray, List.getElem?_cons_succ, List.getElem?_cons_zero, Option.some.injEq] at hoi
          subst hoi
          refine ⟨.inl ⟨by rfl, fun w hSw => by (try dsimp only at hSw); first | (go_simp; done) | (go_simp; with_reducible rfl)⟩, ?_⟩
          simp only [Act.put, List.setIfInBounds_toArray, List.set_cons_zero, List.set_cons_succ]
          refine take_lit (i := 7) (v := (.slice (some ⟨b2, off2, none⟩) r.cs.length r.c)) (by kernel_rfl) (by kernel_rfl) (by kernel_rfl) (by kernel_rfl) (fun _ _ _ _ h => h) hH (fun oi hoi => ?_)
          simp only [List.getElem?_toArray, List.getElem?_cons_succ, List.getElem?_cons_zero, Option.some.injEq] at hoi
          subst hoi
          refine ⟨.inl ⟨by rfl, fun w hSw => by (try dsimp only at hSw); first | (go_simp; done) | (go_simp; with_reducible rfl)⟩, ?_⟩
          simp only [Act.put, List.setIfInBounds_toArray, List.set_cons_zero, List.set_cons_succ]
          refine take_lit (i := 8) (v := (.int .i64 (k : Int))) (by kernel_rfl) (by kernel_rfl) (by kernel_rfl) (by kernel_rfl) (fun _ _ _ _ h => h) hH (fun oi hoi => ?_)
          simp only [List.getElem?_toArray, List.getElem?_cons_succ, List.getElem?_cons_zero, Option.some.injEq] at hoi
          subst hoi
          refine ⟨.inl ⟨by rfl, fun w hSw => by (try dsimp only at hSw); first | (go_simp; done) | (go_simp; with_reducible rfl)⟩, ?_⟩
          simp only [Act.put, List.setIfInBounds_toArray, List.set_cons_zero, List.set_cons_succ]
          refine take_lit (i := 9) (v := (.pointer (some ⟨b2, off2 + k * 2, none⟩))) (by kernel_rfl) (by kernel_rfl) (by kernel_rfl) (by kernel_rfl) (fun _ _ _ _ h => h) hH (fun oi hoi => ?_)
          simp only [List.getElem?_toArray, List.getElem?_cons_succ, List.getElem?_cons_zero, Option.some.injEq] at hoi
          subst hoi
          refine ⟨.inl ⟨by rfl, fun w hSw => by (try dsimp only at hSw); first | (go_simp; done) | (go_simp; with_reducible rfl)⟩, ?_⟩
          simp only [Act.put, List.setIfInBounds_toArray, List.set_cons_zero, List.set_cons_succ]
          refine take_lit (i := 10) (v := (.pointer (some ⟨b2, off2 + k * 2, none⟩))) (by kernel_rfl) (by kernel_rfl) (by kernel_rfl) (by kernel_rfl) (fun _ _ _ _ h => h) hH (fun oi hoi => ?_)
          simp only [List.getElem?_toArray, List.getElem?_cons_succ, List.getElem?_cons_zero, Option.some.injEq] at hoi
          subst hoi
          refine ⟨.inl ⟨by rfl, fun w hSw => by (try dsimp only at hSw); first | (go_simp; done) | (go_simp; with_reducible rfl)⟩, ?_⟩
          simp only [Act.put, List.setIfInBounds_toArray, List.set_cons_zero, List.set_cons_succ]
          refine take_lit (i := 11) (v := (.slice x.A x.l.length x.c)) (by kernel_rfl) (by kernel_rfl) (by kernel_rfl) (by kernel_rfl) (fun _ _ _ _ h => h) hH (fun oi hoi => ?_)
          simp only [List.getElem?_toArray, List.getElem?_cons_succ, List.getElem?_cons_zero, Option.some.injEq] at hoi
          subst hoi
          refine ⟨.inl ⟨by rfl, fun w hSw => by (try dsimp only at hSw); first | (go_simp; done) | (go_simp; with_reducible rfl)⟩, ?_⟩
          simp only [Act.put, List.setIfInBounds_toArray, List.set_cons_zero, List.set_cons_succ]
          refine take_lit (i := 13) (v := (.slice (some ⟨b, off, none⟩) rs.length c)) (by kernel_rfl) (by kernel_rfl) (by kernel_rfl) (by kernel_rfl) (fun _ _ _ _ h => h) hH (fun oi hoi => ?_)
          simp only [List.getElem?_toArray, List.getElem?_cons_succ, List.getElem?_cons_zero, Option.some.injEq] at hoi
          subst hoi
          refine ⟨.inl ⟨by rfl, fun w hSw => by (try dsimp only at hSw); first | (go_simp; done) | (go_simp; with_reducible rfl)⟩, ?_⟩
          simp only [Act.put, List.setIfInBounds_toArray, List.set_cons_zero, List.set_cons_succ]
          refine take_lit (i := 14) (v := (.int .i64 (i : Int))) (by kernel_rfl) (by kernel_rfl) (by kernel_rfl) (by kernel_rfl) (fun _ _ _ _ h => h) hH (fun oi hoi => ?_)
          simp only [List.getElem?_toArray, List.getElem?_cons_succ, List.getElem?_cons_zero, Option.some.injEq] at hoi
          subst hoi
          refine ⟨.inl ⟨by rfl, fun w hSw => by (try dsimp only at hSw); first | (go_simp; done) | (go_simp; with_reducible rfl)⟩, ?_⟩
          simp only [Act.put, List.setIfInBounds_toArray, List.set_cons_zero, List.set_cons_succ]
          refine take_lit (i := 15) (v := (.pointer (some ⟨b, off + i * 2, none⟩))) (by kernel_rfl) (by kernel_rfl) (by kernel_rfl) (by kernel_rfl) (fun _ _ _ _ h => h) hH (fun oi hoi => ?_)
          simp only [List.getElem?_toArray, List.getElem?_cons_succ, List.getElem?_cons_zero, Option.some.injEq] at hoi
          subst hoi
          refine ⟨.inl ⟨by rfl, fun w hSw => by (try dsimp only at hSw); first | (go_simp; done) | (go_simp; with_reducible rfl)⟩, ?_⟩
          simp only [Act.put, List.setIfInBounds_toArray, List.set_cons_zero, List.set_cons_succ]
          refine take_lit (i := 16) (v := (.pointer (some ⟨b, off + i * 2, none⟩))) (by kernel_rfl) (by kernel_rfl) (by kernel_rfl) (by kernel_rfl) (fun _ _ _ _ h => h) hH (fun oi hoi => ?_)
          simp only [List.getElem?_toArray, List.getElem?_cons_succ, List.getElem?_cons_zero, Option.some.injEq] at hoi
          subst hoi
          refine ⟨.inl ⟨by rfl, fun w hSw => by (try dsimp only at hSw); first | (go_simp; done) | (go_simp; with_reducible rfl)⟩, ?_⟩
          simp only [Act.put, List.setIfInBounds_toArray, List.set_cons_zero, List.set_cons_succ]
          refine take_lit (i := 17) (v := (.slice (some ⟨b2, off2, none⟩) r.cs.length r.c)) (by kernel_rfl) (by kernel_rfl) (by kernel_rfl) (by kernel_rfl) (fun _ _ _ _ h => h) hH (fun oi hoi => ?_)
          simp only [List.getElem?_toArray, List.getElem?_cons_succ, List.getElem?_cons_zero, Option.some.injEq] at hoi
          subst hoi
          refine ⟨.inl ⟨by rfl, fun w hSw => by (try dsimp only at hSw); first | (go_simp; done) | (go_simp; with_reducible rfl)⟩, ?_⟩
          simp only [Act.put, List.setIfInBounds_toArray, List.set_cons_zero, List.set_cons_succ]
          refine take_lit (i := 18) (v := (.int .i64 (k : Int))) (by kernel_rfl) (by kernel_rfl) (by kernel_rfl) (by kernel_rfl) (fun _ _ _ _ h => h) hH (fun oi hoi => ?_)
          simp only [List.getElem?_toArray, List.getElem?_cons_succ, List.getElem?_cons_zero, Option.some.injEq] at hoi
          subst hoi
          refine ⟨.inl ⟨by rfl, fun w hSw => by (try dsimp only at hSw); first | (go_simp; done) | (go_simp; with_reducible rfl)⟩, ?_⟩
          simp only [Act.put, List.setIfInBounds_toArray, List.set_cons_zero, List.set_cons_succ]
          refine take_lit (i := 19) (v := (.pointer (some ⟨b2, off2 + k * 2, none⟩))) (by kernel_rfl) (by kernel_rfl) (by kernel_rfl) (by kernel_rfl) (fun _ _ _ _ h => h) hH (fun oi hoi => ?_)
          simp only [List.getElem?_toArray, List.getElem?_cons_succ, List.getElem?_cons_zero, Option.some.injEq] at hoi
          subst hoi
          refine ⟨.inl ⟨by rfl, fun w hSw => by (try dsimp only at hSw); first | (go_simp; done) | (go_simp; with_reducible rfl)⟩, ?_⟩
          simp only [Act.put, List.setIfInBounds_toArray, List.set_cons_zero, List.set_cons_succ]
          refine take_lit (i := 20) (v := (.pointer (some ⟨b2, off2 + k * 2 + 1, none⟩))) (by kernel_rfl) (by kernel_rfl) (by kernel_rfl) (by kernel_rfl) (fun _ _ _ _ h => h) hH (fun oi hoi => ?_)
          simp only [List.getElem?_toArray, List.getElem?_cons_succ, List.getElem?_cons_zero, Option.some.injEq] at hoi
          subst hoi
          refine ⟨.inl ⟨by rfl, fun w hSw => by (try dsimp only at hSw); first | (go_simp; done) | (go_simp; with_reducible rfl)⟩, ?_⟩
          simp only [Act.put, List.setIfInBounds_toArray, List.set_cons_zero, List.set_cons_succ]
          refine take_lit (i := 21) (v := (.int .i64 x.sp)) (by kernel_rfl) (by kernel_rfl) (by kernel_rfl) (by kernel_rfl) (fun _ _ _ _ h => h) hH (fun oi hoi => ?_)
          simp only [List.getElem?_toArray, List.getElem?_cons_succ, List.getElem?_cons_zero, Option.some.injEq] at hoi
          subst hoi
          refine ⟨.inl ⟨by rfl, fun w hSw => by (try dsimp only at hSw); first | (go_simp; done) | (go_simp; with_reducible rfl)⟩, ?_⟩
          simp only [Act.put, List.setIfInBounds_toArray, List.set_cons_zero, List.set_cons_succ]
          refine wpAnyH_ready (rs := [1, 2]) (by kernel_rfl) (by simp) (AllReadyH.cons rfl (fun K hK => ?_) (AllReadyH.cons rfl (fun K hK => ?_) (AllReadyH.nil)))
          · skip
            go_simp
            refine hK.out _ _ (HCS.out _ (by first | exact below_drewN hLow 1 | exact below_drewN (andAlloc hLow _) 1 | exact hL7 | exact andAlloc hL7 _ | exact hL8 | exact hL8.setCell hge8 _)) (fun hH1 => ?_)
            try simp only [Act.put, List.setIfInBounds_toArray, List.set_cons_zero, List.set_cons_succ]
            clear hK K
            refine wpAnyH_ready (rs := [2]) (by kernel_rfl) (by simp) (AllReadyH.cons rfl (fun K hK => ?_) (AllReadyH.nil))
            go_simp
            refine hK.out _ _ (HCS.out _ (by first | exact below_drewN hLow 1 | exact below_drewN (andAlloc hLow _) 1 | exact hL7 | exact andAlloc hL7 _ | exact hL8 | exact hL8.setCell hge8 _)) (fun hH2 => ?_)
            try simp only [Act.put, List.setIfInBounds_toArray, List.set_cons_zero, List.set_cons_succ]
            clear hK K
            refine wpAnyH_ready (rs := [12]) (by kernel_rfl) (by simp) (AllReadyH.cons rfl (fun K hK => ?_) (AllReadyH.nil))
            refine step_append_long rfl (.tmp 33) (.tmp 42) rfl wr.heap.size (by simp) (.slice (some ⟨wr.heap.size, 0, none⟩) 0 0) 0 [] rfl HA0.out x.A x.c x.l rfl (HSX.out _ HLW.out) (by omega) ?_
            intro v7 W7 hown7 hg7
            obtain ⟨A7, c7, rfl, hc7, _, hz7, hs7⟩ := SegS.own (S := fun b => wr.heap.size ≤ b) hown7 (fun b hb => (hown7.lt b hb).1)
            rw [Nat.zero_add] at hc7
            rw [List.nil_append] at hs7
            simp only [Nat.zero_add]
            have hB7 := below_grown (Nat.le_refl _) HLW.out hg7 (fun g hg => by have hg' : some wr.heap.size = some g := hg; injection hg' with hg'; omega)
            obtain ⟨z4, z5⟩ := HGX.out _ hB7
            have z6 := hB7.size
            have z7 := Nat.lt_of_lt_of_le hgl z6
            have hL7 := andThen hLow hB7
            have h7 : LsOk W7 (fun b => wr.heap.size ≤ b) A7 c7 x.l := ⟨hc7, hxl2, hz7, hs7⟩
            clear hown7 hg7 hs7
            refine hK.out _ _ (HCS.out _ (by first | exact below_drewN hLow 1 | exact below_drewN (andAlloc hLow _) 1 | exact hL7 | exact andAlloc hL7 _ | exact hL8 | exact hL8.setCell hge8 _)) (fun hH3 => ?_)
            try simp only [Act.put, List.setIfInBounds_toArray, List.set_cons_zero, List.set_cons_succ]
            clear hK K
            refine take_lit (i := 22) (v := (.agg #[.slice A7 x.l.length c7, .int .i64 x.sp])) (by kernel_rfl) (by kernel_rfl) (by kernel_rfl) (by kernel_rfl) (fun _ _ _ _ h => h) hH3 (fun oi hoi => ?_)
            simp only [List.getElem?_toArray, List.getElem?_cons_succ, List.getElem?_cons_zero, Option.some.injEq] at hoi
            subst hoi
            refine ⟨.inl ⟨by rfl, fun w hSw => by (try dsimp only at hSw); first | (go_simp; done) | (go_simp; with_reducible rfl)⟩, ?_⟩
            simp only [Act.put, List.setIfInBounds_toArray, List.set_cons_zero, List.set_cons_succ]
            refine wpAnyH_ready (rs := [23]) (by kernel_rfl) (by simp) (AllReadyH.cons rfl (fun K hK => ?_) (AllReadyH.nil))
            go_simp
            refine hK.out _ _ (HCS.out _ (by first | exact below_drewN hLow 1 | exact below_drewN (andAlloc hLow _) 1 | exact hL7 | exact andAlloc hL7 _ | exact hL8 | exact hL8.setCell hge8 _)) (fun hH4 => ?_)
            try simp only [Act.put, List.setIfInBounds_toArray, List.set_cons_zero, List.set_cons_succ]
            clear hK K
            refine wpAnyH_ready (rs := [24]) (by kernel_rfl) (by simp) (AllReadyH.cons rfl (fun K hK => ?_) (AllReadyH.nil))
            refine step_push rfl (.tmp 32) (.tmp 54) 82 rfl (gx + 1) 87 (.agg #[.slice none 0 0, .int .i64 0]) 2 32 Tryz.underlying82 info_cell rfl (by decide) (by decide) v k (dn.flatMap Cl.vals) rfl (HOV.out _ (andAlloc hB7 _)) (by simp; omega) ⟨W7.heap.size, 0, none⟩ 1 [.slice A7 x.l.length c7, .int .i64 x.sp] rfl rfl (new_cells (Blk.new _ _ _)) (by simp [Value.oneCell']) hr32 ?_
            intro v8 W8 hown8 hg8 hv8
            obtain ⟨A8, c8, rfl, hc8, _⟩ := SegS.own (S := fun _ => True) hown8 (fun _ _ => trivial)
            have hE8 := HGX.out (W7.alloc (.cells #[.slice A7 x.l.length c7, .int .i64 x.sp] 87)) (andAlloc hB7 _)
            have hne8 : some gx ≠ v.ownBlock := fun e => by have := (HC.out.own.lt gx e.symm).1; omega
            have hk8 := hg8.block gx (by simp; omega) hne8
            have y1 := (cell_block hk8 0).trans hE8.1
            have y2 := (frozen_block hk8 0).trans hE8.2
            have hge8 := HC.out.ge
            have hL8 : Below W0.heap.size W0 W8 := below_grown (Nat.le_refl _) (andAlloc hL7 _) hg8 (fun q hq => by have := (HC.out.own.lt q hq).1; have := HC.out.ge; omega)
            have HNX := Lib.hid (GC.next HC.out HXK.out hB7 h7 hown8 hg8 hv8)
            clear hown8 hg8 hv8 hk8 hE8
            refine hK.out _ _ (HCS.out _ (by first | exact below_drewN hLow 1 | exact below_drewN (andAlloc hLow _) 1 | exact hL7 | exact andAlloc hL7 _ | exact hL8 | exact hL8.setCell hge8 _)) (fun hH5 => ?_)
            try simp only [Act.put, List.setIfInBounds_toArray, List.set_cons_zero, List.set_cons_succ]
            clear hK K
            refine take_lit (i := 25) (v := (.pointer (some ⟨gx, 0, none⟩))) (by kernel_rfl) (by kernel_rfl) (by kernel_rfl) (by kernel_rfl) (fun _ _ _ _ h => h) hH5 (fun oi hoi => ?_)
            simp only [List.getElem?_toArray, List.getElem?_cons_succ, List.getElem?_cons_zero, Option.some.injEq] at hoi
            subst hoi
            refine ⟨.inl ⟨by rfl, fun w hSw => by (try dsimp only at hSw); first | (go_simp; done) | (go_simp; with_reducible rfl)⟩, ?_⟩
            simp only [Act.put, List.setIfInBounds_toArray, List.set_cons_zero, List.set_cons_succ]
            refine wpAnyH_ready (rs := [26]) (by kernel_rfl) (by simp) (AllReadyH.cons rfl (fun K hK => ?_) (AllReadyH.nil))
            go_simp
            refine hK.out _ _ (HCS.out _ (by first | exact below_drewN hLow 1 | exact below_drewN (andAlloc hLow _) 1 | exact hL7 | exact andAlloc hL7 _ | exact hL8 | exact hL8.setCell hge8 _)) (fun hH6 => ?_)
            try simp only [Act.put, List.setIfInBounds_toArray, List.set_cons_zero, List.set_cons_succ]
            clear hK K
            refine wpAnyH_done (by kernel_rfl) ?_ _
            skip
            go_wp2_with fail
            go_roundw
            case rel => exact ⟨k + 1, _, _, by omega, by go_num, HNX.out⟩
            case measure => simp [intOf]; omega
          · skip
            go_simp
            refine hK.out _ _ (HCS.out _ (by first | exact below_drewN hLow 1 | exact below_drewN (andAlloc hLow _) 1 | exact hL7 | exact andAlloc hL7 _ | exact hL8 | exact hL8.setCell hge8 _)) (fun hH1 => ?_)
            try simp only [Act.put, List.setIfInBounds_toArray, List.set_cons_zero, List.set_cons_succ]
            clear hK K
            refine wpAnyH_ready (rs := [1, 12]) (by kernel_rfl) (by simp) (AllReadyH.cons rfl (fun K hK => ?_) (AllReadyH.cons rfl (fun K hK => ?_) (AllReadyH.nil)))
            · skip
              go_simp
              refine hK.out _ _ (HCS.out _ (by first | exact below_drewN hLow 1 | exact below_drewN (andAlloc hLow _) 1 | exact hL7 | exact andAlloc hL7 _ | exact hL8 | exact hL8.setCell hge8 _)) (fun hH7 => ?_)
              try simp only [Act.put, List.setIfInBounds_toArray, List.set_cons_zero, List.set_cons_succ]
              clear hK K
              refine wpAnyH_ready (rs := [12]) (by kernel_rfl) (by simp) (AllReadyH.cons rfl (fun K hK => ?_) (AllReadyH.nil))
              refine step_append_long rfl (.tmp 33) (.tmp 42) rfl wr.heap.size (by simp) (.slice (some ⟨wr.heap.size, 0, none⟩) 0 0) 0 [] rfl HA0.out x.A x.c x.l rfl (HSX.out _ HLW.out) (by omega) ?_
              intro v7 W7 hown7 hg7
              obtain ⟨A7, c7, rfl, hc7, _, hz7, hs7⟩ := SegS.own (S := fun b => wr.heap.size ≤ b) hown7 (fun b hb => (hown7.lt b hb).1)
              rw [Nat.zero_add] at hc7
              rw [List.nil_append] at hs7
              simp only [Nat.zero_add]
              have hB7 := below_grown (Nat.le_refl _) HLW.out hg7 (fun g hg => by have hg' : some wr.heap.size = some g := hg; injection hg' with hg'; omega)
              obtain ⟨z4, z5⟩ := HGX.out _ hB7
              have z6 := hB7.size
              have z7 := Nat.lt_of_lt_of_le hgl z6
              have hL7 := andThen hLow hB7
              have h7 : LsOk W7 (fun b => wr.heap.size ≤ b) A7 c7 x.l := ⟨hc7, hxl2, hz7, hs7⟩
              clear hown7 hg7 hs7
              refine hK.out _ _ (HCS.out _ (by first | exact below_drewN hLow 1 | exact below_drewN (andAlloc hLow _) 1 | exact hL7 | exact andAlloc hL7 _ | exact hL8 | exact hL8.setCell hge8 _)) (fun hH8 => ?_)
              try simp only [Act.put, List.setIfInBounds_toArray, List.set_cons_zero, List.set_cons_succ]
              clear hK K
              refine take_lit (i := 22) (v := (.agg #[.slice A7 x.l.length c7, .int .i64 x.sp])) (by kernel_rfl) (by kernel_rfl) (by kernel_rfl) (by kernel_rfl) (fun _ _ _ _ h => h) hH8 (fun oi hoi => ?_)
              simp only [List.getElem?_toArray, List.getElem?_cons_succ, List.getElem?_cons_zero, Option.some.injEq] at hoi
              subst hoi
              refine ⟨.inl ⟨by rfl, fun w hSw => by (try dsimp only at hSw); first | (go_simp; done) | (go_simp; with_reducible rfl)⟩, ?_⟩
              simp only [Act.put, List.setIfInBounds_toArray, List.set_cons_zero, List.set_cons_succ]
              refine wpAnyH_ready (rs := [23]) (by kernel_rfl) (by simp) (AllReadyH.cons rfl (fun K hK => ?_) (AllReadyH.nil))
              go_simp
              refine hK.out _ _ (HCS.out _ (by first | exact below_drewN hLow 1 | exact below_drewN (andAlloc hLow _) 1 | exact hL7 | exact andAlloc hL7 _ | exact hL8 | exact hL8.setCell hge8 _)) (fun hH9 => ?_)
              try simp only [Act.put, List.setIfInBounds_toArray, List.set_cons_zero, List.set_cons_succ]
              clear hK K
              refine wpAnyH_ready (rs := [24]) (by kernel_rfl) (by simp) (AllReadyH.cons rfl (fun K hK => ?_) (AllReadyH.nil))
              refine step_push rfl (.tmp 32) (.tmp 54) 82 rfl (gx + 1) 87 (.agg #[.slice none 0 0, .int .i64 0]) 2 32 Tryz.underlying82 info_cell rfl (by decide) (by decide) v k (dn.flatMap Cl.vals) rfl (HOV.out _ (andAlloc hB7 _)) (by simp; omega) ⟨W7.heap.size, 0, none⟩ 1 [.slice A7 x.l.length c7, .int .i64 x.sp] rfl rfl (new_cells (Blk.new _ _ _)) (by simp [Value.oneCell']) hr32 ?_
              intro v8 W8 hown8 hg8 hv8
              obtain ⟨A8, c8, rfl, hc8, _⟩ := SegS.own (S := fun _ => True) hown8 (fun _ _ => trivial)
              have hE8 := HGX.out (W7.alloc (.cells #[.slice A7 x.l.length c7, .int .i64 x.sp] 87)) (andAlloc hB7 _)
              have hne8 : some gx ≠ v.ownBlock := fun e => by have := (HC.out.own.lt gx e.symm).1; omega
              have hk8 := hg8.block gx (by simp; omega) hne8
              have y1 := (cell_block hk8 0).trans hE8.1
              have y2 := (frozen_block hk8 0).trans hE8.2
              have hge8 := HC.out.ge
              have hL8 : Below W0.heap.size W0 W8 := below_grown (Nat.le_refl _) (andAlloc hL7 _) hg8 (fun q hq => by have := (HC.out.own.lt q hq).1; have := HC.out.ge; omega)
              have HNX := Lib.hid (GC.next HC.out HXK.out hB7 h7 hown8 hg8 hv8)
              clear hown8 hg8 hv8 hk8 hE8
              refine hK.out _ _ (HCS.out _ (by first | exact below_drewN hLow 1 | exact below_drewN (andAlloc hLow _) 1 | exact hL7 | exact andAlloc hL7 _ | exact hL8 | exact hL8.setCell hge8 _)) (fun hH10 => ?_)
              try simp only [Act.put, List.setIfInBounds_toArray, List.set_cons_zero, List.set_cons_succ]
              clear hK K
              refine take_lit (i := 25) (v := (.pointer (some ⟨gx, 0, none⟩))) (by kernel_rfl) (by kernel_rfl) (by kernel_rfl) (by kernel_rfl) (fun _ _ _ _ h => h) hH10 (fun oi hoi => ?_)
              simp only [List.getElem?_toArray, List.getElem?_cons_succ, List.getElem?_cons_zero, Option.some.injEq] at hoi
              subst hoi
              refine ⟨.inl ⟨by rfl, fun w hSw => by (try dsimp only at hSw); first | (go_simp; done) | (go_simp; with_reducible rfl)⟩, ?_⟩
              simp only [Act.put, List.setIfInBounds_toArray, List.set_cons_zero, List.set_cons_succ]
              refine wpAnyH_ready (rs := [26]) (by kernel_rfl) (by simp) (AllReadyH.cons rfl (fun K hK => ?_) (AllReadyH.nil))
              go_simp
              refine hK.out _ _ (HCS.out _ (by first | exact below_drewN hLow 1 | exact below_drewN (andAlloc hLow _) 1 | exact hL7 | exact andAlloc hL7 _ | exact hL8 | exact hL8.setCell hge8 _)) (fun hH11 => ?_)
              try simp only [Act.put, List.setIfInBounds_toArray, List.set_cons_zero, List.set_cons_succ]
              clear hK K
              refine wpAnyH_done (by kernel_rfl) ?_ _
              skip
              go_wp2_with fail
              go_roundw
              case rel => exact ⟨k + 1, _, _, by omega, by go_num, HNX.out⟩
              case measure => simp [intOf]; omega
            · skip
              refine step_append_long rfl (.tmp 33) (.tmp 42) rfl wr.heap.size (by simp) (.slice (some ⟨wr.heap.size, 0, none⟩) 0 0) 0 [] rfl HA0.out x.A x.c x.l rfl (HSX.out _ HLW.out) (by omega) ?_
              intro v7 W7 hown7 hg7
              obtain ⟨A7, c7, rfl, hc7, _, hz7, hs7⟩ := SegS.own (S := fun b => wr.heap.size ≤ b) hown7 (fun b hb => (hown7.lt b hb).1)
              rw [Nat.zero_add] at hc7
              rw [List.nil_append] at hs7
              simp only [Nat.zero_add]
              have hB7 := below_grown (Nat.le_refl _) HLW.out hg7 (fun g hg => by have hg' : some wr.heap.size = some g := hg; injection hg' with hg'; omega)
              obtain ⟨z4, z5⟩ := HGX.out _ hB7
              have z6 := hB7.size
              have z7 := Nat.lt_of_lt_of_le hgl z6
              have hL7 := andThen hLow hB7
              have h7 : LsOk W7 (fun b => wr.heap.size ≤ b) A7 c7 x.l := ⟨hc7, hxl2, hz7, hs7⟩
              clear hown7 hg7 hs7
              refine hK.out _ _ (HCS.out _ (by first | exact below_drewN hLow 1 | exact below_drewN (andAlloc hLow _) 1 | exact hL7 | exact andAlloc hL7 _ | exact hL8 | exact hL8.setCell hge8 _)) (fun hH7 => ?_)
              try simp only [Act.put, List.setIfInBounds_toArray, List.set_cons_zero, List.set_cons_succ]
              clear hK K
              refine take_lit (i := 22) (v := (.agg #[.slice A7 x.l.length c7, .int .i64 x.sp])) (by kernel_rfl) (by kernel_rfl) (by kernel_rfl) (by kernel_rfl) (fun _ _ _ _ h => h) hH7 (fun oi hoi => ?_)
              simp only [List.getElem?_toArray, List.getElem?_cons_succ, List.getElem?_cons_zero, Option.some.injEq] at hoi
              subst hoi
              refine ⟨.inl ⟨by rfl, fun w hSw => by (try dsimp only at hSw); first | (go_simp; done) | (go_simp; with_reducible rfl)⟩, ?_⟩
              simp only [Act.put, List.setIfInBounds_toArray, List.set_cons_zero, List.set_cons_succ]
              refine wpAnyH_ready (rs := [1, 23]) (by kernel_rfl) (by simp) (AllReadyH.cons rfl (fun K hK => ?_) (AllReadyH.cons rfl (fun K hK => ?_) (AllReadyH.nil)))
              · skip
                go_simp
                refine hK.out _ _ (HCS.out _ (by first | exact below_drewN hLow 1 | exact below_drewN (andAlloc hLow _) 1 | exact hL7 | exact andAlloc hL7 _ | exact hL8 | exact hL8.setCell hge8 _)) (fun hH12 => ?_)
                try simp only [Act.put, List.setIfInBounds_toArray, List.set_cons_zero, List.set_cons_succ]
                clear hK K
                refine wpAnyH_ready (rs := [23]) (by kernel_rfl) (by simp) (AllReadyH.cons rfl (fun K hK => ?_) (AllReadyH.nil))
                go_simp
                refine hK.out _ _ (HCS.out _ (by first | exact below_drewN hLow 1 | exact below_drewN (andAlloc hLow _) 1 | exact hL7 | exact andAlloc hL7 _ | exact hL8 | exact hL8.setCell hge8 _)) (fun hH13 => ?_)
                try simp only [Act.put, List.setIfInBounds_toArray, List.set_cons_zero, List.set_cons_succ]
                clear hK K
                refine wpAnyH_ready (rs := [24]) (by kernel_rfl) (by simp) (AllReadyH.cons rfl (fun K hK => ?_) (AllReadyH.nil))
                refine step_push rfl (.tmp 32) (.tmp 54) 82 rfl (gx + 1) 87 (.agg #[.slice none 0 0, .int .i64 0]) 2 32 Tryz.underlying82 info_cell rfl (by decide) (by decide) v k (dn.flatMap Cl.vals) rfl (HOV.out _ (andAlloc hB7 _)) (by simp; omega) ⟨W7.heap.size, 0, none⟩ 1 [.slice A7 x.l.length c7, .int .i64 x.sp] rfl rfl (new_cells (Blk.new _ _ _)) (by simp [Value.oneCell']) hr32 ?_
                intro v8 W8 hown8 hg8 hv8
                obtain ⟨A8, c8, rfl, hc8, _⟩ := SegS.own (S := fun _ => True) hown8 (fun _ _ => trivial)
                have hE8 := HGX.out (W7.alloc (.cells #[.slice A7 x.l.length c7, .int .i64 x.sp] 87)) (andAlloc hB7 _)
                have hne8 : some gx ≠ v.ownBlock := fun e => by have := (HC.out.own.lt gx e.symm).1; omega
                have hk8 := hg8.block gx (by simp; omega) hne8
                have y1 := (cell_block hk8 0).trans hE8.1
                have y2 := (frozen_block hk8 0).trans hE8.2
                have hge8 := HC.out.ge
                have hL8 : Below W0.heap.size W0 W8 := below_grown (Nat.le_refl _) (andAlloc hL7 _) hg8 (fun q hq => by have := (HC.out.own.lt q hq).1; have := HC.out.ge; omega)
                have HNX := Lib.hid (GC.next HC.out HXK.out hB7 h7 hown8 hg8 hv8)
                clear hown8 hg8 hv8 hk8 hE8
                refine hK.out _ _ (HCS.out _ (by first | exact below_drewN hLow 1 | exact below_drewN (andAlloc hLow _) 1 | exact hL7 | exact andAlloc hL7 _ | exact hL8 | exact hL8.setCell hge8 _)) (fun hH14 => ?_)
                try simp only [Act.put, List.setIfInBounds_toArray, List.set_cons_zero, List.set_cons_succ]
                clear hK K
                refine take_lit (i := 25) (v := (.pointer (some ⟨gx, 0, none⟩))) (by kernel_rfl) (by kernel_rfl) (by kernel_rfl) (by kernel_rfl) (fun _ _ _ _ h => h) hH14 (fun oi hoi => ?_)
                simp only [List.getElem?_toArray, List.getElem?_cons_succ, List.getElem?_cons_zero, Option.some.injEq] at hoi
                subst hoi
                refine ⟨.inl ⟨by rfl, fun w hSw => by (try dsimp only at hSw); first | (go_simp; done) | (go_simp; with_reducible rfl)⟩, ?_⟩
                simp only [Act.put, List.setIfInBounds_toArray, List.set_cons_zero, List.set_cons_succ]
                refine wpAnyH_ready (rs := [26]) (by kernel_rfl) (by simp) (AllReadyH.cons rfl (fun K hK => ?_) (AllReadyH.nil))
                go_simp
                refine hK.out _ _ (HCS.out _ (by first | exact below_drewN hLow 1 | exact below_drewN (andAlloc hLow _) 1 | exact hL7 | exact andAlloc hL7 _ | exact hL8 | exact hL8.setCell hge8 _)) (fun hH15 => ?_)
                try simp only [Act.put, List.setIfInBounds_toArray, List.set_cons_zero, List.set_cons_succ]
                clear hK K
                refine wpAnyH_done (by kernel_rfl) ?_ _
                skip
                go_wp2_with fail
                go_roundw
                case rel => exact ⟨k + 1, _, _, by omega, by go_num, HNX.out⟩
                case measure => simp [intOf]; omega
              · skip
                go_simp
                refine hK.out _ _ (HCS.out _ (by first | exact below_drewN hLow 1 | exact below_drewN (andAlloc hLow _) 1 | exact hL7 | exact andAlloc hL7 _ | exact hL8 | exact hL8.setCell hge8 _)) (fun hH12 => ?_)
                try simp only [Act.put, List.setIfInBounds_toArray, List.set_cons_zero, List.set_cons_succ]
                clear hK K
                refine wpAnyH_ready (rs := [1]) (by kernel_rfl) (by simp) (AllReadyH.cons rfl (fun K hK => ?_) (AllReadyH.nil))
                go_simp
                refine hK.out _ _ (HCS.out _ (by first | exact below_drewN hLow 1 | exact below_drewN (andAlloc hLow _) 1 | exact hL7 | exact andAlloc hL7 _ | exact hL8 | exact hL8.setCell hge8 _)) (fun hH16 => ?_)
                try simp only [Act.put, List.setIfInBounds_toArray, List.set_cons_zero, List.set_cons_succ]
                clear hK K
                refine wpAnyH_ready (rs := [24]) (by kernel_rfl) (by simp) (AllReadyH.cons rfl (fun K hK => ?_) (AllReadyH.nil))
                refine step_push rfl (.tmp 32) (.tmp 54) 82 rfl (gx + 1) 87 (.agg #[.slice none 0 0, .int .i64 0]) 2 32 Tryz.underlying82 info_cell rfl (by decide) (by decide) v k (dn.flatMap Cl.vals) rfl (HOV.out _ (andAlloc hB7 _)) (by simp; omega) ⟨W7.heap.size, 0, none⟩ 1 [.slice A7 x.l.length c7, .int .i64 x.sp] rfl rfl (new_cells (Blk.new _ _ _)) (by simp [Value.oneCell']) hr32 ?_
                intro v8 W8 hown8 hg8 hv8
                obtain ⟨A8, c8, rfl, hc8, _⟩ := SegS.own (S := fun _ => True) hown8 (fun _ _ => trivial)
                have hE8 := HGX.out (W7.alloc (.cells #[.slice A7 x.l.length c7, .int .i64 x.sp] 87)) (andAlloc hB7 _)
                have hne8 : some gx ≠ v.ownBlock := fun e => by have := (HC.out.own.lt gx e.symm).1; omega
                have hk8 := hg8.block gx (by simp; omega) hne8
                have y1 := (cell_block hk8 0).trans hE8.1
                have y2 := (frozen_block hk8 0).trans hE8.2
                have hge8 := HC.out.ge
                have hL8 : Below W0.heap.size W0 W8 := below_grown (Nat.le_refl _) (andAlloc hL7 _) hg8 (fun q hq => by have := (HC.out.own.lt q hq).1; have := HC.out.ge; omega)
                have HNX := Lib.hid (GC.next HC.out HXK.out hB7 h7 hown8 hg8 hv8)
                clear hown8 hg8 hv8 hk8 hE8
                refine hK.out _ _ (HCS.out _ (by first | exact below_drewN hLow 1 | exact below_drewN (andAlloc hLow _) 1 | exact hL7 | exact andAlloc hL7 _ | exact hL8 | exact hL8.setCell hge8 _)) (fun hH17 => ?_)
                try simp only [Act.put, List.setIfInBounds_toArray, List.set_cons_zero, List.set_cons_succ]
                clear hK K
                refine take_lit (i := 25) (v := (.pointer (some ⟨gx, 0, none⟩))) (by kernel_rfl) (by kernel_rfl) (by kernel_rfl) (by kernel_rfl) (fun _ _ _ _ h => h) hH17 (fun oi hoi => ?_)
                simp only [List.getElem?_toArray, List.getElem?_cons_succ, List.getElem?_cons_zero, Option.some.injEq] at hoi
                subst hoi
                refine ⟨.inl ⟨by rfl, fun w hSw => by (try dsimp only at hSw); first | (go_simp; done) | (go_simp; with_reducible rfl)⟩, ?_⟩
                simp only [Act.put, List.setIfInBounds_toArray, List.set_cons_zero, List.set_cons_succ]
                refine wpAnyH_ready (rs := [26]) (by kernel_rfl) (by simp) (AllReadyH.cons rfl (fun K hK => ?_) (AllReadyH.nil))
                go_simp
                refine hK.out _ _ (HCS.out _ (by first | exact below_drewN hLow 1 | exact below_drewN (andAlloc hLow _) 1 | exact hL7 | exact andAlloc hL7 _ | exact hL8 | exact hL8.setCell hge8 _)) (fun hH18 => ?_)
                try simp only [Act.put, List.setIfInBounds_toArray, List.set_cons_zero, List.set_cons_succ]
                clear hK K
                refine wpAnyH_done (by kernel_rfl) ?_ _
                skip
                go_wp2_with fail
                go_roundw
                case rel => exact ⟨k + 1, _, _, by omega, by go_num, HNX.out⟩
                case measure => simp [intOf]; omega
        · obtain rfl : k = r.cs.length := by omega
          obtain ⟨A9, c9, rfl, _⟩ := SegS.own (S := fun _ => True) hC.own (fun _ _ => trivial)
          obtain ⟨hn, hRO, hRD⟩ := GC.row hC HRO.out.len
          have hg0 : wr.cell? ⟨w5.heap.size, 0, none⟩ = some (.slice A9 r.cs.length c9) := (hC.blk.cell 0).trans rfl
          have hg1 : wr.cell? ⟨w5.heap.size, 1, none⟩ = some (.slice E5 r.ex.length k5) := (hC.blk.cell 1).trans rfl
          have hown := Lib.hid (own_below (own_below HI.out.own hC.low) (andAlloc (Below.refl wr.heap.size wr) (.cells #[.slice A9 r.cs.length c9, .slice E5 r.ex.length k5] 84)))
          have HRK := Lib.hid (And.intro hr (And.intro hRO (And.intro hRD (And.intro hn hC.low))))
          have hl48 : (i + 1) * 48 ≤ 140737488355328 := by omega
          have hsz := hC.low.size
          have hsw := HI.out.low.size
          clear hr hRO hRD hn hC
          generalize w5.heap.size = gx at *
          go_wp2_with (at_builtin; refine wpList_push2 rfl (.tmp 57) (.tmp 59) 24 rfl w.heap.size 84 (.agg #[.slice none 0 0, .slice none 0 0]) 2 48 Tryz.underlying24 info_row rfl (by decide) (by decide) u3 i (done.flatMap Rw.vals) rfl hown.out (by simp; omega) ⟨wr.heap.size, 0, none⟩ 1 [.slice A9 r.cs.length c9, .slice E5 r.ex.length k5] rfl rfl (new_cells (Blk.new _ _ _)) (by simp [Value.oneCell']) hl48 ?_; intro v9 W9 hown9 hg9 hv9)
          have HNX := Lib.hid (GI.next (R := ⟨A9, c9, dn, E5, k5, r.ex⟩) HI.out HRK.out.1 HRK.out.2.2.2.2 HRK.out.2.1 HRK.out.2.2.1 (by show W9.ownsRow _ _ _ _ _ (_ ++ [.slice A9 dn.length c9, .slice E5 r.ex.length k5]); rw [HRK.out.2.2.2.1]; exact hown9) (by show (wr.alloc (.cells #[.slice A9 dn.length c9, .slice E5 r.ex.length k5] _)).grownBy _ _; rw [HRK.out.2.2.2.1]; exact hg9) (by show _ ∨ ∃ q, _ ∧ (wr.alloc (.cells #[.slice A9 dn.length c9, .slice E5 r.ex.length k5] _)).heap.size ≤ q; rw [HRK.out.2.2.2.1]; exact hv9))
          clear hown9 hg9 hv9
          go_wp2_with fail
          go_roundw
          case rel => exact ⟨i + 1, _, by omega, by go_num, HNX.out⟩
          case measure => simp [intOf]; omega
    · obtain rfl : i = rs.length := by omega
      go_wp2_with fail
      go_ret
      exact ⟨_, _, rfl, HI.out⟩
end Go.Proofs.YtoboecenlangmaaGreat.Al
end

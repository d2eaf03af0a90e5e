import Derived.Test.YtoboecenlangmaaNodeTe
import Derived.Test.YtoboecenlangmaaNz
import Derived.Lib.MinMax
import Derived.BigQuiet
/- The contract of row (printed by gen_noderow.py). Conditions: those that each theorem names. -/
namespace Go.Proofs.Ytoboecenlangmaa.No
open Go.ChangeShapes Go.WideShapes Go.ChangeAt Go.RowKit
open Me Np
set_option linter.unusedVariables false
set_option linter.unusedSimpArgs false
attribute [local go_sem ↓] ldN_eq
theorem box_shift {n : Nd} (h : right n = true) (h4 : n.kind = 4 ∨ n.kind = 5) : -1073741823 ≤ n.shift ∧ n.shift ≤ 1073741823 := by
  have hs : dimB n.shift = true := by
    rcases h4 with h4 | h4
    · have := right_kind (k := 4) h h4
      simp only [goodK, gBox, Bool.and_eq_true] at this
      exact this.1.2.2.2
    · have := right_kind (k := 5) h h4
      simp only [goodK, gBox, Bool.and_eq_true] at this
      exact this.1.2.2.2
  exact dm_of hs
set_option maxHeartbeats 4000000 in
set_option maxRecDepth 100000 in
theorem row_of (A : Option Addr) (ns : List Nd) (c : Nat) (xs : List Nat) (ra : Nat → Int × Int) (w : World) (hl : ns.length ≤ 2000) (hseg : Seg w w.heap.size A (ns.flatMap ncs)) (hx : Its xs ns 0) (hr : ∀ x ∈ ns, right x = true)
    (hrv : ∀ k ∈ xs, RV (ra k)) (hone : ∀ k ∈ xs, ∀ n, ns[k]? = some n → ¬ n.kind = 10 → ra k = rowP n)
    (hdisc : ∀ k ∈ xs, ∀ n, ns[k]? = some n → n.kind = 10 → ∀ w1, Below w.heap.size w w1 → Calls Try.prog 119 #[.slice A ns.length c, .int .i64 (k : Int)] w1 fun e w' => ∃ vs A2 c2 l2, e = .returned (.agg (tc3 vs)) ∧ vs 2 = .slice A2 l2 c2 ∧ Below w1.heap.size w1 w' ∧
      Calls Try.prog 77 #[.slice A2 l2 c2] w' fun e w2 => e = .returned (.tuple #[.int .i64 (ra k).1, .int .i64 (ra k).2]) ∧ Below w'.heap.size w' w2) :
    Calls Try.prog 77 #[.slice A ns.length c] w fun e w' => e = .returned (.tuple #[.int .i64 (rfold ra xs (0, 0)).1, .int .i64 (rfold ra xs (0, 0)).2]) ∧ Below w.heap.size w w' := by
  have HDI := Lib.hid hdisc
  have HON := Lib.hid hone
  have HRV := Lib.hid hrv
  have HRT := Lib.hid hr
  have HSEG := Lib.hid hseg
  have HITS := Lib.hid (items_any A ns c xs w hl hseg hx)
  have hxl := Its.len hx
  have HLT := Lib.hid (Its.lt hx)
  clear hdisc hone hrv hr hseg hx
  have HL := Lib.hid (rfl : ns.length = ns.length)
  generalize hlen : ns.length = len at hl HDI HITS HL hxl HLT ⊢
  clear HL
  have HL := Lib.hid hlen
  clear hlen
  go_enter Try.func77, Try.ntmps77
  go_wp2_with fail
  refine HITS.out.mono ?_
  rintro e w1 ⟨v, rfl, ho, hb1⟩
  obtain ⟨A', c', rfl⟩ := made_len ho
  have HO := Lib.hid ho
  have HB1 := Lib.hid hb1
  clear ho hb1
  go_wp2_with fail
  go_loopw [2, 3, 12] (fun h d i wr => ∃ (k : Nat) (s : Int × Int), k ≤ xs.length ∧ i = .int .i64 k ∧ h = .int .i64 s.1 ∧ d = .int .i64 s.2 ∧ RB s ∧ rfold ra (xs.drop k) s = rfold ra xs (0, 0) ∧ Below w1.heap.size w1 wr) (fun _ _ i _ => xs.length - (intOf i).toNat)
  case atStart => exact ⟨0, (0, 0), by omega, rfl, rfl, rfl, by unfold RB; simp only; omega, rfl, Below.refl _ _⟩
  case round =>
    obtain ⟨k, s, hk, rfl, rfl, rfl, hrb, hfo, hlow⟩ := hrel
    have HRB := Lib.hid hrb
    by_cases hlt : k < xs.length
    · obtain ⟨x, hx, hxd⟩ : ∃ x, xs[k]? = some x ∧ xs.drop k = x :: xs.drop (k + 1) := ⟨xs[k], List.getElem?_eq_getElem hlt, List.drop_eq_getElem_cons hlt⟩
      have hxm : x ∈ xs := List.mem_of_getElem? hx
      have hxl2 := (HLT.out x hxm).2
      obtain ⟨n, hn, hnd⟩ := get_drop (l := ns) (k := x) (by rw [HL.out]; omega)
      have HRN := Lib.hid (HRT.out n (List.mem_of_getElem? hn))
      have HNN := Lib.hid hn
      obtain ⟨b, off, rfl, hb, hnode⟩ := seg_node HSEG.out hn
      have HLW := Lib.hid (andThen HB1.out hlow)
      have hnr : NodeAt wr b (off + x * 19) n := hnode.below HLW.out hb
      have hld0 : (ldN ⟨b, off + x * 19, none⟩).run Try.prog wr = .ok (.agg (nc n)) wr := run_ldN hnr
      rw [hxd] at hfo
      have HFO := Lib.hid (show rfold ra (xs.drop (k + 1)) (rstep s (ra x)) = rfold ra xs (0, 0) from hfo)
      obtain ⟨g, rfl, hg⟩ : ∃ g, A' = some ⟨g, 0, none⟩ ∧ g < w1.heap.size := by
        rcases id HO.out.2 with ⟨_, h5⟩ | ⟨g, _, _, h5, _, h6, _⟩
        · omega
        · simp at h5
          exact ⟨g, h5.1, (Array.getElem?_eq_some_iff.1 h6).1⟩
      have hxc : wr.cell? ⟨g, k, none⟩ = some (.int .i64 x) := by
        rw [hlow.cell (p := ⟨g, k, none⟩) hg, World.ownsRow.cellAt HO.out k (by omega), List.getElem?_map, hx]
        rfl
      clear hn hnd hx hnode hxd hfo hnr hrb
      by_cases h10 : n.kind = 10
      · have e1 : (n.kind == 1) = false := by simp [h10]
        have e2 : (n.kind == 2) = false := by simp [h10]
        have e3 : (n.kind == 3) = false := by simp [h10]
        have e4 : (n.kind == 4) = false := by simp [h10]
        have e5 : (n.kind == 5) = false := by simp [h10]
        have e10 : (n.kind == 10) = true := by simp [h10]
        have HD3 := Lib.hid (HDI.out x hxm n HNN.out h10 (wr.alloc (.cells (nc n) 54)) (andAlloc HLW.out _))
        have hlw2 := andAlloc hlow (.cells (nc n) 54)
        clear h10
        go_wp2_with (first | (with_reducible show wpList _ _ _ _ _ _; refine wpList_alloc_node rfl rfl ?_) | (with_reducible show wpList _ _ _ _ _ _; refine wpList_store_node rfl _ _ rfl _ _ _ rfl rfl _ (by repeat (first | (apply Blk.new'; first | rfl | (simp; done)) | assumption | apply Blk.alloc)) ?_))
        refine HD3.out.mono ?_
        rintro e w4 ⟨vs, A2, c2, l2, rfl, hv2, hb4, hsum⟩
        have HSU := Lib.hid hsum
        have hlw4 := andThen hlw2 hb4
        have hix : ∀ w, (Instr.index 110 (.agg (tc3 vs)) (.int .i64 2)).run Try.prog w = .ok (vs 2) w := fun w => idx2 _ _ _ w
        rw [hv2] at hix
        clear hsum hv2 hb4 HD3 hlw2
        generalize tc3 vs = cs3 at hix ⊢
        go_wp2_with fail
        refine HSU.out.mono ?_
        rintro e w5 ⟨rfl, hb5⟩
        have hlw5 := andThen hlw4 hb5
        clear hb5 hlw4 HSU hix
        go_wp2_with fail
        go_roundw
        case rel => exact ⟨k + 1, rstep s (ra x), by omega, by go_num, rfl, rfl, HRB.out.step (HRV.out x hxm), HFO.out, by repeat (first | exact hlw5 | refine below_drewN ?_ _ | refine andAlloc ?_ _)⟩
        case measure => simp [intOf]; omega
      · by_cases hk5 : n.kind = 1 ∨ n.kind = 2 ∨ n.kind = 3 ∨ n.kind = 4 ∨ n.kind = 5
        · rcases hk5 with hk | hk | hk | hk | hk
          · have e1 : (n.kind == 1) = true := by simp [hk]
            have hra := HON.out x hxm n HNN.out (by omega)
            rw [show rowP n = (n.ht, n.dp) by unfold rowP; rw [if_pos (by omega)]] at hra
            have HRA := Lib.hid hra
            clear hra hk
            go_wp2_with (first | (with_reducible show wpList _ _ _ _ _ _; refine wpList_alloc_node rfl rfl ?_) | (with_reducible show wpList _ _ _ _ _ _; refine wpList_store_node rfl _ _ rfl _ _ _ rfl rfl _ (by repeat (first | (apply Blk.new'; first | rfl | (simp; done)) | assumption | apply Blk.alloc)) ?_))
            go_quiet (fail)
            go_wp2_with fail
            go_roundw
            case rel => exact ⟨k + 1, rstep s (n.ht, n.dp), by omega, by go_num, rfl, rfl, by rw [← HRA.out]; exact HRB.out.step (HRV.out x hxm), by rw [← HRA.out]; exact HFO.out, by repeat (first | exact hlow | refine below_drewN ?_ _ | refine andAlloc ?_ _)⟩
            case measure => simp [intOf]; omega
          · have e1 : (n.kind == 1) = false := by simp [hk]
            have e2 : (n.kind == 2) = true := by simp [hk]
            have hra := HON.out x hxm n HNN.out (by omega)
            rw [show rowP n = (n.ht, n.dp) by unfold rowP; rw [if_pos (by omega)]] at hra
            have HRA := Lib.hid hra
            clear hra hk
            go_wp2_with (first | (with_reducible show wpList _ _ _ _ _ _; refine wpList_alloc_node rfl rfl ?_) | (with_reducible show wpList _ _ _ _ _ _; refine wpList_store_node rfl _ _ rfl _ _ _ rfl rfl _ (by repeat (first | (apply Blk.new'; first | rfl | (simp; done)) | assumption | apply Blk.alloc)) ?_))
            go_quiet (fail)
            go_wp2_with fail
            go_roundw
            case rel => exact ⟨k + 1, rstep s (n.ht, n.dp), by omega, by go_num, rfl, rfl, by rw [← HRA.out]; exact HRB.out.step (HRV.out x hxm), by rw [← HRA.out]; exact HFO.out, by repeat (first | exact hlow | refine below_drewN ?_ _ | refine andAlloc ?_ _)⟩
            case measure => simp [intOf]; omega
          · have e1 : (n.kind == 1) = false := by simp [hk]
            have e2 : (n.kind == 2) = false := by simp [hk]
            have e3 : (n.kind == 3) = true := by simp [hk]
            have hra := HON.out x hxm n HNN.out (by omega)
            rw [show rowP n = (n.ht, n.dp) by unfold rowP; rw [if_pos (by omega)]] at hra
            have HRA := Lib.hid hra
            clear hra hk
            go_wp2_with (first | (with_reducible show wpList _ _ _ _ _ _; refine wpList_alloc_node rfl rfl ?_) | (with_reducible show wpList _ _ _ _ _ _; refine wpList_store_node rfl _ _ rfl _ _ _ rfl rfl _ (by repeat (first | (apply Blk.new'; first | rfl | (simp; done)) | assumption | apply Blk.alloc)) ?_))
            go_quiet (fail)
            go_wp2_with fail
            go_roundw
            case rel => exact ⟨k + 1, rstep s (n.ht, n.dp), by omega, by go_num, rfl, rfl, by rw [← HRA.out]; exact HRB.out.step (HRV.out x hxm), by rw [← HRA.out]; exact HFO.out, by repeat (first | exact hlow | refine below_drewN ?_ _ | refine andAlloc ?_ _)⟩
            case measure => simp [intOf]; omega
          · have e1 : (n.kind == 1) = false := by simp [hk]
            have e2 : (n.kind == 2) = false := by simp [hk]
            have e3 : (n.kind == 3) = false := by simp [hk]
            have e4 : (n.kind == 4) = true := by simp [hk]
            have hra := HON.out x hxm n HNN.out (by omega)
            rw [show rowP n = (n.ht - n.shift, n.dp + n.shift) by unfold rowP; rw [if_neg (by omega), if_pos (by omega)]] at hra
            have hd := right_hd HRN.out (by omega)
            unfold dm at hd
            have hsh := box_shift HRN.out (by omega)
            have hw1 : IntKind.i64.wrap (n.ht - n.shift) = n.ht - n.shift := IntWalk.i64_in _ (by omega)
            have hw2 : IntKind.i64.wrap (n.dp + n.shift) = n.dp + n.shift := IntWalk.i64_in _ (by omega)
            clear hd hsh
            have HRA := Lib.hid hra
            clear hra hk
            go_wp2_with (first | (with_reducible show wpList _ _ _ _ _ _; refine wpList_alloc_node rfl rfl ?_) | (with_reducible show wpList _ _ _ _ _ _; refine wpList_store_node rfl _ _ rfl _ _ _ rfl rfl _ (by repeat (first | (apply Blk.new'; first | rfl | (simp; done)) | assumption | apply Blk.alloc)) ?_))
            go_quiet (fail)
            go_wp2_with fail
            go_roundw
            case rel => exact ⟨k + 1, rstep s (n.ht - n.shift, n.dp + n.shift), by omega, by go_num, rfl, rfl, by rw [← HRA.out]; exact HRB.out.step (HRV.out x hxm), by rw [← HRA.out]; exact HFO.out, by repeat (first | exact hlow | refine below_drewN ?_ _ | refine andAlloc ?_ _)⟩
            case measure => simp [intOf]; omega
          · have e1 : (n.kind == 1) = false := by simp [hk]
            have e2 : (n.kind == 2) = false := by simp [hk]
            have e3 : (n.kind == 3) = false := by simp [hk]
            have e4 : (n.kind == 4) = false := by simp [hk]
            have e5 : (n.kind == 5) = true := by simp [hk]
            have hra := HON.out x hxm n HNN.out (by omega)
            rw [show rowP n = (n.ht - n.shift, n.dp + n.shift) by unfold rowP; rw [if_neg (by omega), if_pos (by omega)]] at hra
            have hd := right_hd HRN.out (by omega)
            unfold dm at hd
            have hsh := box_shift HRN.out (by omega)
            have hw1 : IntKind.i64.wrap (n.ht - n.shift) = n.ht - n.shift := IntWalk.i64_in _ (by omega)
            have hw2 : IntKind.i64.wrap (n.dp + n.shift) = n.dp + n.shift := IntWalk.i64_in _ (by omega)
            clear hd hsh
            have HRA := Lib.hid hra
            clear hra hk
            go_wp2_with (first | (with_reducible show wpList _ _ _ _ _ _; refine wpList_alloc_node rfl rfl ?_) | (with_reducible show wpList _ _ _ _ _ _; refine wpList_store_node rfl _ _ rfl _ _ _ rfl rfl _ (by repeat (first | (apply Blk.new'; first | rfl | (simp; done)) | assumption | apply Blk.alloc)) ?_))
            go_quiet (fail)
            go_wp2_with fail
            go_roundw
            case rel => exact ⟨k + 1, rstep s (n.ht - n.shift, n.dp + n.shift), by omega, by go_num, rfl, rfl, by rw [← HRA.out]; exact HRB.out.step (HRV.out x hxm), by rw [← HRA.out]; exact HFO.out, by repeat (first | exact hlow | refine below_drewN ?_ _ | refine andAlloc ?_ _)⟩
            case measure => simp [intOf]; omega
        · have e1 : (n.kind == 1) = false := by simp; omega
          have e2 : (n.kind == 2) = false := by simp; omega
          have e3 : (n.kind == 3) = false := by simp; omega
          have e4 : (n.kind == 4) = false := by simp; omega
          have e5 : (n.kind == 5) = false := by simp; omega
          have e10 : (n.kind == 10) = false := by simp; omega
          have hra := HON.out x hxm n HNN.out h10
          rw [show rowP n = (0, 0) by unfold rowP; rw [if_neg (by omega), if_neg (by omega)]] at hra
          have HRA := Lib.hid hra
          clear hra h10 hk5
          go_wp2_with (first | (with_reducible show wpList _ _ _ _ _ _; refine wpList_alloc_node rfl rfl ?_) | (with_reducible show wpList _ _ _ _ _ _; refine wpList_store_node rfl _ _ rfl _ _ _ rfl rfl _ (by repeat (first | (apply Blk.new'; first | rfl | (simp; done)) | assumption | apply Blk.alloc)) ?_))
          go_roundw
          case rel => exact ⟨k + 1, rstep s (0, 0), by omega, by go_num, rfl, rfl, by have hh := HRB.out.step (HRV.out x hxm); rw [HRA.out] at hh; exact hh, by have hf := HFO.out; rw [HRA.out] at hf; exact hf, by repeat (first | exact hlow | refine below_drewN ?_ _ | refine andAlloc ?_ _)⟩
          case measure => simp [intOf]; omega
    · obtain rfl : k = xs.length := by omega
      rw [List.drop_of_length_le (Nat.le_refl _)] at hfo
      have hfo : s = rfold ra xs (0, 0) := hfo
      subst hfo
      have HLW := Lib.hid (andThen HB1.out hlow)
      go_wp2_with fail
      go_ret2
      exact ⟨rfl, HLW.out⟩
end Go.Proofs.Ytoboecenlangmaa.No


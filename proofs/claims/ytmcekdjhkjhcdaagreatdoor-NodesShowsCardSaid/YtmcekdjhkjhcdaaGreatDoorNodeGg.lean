import Derived.Test.YtmcekdjhkjhcdaaGreatDoorNodeGe
import Derived.Test.YtmcekdjhkjhcdaaGreatDoorRck
import Derived.Deep.RegionHeld3
/- Contracts of the document's Good (printed by gen_nodegd.py). Conditions: those that each theorem names. -/
namespace Go.Proofs.YtmcekdjhkjhcdaaGreatDoor.No
open Go.ChangeShapes Go.WideShapes Go.ChangeAt Go.RowKit
open Me Np
set_option linter.unusedVariables false
set_option linter.unusedSimpArgs false
attribute [local go_sem ↓] ldN_eq eqN_eq bldN_eq

set_option maxHeartbeats 2000000 in
set_option maxRecDepth 100000 in
theorem good_1 (n : Nd) (w : World) (hk : n.kind = 1) : Calls Tryz.prog 29 #[.agg (nc n)] w fun e w' => e = .returned (.bool (goodR n)) ∧ Below w.heap.size w w' := by
  have e1 : (n.kind == 1) = true := by rw [hk]; decide
  have hg : goodR n = glyphR n := by unfold goodR; simp [hk]
  rw [hg]
  clear hg
  have HK := Lib.hid (show n.kind = 1 ∨ n.kind = 2 by omega)
  clear hk
  go_enter Tryz.func29, Tryz.ntmps29
  go_wp2_with (first | (with_reducible show wpList _ _ _ _ _ _; refine wpList_load_node rfl _ rfl _ _ rfl _ (by repeat (first | apply NodeAt.row | (apply Blk.new'; first | rfl | (simp; done)) | (apply Blk.node; apply Blk.new'; first | rfl | (simp; done)) | assumption | apply NodeAt.alloc)) ?_) | (go_at_call 75; refine (rglyph_any n _ HK.out).mono ?_; rintro e w9 ⟨rfl, hb9⟩))
  go_ret
  exact ⟨rfl, andThen (andAlloc (Below.refl _ _) _) hb9⟩

set_option maxHeartbeats 2000000 in
set_option maxRecDepth 100000 in
theorem good_2 (n : Nd) (w : World) (hk : n.kind = 2) : Calls Tryz.prog 29 #[.agg (nc n)] w fun e w' => e = .returned (.bool (goodR n)) ∧ Below w.heap.size w w' := by
  have e1 : (n.kind == 1) = false := by rw [hk]; decide
  have e2 : (n.kind == 2) = true := by rw [hk]; decide
  have hg : goodR n = glyphR n := by unfold goodR; simp [hk]
  rw [hg]
  clear hg
  have HK := Lib.hid (show n.kind = 1 ∨ n.kind = 2 by omega)
  clear hk
  go_enter Tryz.func29, Tryz.ntmps29
  go_wp2_with (first | (with_reducible show wpList _ _ _ _ _ _; refine wpList_load_node rfl _ rfl _ _ rfl _ (by repeat (first | apply NodeAt.row | (apply Blk.new'; first | rfl | (simp; done)) | (apply Blk.node; apply Blk.new'; first | rfl | (simp; done)) | assumption | apply NodeAt.alloc)) ?_) | (go_at_call 75; refine (rglyph_any n _ HK.out).mono ?_; rintro e w9 ⟨rfl, hb9⟩))
  go_ret
  exact ⟨rfl, andThen (andAlloc (Below.refl _ _) _) hb9⟩

set_option maxHeartbeats 2000000 in
set_option maxRecDepth 100000 in
theorem good_3 (n : Nd) (w : World) (hk : n.kind = 3) : Calls Tryz.prog 29 #[.agg (nc n)] w fun e w' => e = .returned (.bool (goodR n)) ∧ Below w.heap.size w w' := by
  have e1 : (n.kind == 1) = false := by rw [hk]; decide
  have e2 : (n.kind == 2) = false := by rw [hk]; decide
  have e3 : (n.kind == 3) = true := by rw [hk]; decide
  have hg : goodR n = ruleR n := by unfold goodR; simp [hk]
  rw [hg]
  clear hg
  clear hk
  go_enter Tryz.func29, Tryz.ntmps29
  go_wp2_with (first | (with_reducible show wpList _ _ _ _ _ _; refine wpList_load_node rfl _ rfl _ _ rfl _ (by repeat (first | apply NodeAt.row | (apply Blk.new'; first | rfl | (simp; done)) | (apply Blk.node; apply Blk.new'; first | rfl | (simp; done)) | assumption | apply NodeAt.alloc)) ?_) | (go_at_call 76; refine (rrule_any n _).mono ?_; rintro e w9 ⟨rfl, hb9⟩))
  go_ret
  exact ⟨rfl, andThen (andAlloc (Below.refl _ _) _) hb9⟩

set_option maxHeartbeats 2000000 in
set_option maxRecDepth 100000 in
theorem good_4 (n : Nd) (w : World) (hk : n.kind = 4) : Calls Tryz.prog 29 #[.agg (nc n)] w fun e w' => e = .returned (.bool (goodR n)) ∧ Below w.heap.size w w' := by
  have e1 : (n.kind == 1) = false := by rw [hk]; decide
  have e2 : (n.kind == 2) = false := by rw [hk]; decide
  have e3 : (n.kind == 3) = false := by rw [hk]; decide
  have e4 : (n.kind == 4) = true := by rw [hk]; decide
  have hg : goodR n = boxR n := by unfold goodR; simp [hk]
  rw [hg]
  clear hg
  clear hk
  go_enter Tryz.func29, Tryz.ntmps29
  go_wp2_with (first | (with_reducible show wpList _ _ _ _ _ _; refine wpList_load_node rfl _ rfl _ _ rfl _ (by repeat (first | apply NodeAt.row | (apply Blk.new'; first | rfl | (simp; done)) | (apply Blk.node; apply Blk.new'; first | rfl | (simp; done)) | assumption | apply NodeAt.alloc)) ?_) | (go_at_call 77; refine (rbox_any n _).mono ?_; rintro e w9 ⟨rfl, hb9⟩))
  go_ret
  exact ⟨rfl, andThen (andAlloc (Below.refl _ _) _) hb9⟩

set_option maxHeartbeats 2000000 in
set_option maxRecDepth 100000 in
theorem good_5 (n : Nd) (w : World) (hk : n.kind = 5) : Calls Tryz.prog 29 #[.agg (nc n)] w fun e w' => e = .returned (.bool (goodR n)) ∧ Below w.heap.size w w' := by
  have e1 : (n.kind == 1) = false := by rw [hk]; decide
  have e2 : (n.kind == 2) = false := by rw [hk]; decide
  have e3 : (n.kind == 3) = false := by rw [hk]; decide
  have e4 : (n.kind == 4) = false := by rw [hk]; decide
  have e5 : (n.kind == 5) = true := by rw [hk]; decide
  have hg : goodR n = boxR n := by unfold goodR; simp [hk]
  rw [hg]
  clear hg
  clear hk
  go_enter Tryz.func29, Tryz.ntmps29
  go_wp2_with (first | (with_reducible show wpList _ _ _ _ _ _; refine wpList_load_node rfl _ rfl _ _ rfl _ (by repeat (first | apply NodeAt.row | (apply Blk.new'; first | rfl | (simp; done)) | (apply Blk.node; apply Blk.new'; first | rfl | (simp; done)) | assumption | apply NodeAt.alloc)) ?_) | (go_at_call 77; refine (rbox_any n _).mono ?_; rintro e w9 ⟨rfl, hb9⟩))
  go_ret
  exact ⟨rfl, andThen (andAlloc (Below.refl _ _) _) hb9⟩

set_option maxHeartbeats 2000000 in
set_option maxRecDepth 100000 in
theorem good_7 (n : Nd) (w : World) (hk : n.kind = 7) : Calls Tryz.prog 29 #[.agg (nc n)] w fun e w' => e = .returned (.bool (goodR n)) ∧ Below w.heap.size w w' := by
  have e1 : (n.kind == 1) = false := by rw [hk]; decide
  have e2 : (n.kind == 2) = false := by rw [hk]; decide
  have e3 : (n.kind == 3) = false := by rw [hk]; decide
  have e4 : (n.kind == 4) = false := by rw [hk]; decide
  have e5 : (n.kind == 5) = false := by rw [hk]; decide
  have e7 : (n.kind == 7) = true := by rw [hk]; decide
  have hg : goodR n = (glB n && (winB n.sub 0 20 && eqB n { nz n.kind with gn := n.gn, gs := n.gs, gh := n.gh, ga := n.ga, gb := n.gb, sub := n.sub })) := by unfold goodR; simp [hk]
  rw [hg]
  have HG := Lib.hid hk
  clear hg hk
  obtain ⟨Rn, hR⟩ : ∃ Rn : Nd, { nz n.kind with gn := n.gn, gs := n.gs, gh := n.gh, ga := n.ga, gb := n.gb, sub := n.sub } = Rn := ⟨_, rfl⟩
  rw [hR]
  have hbn : ∀ w, (bldN #[(0, .int .i64 n.kind), (7, .agg #[.int .i64 n.gn, .int .i64 n.gs, .int .i64 n.gh, .int .i64 n.ga, .int .i64 n.gb]), (13, .int .i64 n.sub)]).run Tryz.prog w = .ok (.agg (nc Rn)) w := fun w => by rw [← hR, ← bldN_eq]; exact run_build w 36 _ _ (by kernel_rfl)
  have hq : ∀ w, (eqN (.agg (nc n)) (.agg (nc Rn))).run Tryz.prog w = .ok (.bool (eqB n Rn)) w := fun w => run_eqN n Rn w
  clear hR
  generalize eqB n Rn = E at *
  have hld : (ldN ⟨w.heap.size, 0, none⟩).run Tryz.prog (w.alloc (.cells (nc n) 36)) = .ok (.agg (nc n)) (w.alloc (.cells (nc n) 36)) := run_ldN (Blk.node (Blk.new' rfl))
  have hld2 : ∀ o : Obj, (ldN ⟨w.heap.size, 0, none⟩).run Tryz.prog ((w.alloc (.cells (nc n) 36)).alloc o) = .ok (.agg (nc n)) ((w.alloc (.cells (nc n) 36)).alloc o) := fun o => run_ldN (NodeAt.alloc (Blk.node (Blk.new' rfl)) o)
  go_enter Tryz.func29, Tryz.ntmps29
  go_wp2_with (first | (with_reducible show wpList _ _ _ _ _ _; refine wpList_load_node rfl _ rfl _ _ rfl _ (by repeat (first | apply NodeAt.row | (apply Blk.new'; first | rfl | (simp; done)) | (apply Blk.node; apply Blk.new'; first | rfl | (simp; done)) | assumption | apply NodeAt.alloc)) ?_) | (with_reducible show wpList _ _ _ _ _ _; refine wpList_load_nodeG rfl _ rfl _ _ rfl _ (by repeat (first | apply NodeAt.row | (apply Blk.new'; first | rfl | (simp; done)) | (apply Blk.node; apply Blk.new'; first | rfl | (simp; done)) | assumption | apply NodeAt.alloc)) ?_) | (go_at_call 79; refine (rdimen_any _ _).mono ?_; rintro e w' ⟨rfl, rfl⟩) | (go_at_call 80; (with_reducible refine (Ck.refFar _ _).mono ?_); rintro e w' ⟨rfl, rfl⟩) | (go_at_call 78; (with_reducible refine (Ck.rcheck_any _ _ _ _ _ _).mono ?_); rintro e w' ⟨rfl, rfl⟩))
  all_goals (go_ret; refine ⟨ret_bool ?_, by repeat (first | exact Below.refl _ _ | refine andAlloc ?_ _)⟩)
  all_goals first
    | rfl
    | (clear hbn hq hld hld2; simp_all [winB, glB]; done)
    | (clear hbn hq hld hld2; simp_all [winB, glB]; omega)

set_option maxHeartbeats 2000000 in
set_option maxRecDepth 100000 in
theorem good_8 (n : Nd) (w : World) (hk : n.kind = 8) : Calls Tryz.prog 29 #[.agg (nc n)] w fun e w' => e = .returned (.bool (goodR n)) ∧ Below w.heap.size w w' := by
  have e1 : (n.kind == 1) = false := by rw [hk]; decide
  have e2 : (n.kind == 2) = false := by rw [hk]; decide
  have e3 : (n.kind == 3) = false := by rw [hk]; decide
  have e4 : (n.kind == 4) = false := by rw [hk]; decide
  have e5 : (n.kind == 5) = false := by rw [hk]; decide
  have e7 : (n.kind == 7) = false := by rw [hk]; decide
  have e8 : (n.kind == 8) = true := by rw [hk]; decide
  have hg : goodR n = (dimB n.wd && (winB n.sub 0 2 && eqB n { nz n.kind with wd := n.wd, sub := n.sub })) := by unfold goodR; simp [hk]
  rw [hg]
  have HG := Lib.hid hk
  clear hg hk
  obtain ⟨Rn, hR⟩ : ∃ Rn : Nd, { nz n.kind with wd := n.wd, sub := n.sub } = Rn := ⟨_, rfl⟩
  rw [hR]
  have hbn : ∀ w, (bldN #[(0, .int .i64 n.kind), (3, .int .i64 n.wd), (13, .int .i64 n.sub)]).run Tryz.prog w = .ok (.agg (nc Rn)) w := fun w => by rw [← hR, ← bldN_eq]; exact run_build w 36 _ _ (by kernel_rfl)
  have hq : ∀ w, (eqN (.agg (nc n)) (.agg (nc Rn))).run Tryz.prog w = .ok (.bool (eqB n Rn)) w := fun w => run_eqN n Rn w
  clear hR
  generalize eqB n Rn = E at *
  have hld : (ldN ⟨w.heap.size, 0, none⟩).run Tryz.prog (w.alloc (.cells (nc n) 36)) = .ok (.agg (nc n)) (w.alloc (.cells (nc n) 36)) := run_ldN (Blk.node (Blk.new' rfl))
  have hld2 : ∀ o : Obj, (ldN ⟨w.heap.size, 0, none⟩).run Tryz.prog ((w.alloc (.cells (nc n) 36)).alloc o) = .ok (.agg (nc n)) ((w.alloc (.cells (nc n) 36)).alloc o) := fun o => run_ldN (NodeAt.alloc (Blk.node (Blk.new' rfl)) o)
  go_enter Tryz.func29, Tryz.ntmps29
  go_wp2_with (first | (with_reducible show wpList _ _ _ _ _ _; refine wpList_load_node rfl _ rfl _ _ rfl _ (by repeat (first | apply NodeAt.row | (apply Blk.new'; first | rfl | (simp; done)) | (apply Blk.node; apply Blk.new'; first | rfl | (simp; done)) | assumption | apply NodeAt.alloc)) ?_) | (with_reducible show wpList _ _ _ _ _ _; refine wpList_load_nodeG rfl _ rfl _ _ rfl _ (by repeat (first | apply NodeAt.row | (apply Blk.new'; first | rfl | (simp; done)) | (apply Blk.node; apply Blk.new'; first | rfl | (simp; done)) | assumption | apply NodeAt.alloc)) ?_) | (go_at_call 79; refine (rdimen_any _ _).mono ?_; rintro e w' ⟨rfl, rfl⟩) | (go_at_call 80; (with_reducible refine (Ck.refFar _ _).mono ?_); rintro e w' ⟨rfl, rfl⟩) | (go_at_call 78; (with_reducible refine (Ck.rcheck_any _ _ _ _ _ _).mono ?_); rintro e w' ⟨rfl, rfl⟩))
  all_goals (go_ret; refine ⟨ret_bool ?_, by repeat (first | exact Below.refl _ _ | refine andAlloc ?_ _)⟩)
  all_goals first
    | rfl
    | (clear hbn hq hld hld2; simp_all [winB, glB]; done)
    | (clear hbn hq hld hld2; simp_all [winB, glB]; omega)

set_option maxHeartbeats 2000000 in
set_option maxRecDepth 100000 in
theorem good_9 (n : Nd) (w : World) (hk : n.kind = 9) : Calls Tryz.prog 29 #[.agg (nc n)] w fun e w' => e = .returned (.bool (goodR n)) ∧ Below w.heap.size w w' := by
  have e1 : (n.kind == 1) = false := by rw [hk]; decide
  have e2 : (n.kind == 2) = false := by rw [hk]; decide
  have e3 : (n.kind == 3) = false := by rw [hk]; decide
  have e4 : (n.kind == 4) = false := by rw [hk]; decide
  have e5 : (n.kind == 5) = false := by rw [hk]; decide
  have e7 : (n.kind == 7) = false := by rw [hk]; decide
  have e8 : (n.kind == 8) = false := by rw [hk]; decide
  have e9 : (n.kind == 9) = true := by rw [hk]; decide
  have hg : goodR n = (winB n.pen (-2147483647) 2147483647 && eqB n { nz n.kind with pen := n.pen }) := by unfold goodR; simp [hk]
  rw [hg]
  have HG := Lib.hid hk
  clear hg hk
  obtain ⟨Rn, hR⟩ : ∃ Rn : Nd, { nz n.kind with pen := n.pen } = Rn := ⟨_, rfl⟩
  rw [hR]
  have hbn : ∀ w, (bldN #[(0, .int .i64 n.kind), (12, .int .i64 n.pen)]).run Tryz.prog w = .ok (.agg (nc Rn)) w := fun w => by rw [← hR, ← bldN_eq]; exact run_build w 36 _ _ (by kernel_rfl)
  have hq : ∀ w, (eqN (.agg (nc n)) (.agg (nc Rn))).run Tryz.prog w = .ok (.bool (eqB n Rn)) w := fun w => run_eqN n Rn w
  clear hR
  generalize eqB n Rn = E at *
  have hld : (ldN ⟨w.heap.size, 0, none⟩).run Tryz.prog (w.alloc (.cells (nc n) 36)) = .ok (.agg (nc n)) (w.alloc (.cells (nc n) 36)) := run_ldN (Blk.node (Blk.new' rfl))
  have hld2 : ∀ o : Obj, (ldN ⟨w.heap.size, 0, none⟩).run Tryz.prog ((w.alloc (.cells (nc n) 36)).alloc o) = .ok (.agg (nc n)) ((w.alloc (.cells (nc n) 36)).alloc o) := fun o => run_ldN (NodeAt.alloc (Blk.node (Blk.new' rfl)) o)
  go_enter Tryz.func29, Tryz.ntmps29
  go_wp2_with (first | (with_reducible show wpList _ _ _ _ _ _; refine wpList_load_node rfl _ rfl _ _ rfl _ (by repeat (first | apply NodeAt.row | (apply Blk.new'; first | rfl | (simp; done)) | (apply Blk.node; apply Blk.new'; first | rfl | (simp; done)) | assumption | apply NodeAt.alloc)) ?_) | (with_reducible show wpList _ _ _ _ _ _; refine wpList_load_nodeG rfl _ rfl _ _ rfl _ (by repeat (first | apply NodeAt.row | (apply Blk.new'; first | rfl | (simp; done)) | (apply Blk.node; apply Blk.new'; first | rfl | (simp; done)) | assumption | apply NodeAt.alloc)) ?_) | (go_at_call 79; refine (rdimen_any _ _).mono ?_; rintro e w' ⟨rfl, rfl⟩) | (go_at_call 80; (with_reducible refine (Ck.refFar _ _).mono ?_); rintro e w' ⟨rfl, rfl⟩) | (go_at_call 78; (with_reducible refine (Ck.rcheck_any _ _ _ _ _ _).mono ?_); rintro e w' ⟨rfl, rfl⟩))
  all_goals (go_ret; refine ⟨ret_bool ?_, by repeat (first | exact Below.refl _ _ | refine andAlloc ?_ _)⟩)
  all_goals first
    | rfl
    | (clear hbn hq hld hld2; simp_all [winB, glB]; done)
    | (clear hbn hq hld hld2; simp_all [winB, glB]; omega)

set_option maxHeartbeats 2000000 in
set_option maxRecDepth 100000 in
theorem good_12 (n : Nd) (w : World) (hk : n.kind = 12) : Calls Tryz.prog 29 #[.agg (nc n)] w fun e w' => e = .returned (.bool (goodR n)) ∧ Below w.heap.size w w' := by
  have e1 : (n.kind == 1) = false := by rw [hk]; decide
  have e2 : (n.kind == 2) = false := by rw [hk]; decide
  have e3 : (n.kind == 3) = false := by rw [hk]; decide
  have e4 : (n.kind == 4) = false := by rw [hk]; decide
  have e5 : (n.kind == 5) = false := by rw [hk]; decide
  have e7 : (n.kind == 7) = false := by rw [hk]; decide
  have e8 : (n.kind == 8) = false := by rw [hk]; decide
  have e9 : (n.kind == 9) = false := by rw [hk]; decide
  have e12 : (n.kind == 12) = true := by rw [hk]; decide
  have hg : goodR n = (decide ((n.text.size : Int) ≤ 1000) && eqB n { nz n.kind with text := n.text }) := by unfold goodR; simp [hk]
  rw [hg]
  have HG := Lib.hid hk
  clear hg hk
  obtain ⟨Rn, hR⟩ : ∃ Rn : Nd, { nz n.kind with text := n.text } = Rn := ⟨_, rfl⟩
  rw [hR]
  have hbn : ∀ w, (bldN #[(0, .int .i64 n.kind), (14, .string n.text)]).run Tryz.prog w = .ok (.agg (nc Rn)) w := fun w => by rw [← hR, ← bldN_eq]; exact run_build w 36 _ _ (by kernel_rfl)
  have hq : ∀ w, (eqN (.agg (nc n)) (.agg (nc Rn))).run Tryz.prog w = .ok (.bool (eqB n Rn)) w := fun w => run_eqN n Rn w
  clear hR
  generalize eqB n Rn = E at *
  have hld : (ldN ⟨w.heap.size, 0, none⟩).run Tryz.prog (w.alloc (.cells (nc n) 36)) = .ok (.agg (nc n)) (w.alloc (.cells (nc n) 36)) := run_ldN (Blk.node (Blk.new' rfl))
  have hld2 : ∀ o : Obj, (ldN ⟨w.heap.size, 0, none⟩).run Tryz.prog ((w.alloc (.cells (nc n) 36)).alloc o) = .ok (.agg (nc n)) ((w.alloc (.cells (nc n) 36)).alloc o) := fun o => run_ldN (NodeAt.alloc (Blk.node (Blk.new' rfl)) o)
  go_enter Tryz.func29, Tryz.ntmps29
  go_wp2_with (first | (with_reducible show wpList _ _ _ _ _ _; refine wpList_load_node rfl _ rfl _ _ rfl _ (by repeat (first | apply NodeAt.row | (apply Blk.new'; first | rfl | (simp; done)) | (apply Blk.node; apply Blk.new'; first | rfl | (simp; done)) | assumption | apply NodeAt.alloc)) ?_) | (with_reducible show wpList _ _ _ _ _ _; refine wpList_load_nodeG rfl _ rfl _ _ rfl _ (by repeat (first | apply NodeAt.row | (apply Blk.new'; first | rfl | (simp; done)) | (apply Blk.node; apply Blk.new'; first | rfl | (simp; done)) | assumption | apply NodeAt.alloc)) ?_) | (go_at_call 79; refine (rdimen_any _ _).mono ?_; rintro e w' ⟨rfl, rfl⟩) | (go_at_call 80; (with_reducible refine (Ck.refFar _ _).mono ?_); rintro e w' ⟨rfl, rfl⟩) | (go_at_call 78; (with_reducible refine (Ck.rcheck_any _ _ _ _ _ _).mono ?_); rintro e w' ⟨rfl, rfl⟩))
  all_goals (go_ret; refine ⟨ret_bool ?_, by repeat (first | exact Below.refl _ _ | refine andAlloc ?_ _)⟩)
  all_goals first
    | rfl
    | (clear hbn hq hld hld2; simp_all [winB, glB]; done)
    | (clear hbn hq hld hld2; simp_all [winB, glB]; omega)

set_option maxHeartbeats 2000000 in
set_option maxRecDepth 100000 in
theorem good_14 (n : Nd) (w : World) (hk : n.kind = 14) : Calls Tryz.prog 29 #[.agg (nc n)] w fun e w' => e = .returned (.bool (goodR n)) ∧ Below w.heap.size w w' := by
  have e1 : (n.kind == 1) = false := by rw [hk]; decide
  have e2 : (n.kind == 2) = false := by rw [hk]; decide
  have e3 : (n.kind == 3) = false := by rw [hk]; decide
  have e4 : (n.kind == 4) = false := by rw [hk]; decide
  have e5 : (n.kind == 5) = false := by rw [hk]; decide
  have e7 : (n.kind == 7) = false := by rw [hk]; decide
  have e8 : (n.kind == 8) = false := by rw [hk]; decide
  have e9 : (n.kind == 9) = false := by rw [hk]; decide
  have e12 : (n.kind == 12) = false := by rw [hk]; decide
  have e14 : (n.kind == 14) = true := by rw [hk]; decide
  have hg : goodR n = (decide ((n.text.size : Int) ≤ 1000) && eqB n { nz n.kind with text := n.text }) := by unfold goodR; simp [hk]
  rw [hg]
  have HG := Lib.hid hk
  clear hg hk
  obtain ⟨Rn, hR⟩ : ∃ Rn : Nd, { nz n.kind with text := n.text } = Rn := ⟨_, rfl⟩
  rw [hR]
  have hbn : ∀ w, (bldN #[(0, .int .i64 n.kind), (14, .string n.text)]).run Tryz.prog w = .ok (.agg (nc Rn)) w := fun w => by rw [← hR, ← bldN_eq]; exact run_build w 36 _ _ (by kernel_rfl)
  have hq : ∀ w, (eqN (.agg (nc n)) (.agg (nc Rn))).run Tryz.prog w = .ok (.bool (eqB n Rn)) w := fun w => run_eqN n Rn w
  clear hR
  generalize eqB n Rn = E at *
  have hld : (ldN ⟨w.heap.size, 0, none⟩).run Tryz.prog (w.alloc (.cells (nc n) 36)) = .ok (.agg (nc n)) (w.alloc (.cells (nc n) 36)) := run_ldN (Blk.node (Blk.new' rfl))
  have hld2 : ∀ o : Obj, (ldN ⟨w.heap.size, 0, none⟩).run Tryz.prog ((w.alloc (.cells (nc n) 36)).alloc o) = .ok (.agg (nc n)) ((w.alloc (.cells (nc n) 36)).alloc o) := fun o => run_ldN (NodeAt.alloc (Blk.node (Blk.new' rfl)) o)
  go_enter Tryz.func29, Tryz.ntmps29
  go_wp2_with (first | (with_reducible show wpList _ _ _ _ _ _; refine wpList_load_node rfl _ rfl _ _ rfl _ (by repeat (first | apply NodeAt.row | (apply Blk.new'; first | rfl | (simp; done)) | (apply Blk.node; apply Blk.new'; first | rfl | (simp; done)) | assumption | apply NodeAt.alloc)) ?_) | (with_reducible show wpList _ _ _ _ _ _; refine wpList_load_nodeG rfl _ rfl _ _ rfl _ (by repeat (first | apply NodeAt.row | (apply Blk.new'; first | rfl | (simp; done)) | (apply Blk.node; apply Blk.new'; first | rfl | (simp; done)) | assumption | apply NodeAt.alloc)) ?_) | (go_at_call 79; refine (rdimen_any _ _).mono ?_; rintro e w' ⟨rfl, rfl⟩) | (go_at_call 80; (with_reducible refine (Ck.refFar _ _).mono ?_); rintro e w' ⟨rfl, rfl⟩) | (go_at_call 78; (with_reducible refine (Ck.rcheck_any _ _ _ _ _ _).mono ?_); rintro e w' ⟨rfl, rfl⟩))
  all_goals (go_ret; refine ⟨ret_bool ?_, by repeat (first | exact Below.refl _ _ | refine andAlloc ?_ _)⟩)
  all_goals first
    | rfl
    | (clear hbn hq hld hld2; simp_all [winB, glB]; done)
    | (clear hbn hq hld hld2; simp_all [winB, glB]; omega)

set_option maxHeartbeats 2000000 in
set_option maxRecDepth 100000 in
theorem good_13 (n : Nd) (w : World) (hk : n.kind = 13) : Calls Tryz.prog 29 #[.agg (nc n)] w fun e w' => e = .returned (.bool (goodR n)) ∧ Below w.heap.size w w' := by
  have e1 : (n.kind == 1) = false := by rw [hk]; decide
  have e2 : (n.kind == 2) = false := by rw [hk]; decide
  have e3 : (n.kind == 3) = false := by rw [hk]; decide
  have e4 : (n.kind == 4) = false := by rw [hk]; decide
  have e5 : (n.kind == 5) = false := by rw [hk]; decide
  have e7 : (n.kind == 7) = false := by rw [hk]; decide
  have e8 : (n.kind == 8) = false := by rw [hk]; decide
  have e9 : (n.kind == 9) = false := by rw [hk]; decide
  have e12 : (n.kind == 12) = false := by rw [hk]; decide
  have e14 : (n.kind == 14) = false := by rw [hk]; decide
  have e13 : (n.kind == 13) = true := by rw [hk]; decide
  have hg : goodR n = (dimB n.ht && (dimB n.dp && (winB n.sub 0 254 && (winB n.pen (-2147483647) 2147483647 && (glB n && eqB n { nz n.kind with sub := n.sub, ht := n.ht, dp := n.dp, pen := n.pen, gn := n.gn, gs := n.gs, gh := n.gh, ga := n.ga, gb := n.gb }))))) := by unfold goodR; simp [hk]
  rw [hg]
  have HG := Lib.hid hk
  clear hg hk
  obtain ⟨Rn, hR⟩ : ∃ Rn : Nd, { nz n.kind with sub := n.sub, ht := n.ht, dp := n.dp, pen := n.pen, gn := n.gn, gs := n.gs, gh := n.gh, ga := n.ga, gb := n.gb } = Rn := ⟨_, rfl⟩
  rw [hR]
  have hbn : ∀ w, (bldN #[(0, .int .i64 n.kind), (13, .int .i64 n.sub), (4, .int .i64 n.ht), (5, .int .i64 n.dp), (12, .int .i64 n.pen), (7, .agg #[.int .i64 n.gn, .int .i64 n.gs, .int .i64 n.gh, .int .i64 n.ga, .int .i64 n.gb])]).run Tryz.prog w = .ok (.agg (nc Rn)) w := fun w => by rw [← hR, ← bldN_eq]; exact run_build w 36 _ _ (by kernel_rfl)
  have hq : ∀ w, (eqN (.agg (nc n)) (.agg (nc Rn))).run Tryz.prog w = .ok (.bool (eqB n Rn)) w := fun w => run_eqN n Rn w
  clear hR
  generalize eqB n Rn = E at *
  have hld : (ldN ⟨w.heap.size, 0, none⟩).run Tryz.prog (w.alloc (.cells (nc n) 36)) = .ok (.agg (nc n)) (w.alloc (.cells (nc n) 36)) := run_ldN (Blk.node (Blk.new' rfl))
  have hld2 : ∀ o : Obj, (ldN ⟨w.heap.size, 0, none⟩).run Tryz.prog ((w.alloc (.cells (nc n) 36)).alloc o) = .ok (.agg (nc n)) ((w.alloc (.cells (nc n) 36)).alloc o) := fun o => run_ldN (NodeAt.alloc (Blk.node (Blk.new' rfl)) o)
  go_enter Tryz.func29, Tryz.ntmps29
  go_wp2_with (first | (with_reducible show wpList _ _ _ _ _ _; refine wpList_load_node rfl _ rfl _ _ rfl _ (by repeat (first | apply NodeAt.row | (apply Blk.new'; first | rfl | (simp; done)) | (apply Blk.node; apply Blk.new'; first | rfl | (simp; done)) | assumption | apply NodeAt.alloc)) ?_) | (with_reducible show wpList _ _ _ _ _ _; refine wpList_load_nodeG rfl _ rfl _ _ rfl _ (by repeat (first | apply NodeAt.row | (apply Blk.new'; first | rfl | (simp; done)) | (apply Blk.node; apply Blk.new'; first | rfl | (simp; done)) | assumption | apply NodeAt.alloc)) ?_) | (go_at_call 79; refine (rdimen_any _ _).mono ?_; rintro e w' ⟨rfl, rfl⟩) | (go_at_call 80; (with_reducible refine (Ck.refFar _ _).mono ?_); rintro e w' ⟨rfl, rfl⟩) | (go_at_call 78; (with_reducible refine (Ck.rcheck_any _ _ _ _ _ _).mono ?_); rintro e w' ⟨rfl, rfl⟩))
  all_goals (go_ret; refine ⟨ret_bool ?_, by repeat (first | exact Below.refl _ _ | refine andAlloc ?_ _)⟩)
  all_goals first
    | rfl
    | (clear hbn hq hld hld2; simp_all [winB, glB]; done)
    | (clear hbn hq hld hld2; simp_all [winB, glB]; omega)

set_option maxHeartbeats 2000000 in
set_option maxRecDepth 100000 in
theorem good_15 (n : Nd) (w : World) (hk : n.kind = 15) : Calls Tryz.prog 29 #[.agg (nc n)] w fun e w' => e = .returned (.bool (goodR n)) ∧ Below w.heap.size w w' := by
  have e1 : (n.kind == 1) = false := by rw [hk]; decide
  have e2 : (n.kind == 2) = false := by rw [hk]; decide
  have e3 : (n.kind == 3) = false := by rw [hk]; decide
  have e4 : (n.kind == 4) = false := by rw [hk]; decide
  have e5 : (n.kind == 5) = false := by rw [hk]; decide
  have e7 : (n.kind == 7) = false := by rw [hk]; decide
  have e8 : (n.kind == 8) = false := by rw [hk]; decide
  have e9 : (n.kind == 9) = false := by rw [hk]; decide
  have e12 : (n.kind == 12) = false := by rw [hk]; decide
  have e14 : (n.kind == 14) = false := by rw [hk]; decide
  have e13 : (n.kind == 13) = false := by rw [hk]; decide
  have e15 : (n.kind == 15) = true := by rw [hk]; decide
  have hg : goodR n = (dimB n.wd && eqB n { nz n.kind with wd := n.wd }) := by unfold goodR; simp [hk]
  rw [hg]
  have HG := Lib.hid hk
  clear hg hk
  obtain ⟨Rn, hR⟩ : ∃ Rn : Nd, { nz n.kind with wd := n.wd } = Rn := ⟨_, rfl⟩
  rw [hR]
  have hbn : ∀ w, (bldN #[(0, .int .i64 n.kind), (3, .int .i64 n.wd)]).run Tryz.prog w = .ok (.agg (nc Rn)) w := fun w => by rw [← hR, ← bldN_eq]; exact run_build w 36 _ _ (by kernel_rfl)
  have hq : ∀ w, (eqN (.agg (nc n)) (.agg (nc Rn))).run Tryz.prog w = .ok (.bool (eqB n Rn)) w := fun w => run_eqN n Rn w
  clear hR
  generalize eqB n Rn = E at *
  have hld : (ldN ⟨w.heap.size, 0, none⟩).run Tryz.prog (w.alloc (.cells (nc n) 36)) = .ok (.agg (nc n)) (w.alloc (.cells (nc n) 36)) := run_ldN (Blk.node (Blk.new' rfl))
  have hld2 : ∀ o : Obj, (ldN ⟨w.heap.size, 0, none⟩).run Tryz.prog ((w.alloc (.cells (nc n) 36)).alloc o) = .ok (.agg (nc n)) ((w.alloc (.cells (nc n) 36)).alloc o) := fun o => run_ldN (NodeAt.alloc (Blk.node (Blk.new' rfl)) o)
  go_enter Tryz.func29, Tryz.ntmps29
  go_wp2_with (first | (with_reducible show wpList _ _ _ _ _ _; refine wpList_load_node rfl _ rfl _ _ rfl _ (by repeat (first | apply NodeAt.row | (apply Blk.new'; first | rfl | (simp; done)) | (apply Blk.node; apply Blk.new'; first | rfl | (simp; done)) | assumption | apply NodeAt.alloc)) ?_) | (with_reducible show wpList _ _ _ _ _ _; refine wpList_load_nodeG rfl _ rfl _ _ rfl _ (by repeat (first | apply NodeAt.row | (apply Blk.new'; first | rfl | (simp; done)) | (apply Blk.node; apply Blk.new'; first | rfl | (simp; done)) | assumption | apply NodeAt.alloc)) ?_) | (go_at_call 79; refine (rdimen_any _ _).mono ?_; rintro e w' ⟨rfl, rfl⟩) | (go_at_call 80; (with_reducible refine (Ck.refFar _ _).mono ?_); rintro e w' ⟨rfl, rfl⟩) | (go_at_call 78; (with_reducible refine (Ck.rcheck_any _ _ _ _ _ _).mono ?_); rintro e w' ⟨rfl, rfl⟩))
  all_goals (go_ret; refine ⟨ret_bool ?_, by repeat (first | exact Below.refl _ _ | refine andAlloc ?_ _)⟩)
  all_goals first
    | rfl
    | (clear hbn hq hld hld2; simp_all [winB, glB]; done)
    | (clear hbn hq hld hld2; simp_all [winB, glB]; omega)

set_option maxHeartbeats 2000000 in
set_option maxRecDepth 100000 in
theorem good_16 (n : Nd) (w : World) (hk : n.kind = 16) : Calls Tryz.prog 29 #[.agg (nc n)] w fun e w' => e = .returned (.bool (goodR n)) ∧ Below w.heap.size w w' := by
  have e1 : (n.kind == 1) = false := by rw [hk]; decide
  have e2 : (n.kind == 2) = false := by rw [hk]; decide
  have e3 : (n.kind == 3) = false := by rw [hk]; decide
  have e4 : (n.kind == 4) = false := by rw [hk]; decide
  have e5 : (n.kind == 5) = false := by rw [hk]; decide
  have e7 : (n.kind == 7) = false := by rw [hk]; decide
  have e8 : (n.kind == 8) = false := by rw [hk]; decide
  have e9 : (n.kind == 9) = false := by rw [hk]; decide
  have e12 : (n.kind == 12) = false := by rw [hk]; decide
  have e14 : (n.kind == 14) = false := by rw [hk]; decide
  have e13 : (n.kind == 13) = false := by rw [hk]; decide
  have e15 : (n.kind == 15) = false := by rw [hk]; decide
  have e16 : (n.kind == 16) = true := by rw [hk]; decide
  have hg : goodR n = (dimB n.wd && eqB n { nz n.kind with wd := n.wd }) := by unfold goodR; simp [hk]
  rw [hg]
  have HG := Lib.hid hk
  clear hg hk
  obtain ⟨Rn, hR⟩ : ∃ Rn : Nd, { nz n.kind with wd := n.wd } = Rn := ⟨_, rfl⟩
  rw [hR]
  have hbn : ∀ w, (bldN #[(0, .int .i64 n.kind), (3, .int .i64 n.wd)]).run Tryz.prog w = .ok (.agg (nc Rn)) w := fun w => by rw [← hR, ← bldN_eq]; exact run_build w 36 _ _ (by kernel_rfl)
  have hq : ∀ w, (eqN (.agg (nc n)) (.agg (nc Rn))).run Tryz.prog w = .ok (.bool (eqB n Rn)) w := fun w => run_eqN n Rn w
  clear hR
  generalize eqB n Rn = E at *
  have hld : (ldN ⟨w.heap.size, 0, none⟩).run Tryz.prog (w.alloc (.cells (nc n) 36)) = .ok (.agg (nc n)) (w.alloc (.cells (nc n) 36)) := run_ldN (Blk.node (Blk.new' rfl))
  have hld2 : ∀ o : Obj, (ldN ⟨w.heap.size, 0, none⟩).run Tryz.prog ((w.alloc (.cells (nc n) 36)).alloc o) = .ok (.agg (nc n)) ((w.alloc (.cells (nc n) 36)).alloc o) := fun o => run_ldN (NodeAt.alloc (Blk.node (Blk.new' rfl)) o)
  go_enter Tryz.func29, Tryz.ntmps29
  go_wp2_with (first | (with_reducible show wpList _ _ _ _ _ _; refine wpList_load_node rfl _ rfl _ _ rfl _ (by repeat (first | apply NodeAt.row | (apply Blk.new'; first | rfl | (simp; done)) | (apply Blk.node; apply Blk.new'; first | rfl | (simp; done)) | assumption | apply NodeAt.alloc)) ?_) | (with_reducible show wpList _ _ _ _ _ _; refine wpList_load_nodeG rfl _ rfl _ _ rfl _ (by repeat (first | apply NodeAt.row | (apply Blk.new'; first | rfl | (simp; done)) | (apply Blk.node; apply Blk.new'; first | rfl | (simp; done)) | assumption | apply NodeAt.alloc)) ?_) | (go_at_call 79; refine (rdimen_any _ _).mono ?_; rintro e w' ⟨rfl, rfl⟩) | (go_at_call 80; (with_reducible refine (Ck.refFar _ _).mono ?_); rintro e w' ⟨rfl, rfl⟩) | (go_at_call 78; (with_reducible refine (Ck.rcheck_any _ _ _ _ _ _).mono ?_); rintro e w' ⟨rfl, rfl⟩))
  all_goals (go_ret; refine ⟨ret_bool ?_, by repeat (first | exact Below.refl _ _ | refine andAlloc ?_ _)⟩)
  all_goals first
    | rfl
    | (clear hbn hq hld hld2; simp_all [winB, glB]; done)
    | (clear hbn hq hld hld2; simp_all [winB, glB]; omega)

set_option maxHeartbeats 2000000 in
set_option maxRecDepth 100000 in
theorem good_6 (n : Nd) (w : World) (hk : n.kind = 6) : Calls Tryz.prog 29 #[.agg (nc n)] w fun e w' => e = .returned (.bool (goodR n)) ∧ Below w.heap.size w w' := by
  have e1 : (n.kind == 1) = false := by rw [hk]; decide
  have e2 : (n.kind == 2) = false := by rw [hk]; decide
  have e3 : (n.kind == 3) = false := by rw [hk]; decide
  have e4 : (n.kind == 4) = false := by rw [hk]; decide
  have e5 : (n.kind == 5) = false := by rw [hk]; decide
  have e7 : (n.kind == 7) = false := by rw [hk]; decide
  have e8 : (n.kind == 8) = false := by rw [hk]; decide
  have e9 : (n.kind == 9) = false := by rw [hk]; decide
  have e12 : (n.kind == 12) = false := by rw [hk]; decide
  have e14 : (n.kind == 14) = false := by rw [hk]; decide
  have e13 : (n.kind == 13) = false := by rw [hk]; decide
  have e15 : (n.kind == 15) = false := by rw [hk]; decide
  have e16 : (n.kind == 16) = false := by rw [hk]; decide
  have e6 : (n.kind == 6) = true := by rw [hk]; decide
  have hg : goodR n = (eqB n (nz n.kind)) := by unfold goodR; simp [hk]
  rw [hg]
  have HG := Lib.hid hk
  clear hg hk
  obtain ⟨Rn, hR⟩ : ∃ Rn : Nd, (nz n.kind) = Rn := ⟨_, rfl⟩
  rw [hR]
  have hbn : ∀ w, (bldN #[(0, .int .i64 n.kind)]).run Tryz.prog w = .ok (.agg (nc Rn)) w := fun w => by rw [← hR, ← bldN_eq]; exact run_build w 36 _ _ (by kernel_rfl)
  have hq : ∀ w, (eqN (.agg (nc n)) (.agg (nc Rn))).run Tryz.prog w = .ok (.bool (eqB n Rn)) w := fun w => run_eqN n Rn w
  clear hR
  generalize eqB n Rn = E at *
  have hld : (ldN ⟨w.heap.size, 0, none⟩).run Tryz.prog (w.alloc (.cells (nc n) 36)) = .ok (.agg (nc n)) (w.alloc (.cells (nc n) 36)) := run_ldN (Blk.node (Blk.new' rfl))
  have hld2 : ∀ o : Obj, (ldN ⟨w.heap.size, 0, none⟩).run Tryz.prog ((w.alloc (.cells (nc n) 36)).alloc o) = .ok (.agg (nc n)) ((w.alloc (.cells (nc n) 36)).alloc o) := fun o => run_ldN (NodeAt.alloc (Blk.node (Blk.new' rfl)) o)
  go_enter Tryz.func29, Tryz.ntmps29
  go_wp2_with (first | (with_reducible show wpList _ _ _ _ _ _; refine wpList_load_node rfl _ rfl _ _ rfl _ (by repeat (first | apply NodeAt.row | (apply Blk.new'; first | rfl | (simp; done)) | (apply Blk.node; apply Blk.new'; first | rfl | (simp; done)) | assumption | apply NodeAt.alloc)) ?_) | (with_reducible show wpList _ _ _ _ _ _; refine wpList_load_nodeG rfl _ rfl _ _ rfl _ (by repeat (first | apply NodeAt.row | (apply Blk.new'; first | rfl | (simp; done)) | (apply Blk.node; apply Blk.new'; first | rfl | (simp; done)) | assumption | apply NodeAt.alloc)) ?_) | (go_at_call 79; refine (rdimen_any _ _).mono ?_; rintro e w' ⟨rfl, rfl⟩) | (go_at_call 80; (with_reducible refine (Ck.refFar _ _).mono ?_); rintro e w' ⟨rfl, rfl⟩) | (go_at_call 78; (with_reducible refine (Ck.rcheck_any _ _ _ _ _ _).mono ?_); rintro e w' ⟨rfl, rfl⟩))
  all_goals (go_ret; refine ⟨ret_bool ?_, by repeat (first | exact Below.refl _ _ | refine andAlloc ?_ _)⟩)
  all_goals first
    | rfl
    | (clear hbn hq hld hld2; simp_all [winB, glB]; done)
    | (clear hbn hq hld hld2; simp_all [winB, glB]; omega)

set_option maxHeartbeats 2000000 in
set_option maxRecDepth 100000 in
theorem good_10 (n : Nd) (w : World) (hk : n.kind = 10) : Calls Tryz.prog 29 #[.agg (nc n)] w fun e w' => e = .returned (.bool (goodR n)) ∧ Below w.heap.size w w' := by
  have e1 : (n.kind == 1) = false := by rw [hk]; decide
  have e2 : (n.kind == 2) = false := by rw [hk]; decide
  have e3 : (n.kind == 3) = false := by rw [hk]; decide
  have e4 : (n.kind == 4) = false := by rw [hk]; decide
  have e5 : (n.kind == 5) = false := by rw [hk]; decide
  have e7 : (n.kind == 7) = false := by rw [hk]; decide
  have e8 : (n.kind == 8) = false := by rw [hk]; decide
  have e9 : (n.kind == 9) = false := by rw [hk]; decide
  have e12 : (n.kind == 12) = false := by rw [hk]; decide
  have e14 : (n.kind == 14) = false := by rw [hk]; decide
  have e13 : (n.kind == 13) = false := by rw [hk]; decide
  have e15 : (n.kind == 15) = false := by rw [hk]; decide
  have e16 : (n.kind == 16) = false := by rw [hk]; decide
  have e6 : (n.kind == 6) = false := by rw [hk]; decide
  have e10 : (n.kind == 10) = true := by rw [hk]; decide
  have hg : goodR n = (eqB n (nz n.kind)) := by unfold goodR; simp [hk]
  rw [hg]
  have HG := Lib.hid hk
  clear hg hk
  obtain ⟨Rn, hR⟩ : ∃ Rn : Nd, (nz n.kind) = Rn := ⟨_, rfl⟩
  rw [hR]
  have hbn : ∀ w, (bldN #[(0, .int .i64 n.kind)]).run Tryz.prog w = .ok (.agg (nc Rn)) w := fun w => by rw [← hR, ← bldN_eq]; exact run_build w 36 _ _ (by kernel_rfl)
  have hq : ∀ w, (eqN (.agg (nc n)) (.agg (nc Rn))).run Tryz.prog w = .ok (.bool (eqB n Rn)) w := fun w => run_eqN n Rn w
  clear hR
  generalize eqB n Rn = E at *
  have hld : (ldN ⟨w.heap.size, 0, none⟩).run Tryz.prog (w.alloc (.cells (nc n) 36)) = .ok (.agg (nc n)) (w.alloc (.cells (nc n) 36)) := run_ldN (Blk.node (Blk.new' rfl))
  have hld2 : ∀ o : Obj, (ldN ⟨w.heap.size, 0, none⟩).run Tryz.prog ((w.alloc (.cells (nc n) 36)).alloc o) = .ok (.agg (nc n)) ((w.alloc (.cells (nc n) 36)).alloc o) := fun o => run_ldN (NodeAt.alloc (Blk.node (Blk.new' rfl)) o)
  go_enter Tryz.func29, Tryz.ntmps29
  go_wp2_with (first | (with_reducible show wpList _ _ _ _ _ _; refine wpList_load_node rfl _ rfl _ _ rfl _ (by repeat (first | apply NodeAt.row | (apply Blk.new'; first | rfl | (simp; done)) | (apply Blk.node; apply Blk.new'; first | rfl | (simp; done)) | assumption | apply NodeAt.alloc)) ?_) | (with_reducible show wpList _ _ _ _ _ _; refine wpList_load_nodeG rfl _ rfl _ _ rfl _ (by repeat (first | apply NodeAt.row | (apply Blk.new'; first | rfl | (simp; done)) | (apply Blk.node; apply Blk.new'; first | rfl | (simp; done)) | assumption | apply NodeAt.alloc)) ?_) | (go_at_call 79; refine (rdimen_any _ _).mono ?_; rintro e w' ⟨rfl, rfl⟩) | (go_at_call 80; (with_reducible refine (Ck.refFar _ _).mono ?_); rintro e w' ⟨rfl, rfl⟩) | (go_at_call 78; (with_reducible refine (Ck.rcheck_any _ _ _ _ _ _).mono ?_); rintro e w' ⟨rfl, rfl⟩))
  all_goals (go_ret; refine ⟨ret_bool ?_, by repeat (first | exact Below.refl _ _ | refine andAlloc ?_ _)⟩)
  all_goals first
    | rfl
    | (clear hbn hq hld hld2; simp_all [winB, glB]; done)
    | (clear hbn hq hld hld2; simp_all [winB, glB]; omega)

set_option maxHeartbeats 2000000 in
set_option maxRecDepth 100000 in
theorem good_11 (n : Nd) (w : World) (hk : n.kind = 11) : Calls Tryz.prog 29 #[.agg (nc n)] w fun e w' => e = .returned (.bool (goodR n)) ∧ Below w.heap.size w w' := by
  have e1 : (n.kind == 1) = false := by rw [hk]; decide
  have e2 : (n.kind == 2) = false := by rw [hk]; decide
  have e3 : (n.kind == 3) = false := by rw [hk]; decide
  have e4 : (n.kind == 4) = false := by rw [hk]; decide
  have e5 : (n.kind == 5) = false := by rw [hk]; decide
  have e7 : (n.kind == 7) = false := by rw [hk]; decide
  have e8 : (n.kind == 8) = false := by rw [hk]; decide
  have e9 : (n.kind == 9) = false := by rw [hk]; decide
  have e12 : (n.kind == 12) = false := by rw [hk]; decide
  have e14 : (n.kind == 14) = false := by rw [hk]; decide
  have e13 : (n.kind == 13) = false := by rw [hk]; decide
  have e15 : (n.kind == 15) = false := by rw [hk]; decide
  have e16 : (n.kind == 16) = false := by rw [hk]; decide
  have e6 : (n.kind == 6) = false := by rw [hk]; decide
  have e10 : (n.kind == 10) = false := by rw [hk]; decide
  have e11 : (n.kind == 11) = true := by rw [hk]; decide
  have hg : goodR n = (eqB n (nz n.kind)) := by unfold goodR; simp [hk]
  rw [hg]
  have HG := Lib.hid hk
  clear hg hk
  obtain ⟨Rn, hR⟩ : ∃ Rn : Nd, (nz n.kind) = Rn := ⟨_, rfl⟩
  rw [hR]
  have hbn : ∀ w, (bldN #[(0, .int .i64 n.kind)]).run Tryz.prog w = .ok (.agg (nc Rn)) w := fun w => by rw [← hR, ← bldN_eq]; exact run_build w 36 _ _ (by kernel_rfl)
  have hq : ∀ w, (eqN (.agg (nc n)) (.agg (nc Rn))).run Tryz.prog w = .ok (.bool (eqB n Rn)) w := fun w => run_eqN n Rn w
  clear hR
  generalize eqB n Rn = E at *
  have hld : (ldN ⟨w.heap.size, 0, none⟩).run Tryz.prog (w.alloc (.cells (nc n) 36)) = .ok (.agg (nc n)) (w.alloc (.cells (nc n) 36)) := run_ldN (Blk.node (Blk.new' rfl))
  have hld2 : ∀ o : Obj, (ldN ⟨w.heap.size, 0, none⟩).run Tryz.prog ((w.alloc (.cells (nc n) 36)).alloc o) = .ok (.agg (nc n)) ((w.alloc (.cells (nc n) 36)).alloc o) := fun o => run_ldN (NodeAt.alloc (Blk.node (Blk.new' rfl)) o)
  go_enter Tryz.func29, Tryz.ntmps29
  go_wp2_with (first | (with_reducible show wpList _ _ _ _ _ _; refine wpList_load_node rfl _ rfl _ _ rfl _ (by repeat (first | apply NodeAt.row | (apply Blk.new'; first | rfl | (simp; done)) | (apply Blk.node; apply Blk.new'; first | rfl | (simp; done)) | assumption | apply NodeAt.alloc)) ?_) | (with_reducible show wpList _ _ _ _ _ _; refine wpList_load_nodeG rfl _ rfl _ _ rfl _ (by repeat (first | apply NodeAt.row | (apply Blk.new'; first | rfl | (simp; done)) | (apply Blk.node; apply Blk.new'; first | rfl | (simp; done)) | assumption | apply NodeAt.alloc)) ?_) | (go_at_call 79; refine (rdimen_any _ _).mono ?_; rintro e w' ⟨rfl, rfl⟩) | (go_at_call 80; (with_reducible refine (Ck.refFar _ _).mono ?_); rintro e w' ⟨rfl, rfl⟩) | (go_at_call 78; (with_reducible refine (Ck.rcheck_any _ _ _ _ _ _).mono ?_); rintro e w' ⟨rfl, rfl⟩))
  all_goals (go_ret; refine ⟨ret_bool ?_, by repeat (first | exact Below.refl _ _ | refine andAlloc ?_ _)⟩)
  all_goals first
    | rfl
    | (clear hbn hq hld hld2; simp_all [winB, glB]; done)
    | (clear hbn hq hld hld2; simp_all [winB, glB]; omega)

set_option maxHeartbeats 2000000 in
set_option maxRecDepth 100000 in
theorem good_17 (n : Nd) (w : World) (hk : n.kind = 17) : Calls Tryz.prog 29 #[.agg (nc n)] w fun e w' => e = .returned (.bool (goodR n)) ∧ Below w.heap.size w w' := by
  have e1 : (n.kind == 1) = false := by rw [hk]; decide
  have e2 : (n.kind == 2) = false := by rw [hk]; decide
  have e3 : (n.kind == 3) = false := by rw [hk]; decide
  have e4 : (n.kind == 4) = false := by rw [hk]; decide
  have e5 : (n.kind == 5) = false := by rw [hk]; decide
  have e7 : (n.kind == 7) = false := by rw [hk]; decide
  have e8 : (n.kind == 8) = false := by rw [hk]; decide
  have e9 : (n.kind == 9) = false := by rw [hk]; decide
  have e12 : (n.kind == 12) = false := by rw [hk]; decide
  have e14 : (n.kind == 14) = false := by rw [hk]; decide
  have e13 : (n.kind == 13) = false := by rw [hk]; decide
  have e15 : (n.kind == 15) = false := by rw [hk]; decide
  have e16 : (n.kind == 16) = false := by rw [hk]; decide
  have e6 : (n.kind == 6) = false := by rw [hk]; decide
  have e10 : (n.kind == 10) = false := by rw [hk]; decide
  have e11 : (n.kind == 11) = false := by rw [hk]; decide
  have e17 : (n.kind == 17) = true := by rw [hk]; decide
  have hg : goodR n = (eqB n (nz n.kind)) := by unfold goodR; simp [hk]
  rw [hg]
  have HG := Lib.hid hk
  clear hg hk
  obtain ⟨Rn, hR⟩ : ∃ Rn : Nd, (nz n.kind) = Rn := ⟨_, rfl⟩
  rw [hR]
  have hbn : ∀ w, (bldN #[(0, .int .i64 n.kind)]).run Tryz.prog w = .ok (.agg (nc Rn)) w := fun w => by rw [← hR, ← bldN_eq]; exact run_build w 36 _ _ (by kernel_rfl)
  have hq : ∀ w, (eqN (.agg (nc n)) (.agg (nc Rn))).run Tryz.prog w = .ok (.bool (eqB n Rn)) w := fun w => run_eqN n Rn w
  clear hR
  generalize eqB n Rn = E at *
  have hld : (ldN ⟨w.heap.size, 0, none⟩).run Tryz.prog (w.alloc (.cells (nc n) 36)) = .ok (.agg (nc n)) (w.alloc (.cells (nc n) 36)) := run_ldN (Blk.node (Blk.new' rfl))
  have hld2 : ∀ o : Obj, (ldN ⟨w.heap.size, 0, none⟩).run Tryz.prog ((w.alloc (.cells (nc n) 36)).alloc o) = .ok (.agg (nc n)) ((w.alloc (.cells (nc n) 36)).alloc o) := fun o => run_ldN (NodeAt.alloc (Blk.node (Blk.new' rfl)) o)
  go_enter Tryz.func29, Tryz.ntmps29
  go_wp2_with (first | (with_reducible show wpList _ _ _ _ _ _; refine wpList_load_node rfl _ rfl _ _ rfl _ (by repeat (first | apply NodeAt.row | (apply Blk.new'; first | rfl | (simp; done)) | (apply Blk.node; apply Blk.new'; first | rfl | (simp; done)) | assumption | apply NodeAt.alloc)) ?_) | (with_reducible show wpList _ _ _ _ _ _; refine wpList_load_nodeG rfl _ rfl _ _ rfl _ (by repeat (first | apply NodeAt.row | (apply Blk.new'; first | rfl | (simp; done)) | (apply Blk.node; apply Blk.new'; first | rfl | (simp; done)) | assumption | apply NodeAt.alloc)) ?_) | (go_at_call 79; refine (rdimen_any _ _).mono ?_; rintro e w' ⟨rfl, rfl⟩) | (go_at_call 80; (with_reducible refine (Ck.refFar _ _).mono ?_); rintro e w' ⟨rfl, rfl⟩) | (go_at_call 78; (with_reducible refine (Ck.rcheck_any _ _ _ _ _ _).mono ?_); rintro e w' ⟨rfl, rfl⟩))
  all_goals (go_ret; refine ⟨ret_bool ?_, by repeat (first | exact Below.refl _ _ | refine andAlloc ?_ _)⟩)
  all_goals first
    | rfl
    | (clear hbn hq hld hld2; simp_all [winB, glB]; done)
    | (clear hbn hq hld hld2; simp_all [winB, glB]; omega)

set_option maxHeartbeats 2000000 in
set_option maxRecDepth 100000 in
/-- Good: is it a node? -/
theorem good_any (n : Nd) (w : World) : Calls Tryz.prog 29 #[.agg (nc n)] w fun e w' => e = .returned (.bool (right n)) ∧ Below w.heap.size w w' := by
  rw [← goodR_right]
  by_cases hw : winB n.kind 1 17 = true
  · rcases kind_win.1 hw with h | h | h | h | h | h | h | h | h | h | h | h | h | h | h | h | h
    · exact good_1 n w h
    · exact good_2 n w h
    · exact good_3 n w h
    · exact good_4 n w h
    · exact good_5 n w h
    · exact good_6 n w h
    · exact good_7 n w h
    · exact good_8 n w h
    · exact good_9 n w h
    · exact good_10 n w h
    · exact good_11 n w h
    · exact good_12 n w h
    · exact good_13 n w h
    · exact good_14 n w h
    · exact good_15 n w h
    · exact good_16 n w h
    · exact good_17 n w h
  · have hg : goodR n = false := by rw [goodR_right]; simp [right, hw]
    rw [hg]
    have hk : n.kind < 1 ∨ 17 < n.kind := by simp [winB] at hw; omega
    clear hg hw
    have e1 : (n.kind == 1) = false := by simp; omega
    have e2 : (n.kind == 2) = false := by simp; omega
    have e3 : (n.kind == 3) = false := by simp; omega
    have e4 : (n.kind == 4) = false := by simp; omega
    have e5 : (n.kind == 5) = false := by simp; omega
    have e7 : (n.kind == 7) = false := by simp; omega
    have e8 : (n.kind == 8) = false := by simp; omega
    have e9 : (n.kind == 9) = false := by simp; omega
    have e12 : (n.kind == 12) = false := by simp; omega
    have e14 : (n.kind == 14) = false := by simp; omega
    have e13 : (n.kind == 13) = false := by simp; omega
    have e15 : (n.kind == 15) = false := by simp; omega
    have e16 : (n.kind == 16) = false := by simp; omega
    have e6 : (n.kind == 6) = false := by simp; omega
    have e10 : (n.kind == 10) = false := by simp; omega
    have e11 : (n.kind == 11) = false := by simp; omega
    have e17 : (n.kind == 17) = false := by simp; omega
    clear hk
    go_enter Tryz.func29, Tryz.ntmps29
    go_wp2_with (first | (with_reducible show wpList _ _ _ _ _ _; refine wpList_load_node rfl _ rfl _ _ rfl _ (by repeat (first | apply NodeAt.row | (apply Blk.new'; first | rfl | (simp; done)) | (apply Blk.node; apply Blk.new'; first | rfl | (simp; done)) | assumption | apply NodeAt.alloc)) ?_) | fail)
    go_ret
    exact ⟨rfl, by repeat (first | exact Below.refl _ _ | refine andAlloc ?_ _)⟩
end Go.Proofs.YtmcekdjhkjhcdaaGreatDoor.No

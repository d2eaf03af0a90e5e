import Derived.Test.YtmcekdjhkjhcdaaGreatDoorNodeL
/- A node without the fields that its kind names (printed by gen_nodes2.py). Conditions: those that each theorem names. -/
namespace Go.Proofs.YtmcekdjhkjhcdaaGreatDoor.No
open Go.ChangeShapes Go.WideShapes Go.ChangeAt Go.RowKit
open Me Np
set_option linter.unusedVariables false

theorem rchar_n (n : Nd) (w : World) : Calls Tryz.prog 38 #[.agg (nc n)] w fun e w' => e = .returned (.agg (nc (rChar n))) ∧ Below w.heap.size w w' := by
  go_enter Tryz.func38, Tryz.ntmps38
  go_wp2_with (first | (refine wpList_alloc_node rfl rfl ?_) | (refine wpList_load_node rfl _ rfl _ _ rfl _ (by repeat (first | (apply Blk.node; apply Blk.new'; first | rfl | (simp; done)) | assumption | apply NodeAt.alloc)) ?_) | (refine wpList_store_node rfl _ _ rfl _ _ _ rfl rfl _ (by repeat (first | (apply Blk.new'; first | rfl | (simp; done)) | assumption | apply Blk.alloc)) ?_))
  exact bodyPost_ret (v := .agg (nc (rChar n))) (results_node rfl _ _ _ _ rfl (by repeat (first | apply NodeAt.row | (apply Blk.new'; first | rfl | (simp; done)) | (apply Blk.node; apply Blk.new'; first | rfl | (simp; done)) | assumption | apply NodeAt.alloc))) rfl ⟨rfl, (by repeat (first | (refine below_setRow ?_ _ _ ?_; rotate_left; focus (simp; done)) | exact Below.refl _ _ | exact hb9 | refine andThen ?_ hb9 | refine andAlloc ?_ _))⟩

theorem rbox_n (n : Nd) (w : World) : Calls Tryz.prog 40 #[.agg (nc n)] w fun e w' => e = .returned (.agg (nc (rBox n))) ∧ Below w.heap.size w w' := by
  go_enter Tryz.func40, Tryz.ntmps40
  go_wp2_with (first | (refine wpList_alloc_node rfl rfl ?_) | (refine wpList_load_node rfl _ rfl _ _ rfl _ (by repeat (first | (apply Blk.node; apply Blk.new'; first | rfl | (simp; done)) | assumption | apply NodeAt.alloc)) ?_) | (refine wpList_store_node rfl _ _ rfl _ _ _ rfl rfl _ (by repeat (first | (apply Blk.new'; first | rfl | (simp; done)) | assumption | apply Blk.alloc)) ?_))
  exact bodyPost_ret (v := .agg (nc (rBox n))) (results_node rfl _ _ _ _ rfl (by repeat (first | apply NodeAt.row | (apply Blk.new'; first | rfl | (simp; done)) | (apply Blk.node; apply Blk.new'; first | rfl | (simp; done)) | assumption | apply NodeAt.alloc))) rfl ⟨rfl, (by repeat (first | (refine below_setRow ?_ _ _ ?_; rotate_left; focus (simp; done)) | exact Below.refl _ _ | exact hb9 | refine andThen ?_ hb9 | refine andAlloc ?_ _))⟩

theorem rwide_n (n : Nd) (w : World) : Calls Tryz.prog 41 #[.agg (nc n)] w fun e w' => e = .returned (.agg (nc (rWide n))) ∧ Below w.heap.size w w' := by
  go_enter Tryz.func41, Tryz.ntmps41
  go_wp2_with (first | (refine wpList_alloc_node rfl rfl ?_) | (refine wpList_load_node rfl _ rfl _ _ rfl _ (by repeat (first | (apply Blk.node; apply Blk.new'; first | rfl | (simp; done)) | assumption | apply NodeAt.alloc)) ?_) | (refine wpList_store_node rfl _ _ rfl _ _ _ rfl rfl _ (by repeat (first | (apply Blk.new'; first | rfl | (simp; done)) | assumption | apply Blk.alloc)) ?_))
  exact bodyPost_ret (v := .agg (nc (rWide n))) (results_node rfl _ _ _ _ rfl (by repeat (first | apply NodeAt.row | (apply Blk.new'; first | rfl | (simp; done)) | (apply Blk.node; apply Blk.new'; first | rfl | (simp; done)) | assumption | apply NodeAt.alloc))) rfl ⟨rfl, (by repeat (first | (refine below_setRow ?_ _ _ ?_; rotate_left; focus (simp; done)) | exact Below.refl _ _ | exact hb9 | refine andThen ?_ hb9 | refine andAlloc ?_ _))⟩

theorem rtext_n (n : Nd) (w : World) : Calls Tryz.prog 42 #[.agg (nc n)] w fun e w' => e = .returned (.agg (nc (rText n))) ∧ Below w.heap.size w w' := by
  go_enter Tryz.func42, Tryz.ntmps42
  go_wp2_with (first | (refine wpList_alloc_node rfl rfl ?_) | (refine wpList_load_node rfl _ rfl _ _ rfl _ (by repeat (first | (apply Blk.node; apply Blk.new'; first | rfl | (simp; done)) | assumption | apply NodeAt.alloc)) ?_) | (refine wpList_store_node rfl _ _ rfl _ _ _ rfl rfl _ (by repeat (first | (apply Blk.new'; first | rfl | (simp; done)) | assumption | apply Blk.alloc)) ?_))
  exact bodyPost_ret (v := .agg (nc (rText n))) (results_node rfl _ _ _ _ rfl (by repeat (first | apply NodeAt.row | (apply Blk.new'; first | rfl | (simp; done)) | (apply Blk.node; apply Blk.new'; first | rfl | (simp; done)) | assumption | apply NodeAt.alloc))) rfl ⟨rfl, (by repeat (first | (refine below_setRow ?_ _ _ ?_; rotate_left; focus (simp; done)) | exact Below.refl _ _ | exact hb9 | refine andThen ?_ hb9 | refine andAlloc ?_ _))⟩

theorem rrule_n (n : Nd) (w : World) : Calls Tryz.prog 49 #[.agg (nc n)] w fun e w' => e = .returned (.agg (nc (restK 3 n))) ∧ Below w.heap.size w w' := by
  go_enter Tryz.func49, Tryz.ntmps49
  go_wp2_with (first | (refine wpList_alloc_node rfl rfl ?_) | (refine wpList_load_node rfl _ rfl _ _ rfl _ (by repeat (first | (apply Blk.node; apply Blk.new'; first | rfl | (simp; done)) | assumption | apply NodeAt.alloc)) ?_) | (refine wpList_store_node rfl _ _ rfl _ _ _ rfl rfl _ (by repeat (first | (apply Blk.new'; first | rfl | (simp; done)) | assumption | apply Blk.alloc)) ?_))
  exact bodyPost_ret (v := .agg (nc (restK 3 n))) (results_node rfl _ _ _ _ rfl (by repeat (first | apply NodeAt.row | (apply Blk.new'; first | rfl | (simp; done)) | (apply Blk.node; apply Blk.new'; first | rfl | (simp; done)) | assumption | apply NodeAt.alloc))) rfl ⟨rfl, (by repeat (first | (refine below_setRow ?_ _ _ ?_; rotate_left; focus (simp; done)) | exact Below.refl _ _ | exact hb9 | refine andThen ?_ hb9 | refine andAlloc ?_ _))⟩

theorem rall_n (n : Nd) (w : World) : Calls Tryz.prog 52 #[.agg (nc n)] w fun e w' => e = .returned (.agg (nc (n))) ∧ Below w.heap.size w w' := by
  go_enter Tryz.func52, Tryz.ntmps52
  go_wp2_with (first | (refine wpList_alloc_node rfl rfl ?_) | (refine wpList_load_node rfl _ rfl _ _ rfl _ (by repeat (first | (apply Blk.node; apply Blk.new'; first | rfl | (simp; done)) | assumption | apply NodeAt.alloc)) ?_) | (refine wpList_store_node rfl _ _ rfl _ _ _ rfl rfl _ (by repeat (first | (apply Blk.new'; first | rfl | (simp; done)) | assumption | apply Blk.alloc)) ?_))
  exact bodyPost_ret (v := .agg (nc (n))) (results_node rfl _ _ _ _ rfl (by repeat (first | apply NodeAt.row | (apply Blk.new'; first | rfl | (simp; done)) | (apply Blk.node; apply Blk.new'; first | rfl | (simp; done)) | assumption | apply NodeAt.alloc))) rfl ⟨rfl, (by repeat (first | (refine below_setRow ?_ _ _ ?_; rotate_left; focus (simp; done)) | exact Below.refl _ _ | exact hb9 | refine andThen ?_ hb9 | refine andAlloc ?_ _))⟩

theorem rskip_n (n : Nd) (w : World) : Calls Tryz.prog 55 #[.agg (nc n)] w fun e w' => e = .returned (.agg (nc (restK 7 n))) ∧ Below w.heap.size w w' := by
  go_enter Tryz.func55, Tryz.ntmps55
  go_wp2_with (first | (refine wpList_alloc_node rfl rfl ?_) | (refine wpList_load_node rfl _ rfl _ _ rfl _ (by repeat (first | (apply Blk.node; apply Blk.new'; first | rfl | (simp; done)) | assumption | apply NodeAt.alloc)) ?_) | (refine wpList_store_node rfl _ _ rfl _ _ _ rfl rfl _ (by repeat (first | (apply Blk.new'; first | rfl | (simp; done)) | assumption | apply Blk.alloc)) ?_))
  exact bodyPost_ret (v := .agg (nc (restK 7 n))) (results_node rfl _ _ _ _ rfl (by repeat (first | apply NodeAt.row | (apply Blk.new'; first | rfl | (simp; done)) | (apply Blk.node; apply Blk.new'; first | rfl | (simp; done)) | assumption | apply NodeAt.alloc))) rfl ⟨rfl, (by repeat (first | (refine below_setRow ?_ _ _ ?_; rotate_left; focus (simp; done)) | exact Below.refl _ _ | exact hb9 | refine andThen ?_ hb9 | refine andAlloc ?_ _))⟩

theorem rkern_n (n : Nd) (w : World) : Calls Tryz.prog 57 #[.agg (nc n)] w fun e w' => e = .returned (.agg (nc (restK 8 n))) ∧ Below w.heap.size w w' := by
  go_enter Tryz.func57, Tryz.ntmps57
  go_wp2_with (first | (refine wpList_alloc_node rfl rfl ?_) | (refine wpList_load_node rfl _ rfl _ _ rfl _ (by repeat (first | (apply Blk.node; apply Blk.new'; first | rfl | (simp; done)) | assumption | apply NodeAt.alloc)) ?_) | (refine wpList_store_node rfl _ _ rfl _ _ _ rfl rfl _ (by repeat (first | (apply Blk.new'; first | rfl | (simp; done)) | assumption | apply Blk.alloc)) ?_))
  exact bodyPost_ret (v := .agg (nc (restK 8 n))) (results_node rfl _ _ _ _ rfl (by repeat (first | apply NodeAt.row | (apply Blk.new'; first | rfl | (simp; done)) | (apply Blk.node; apply Blk.new'; first | rfl | (simp; done)) | assumption | apply NodeAt.alloc))) rfl ⟨rfl, (by repeat (first | (refine below_setRow ?_ _ _ ?_; rotate_left; focus (simp; done)) | exact Below.refl _ _ | exact hb9 | refine andThen ?_ hb9 | refine andAlloc ?_ _))⟩

theorem rpen_n (n : Nd) (w : World) : Calls Tryz.prog 59 #[.agg (nc n)] w fun e w' => e = .returned (.agg (nc (restK 9 n))) ∧ Below w.heap.size w w' := by
  go_enter Tryz.func59, Tryz.ntmps59
  go_wp2_with (first | (refine wpList_alloc_node rfl rfl ?_) | (refine wpList_load_node rfl _ rfl _ _ rfl _ (by repeat (first | (apply Blk.node; apply Blk.new'; first | rfl | (simp; done)) | assumption | apply NodeAt.alloc)) ?_) | (refine wpList_store_node rfl _ _ rfl _ _ _ rfl rfl _ (by repeat (first | (apply Blk.new'; first | rfl | (simp; done)) | assumption | apply Blk.alloc)) ?_))
  exact bodyPost_ret (v := .agg (nc (restK 9 n))) (results_node rfl _ _ _ _ rfl (by repeat (first | apply NodeAt.row | (apply Blk.new'; first | rfl | (simp; done)) | (apply Blk.node; apply Blk.new'; first | rfl | (simp; done)) | assumption | apply NodeAt.alloc))) rfl ⟨rfl, (by repeat (first | (refine below_setRow ?_ _ _ ?_; rotate_left; focus (simp; done)) | exact Below.refl _ _ | exact hb9 | refine andThen ?_ hb9 | refine andAlloc ?_ _))⟩

theorem rins_n (n : Nd) (w : World) : Calls Tryz.prog 61 #[.agg (nc n)] w fun e w' => e = .returned (.agg (nc (restK 13 n))) ∧ Below w.heap.size w w' := by
  go_enter Tryz.func61, Tryz.ntmps61
  go_wp2_with (first | (refine wpList_alloc_node rfl rfl ?_) | (refine wpList_load_node rfl _ rfl _ _ rfl _ (by repeat (first | (apply Blk.node; apply Blk.new'; first | rfl | (simp; done)) | assumption | apply NodeAt.alloc)) ?_) | (refine wpList_store_node rfl _ _ rfl _ _ _ rfl rfl _ (by repeat (first | (apply Blk.new'; first | rfl | (simp; done)) | assumption | apply Blk.alloc)) ?_))
  exact bodyPost_ret (v := .agg (nc (restK 13 n))) (results_node rfl _ _ _ _ rfl (by repeat (first | apply NodeAt.row | (apply Blk.new'; first | rfl | (simp; done)) | (apply Blk.node; apply Blk.new'; first | rfl | (simp; done)) | assumption | apply NodeAt.alloc))) rfl ⟨rfl, (by repeat (first | (refine below_setRow ?_ _ _ ?_; rotate_left; focus (simp; done)) | exact Below.refl _ _ | exact hb9 | refine andThen ?_ hb9 | refine andAlloc ?_ _))⟩

theorem rlig_n (n : Nd) (b : Nat) (w : World) (hc : w.cell? ⟨b, 0, none⟩ = some (.func (.func 38) #[] #[])) :
    Calls Tryz.prog 39 #[.agg (nc n), .pointer (some ⟨b, 0, none⟩)] w fun e w' => e = .returned (.agg (nc (restK 2 n))) ∧ Below w.heap.size w w' := by
  have hb := block_lt_of_cell hc
  simp only at hb
  go_enter Tryz.func39, Tryz.ntmps39
  go_wp2_with (first | (refine wpList_alloc_node rfl rfl ?_) | (refine wpList_load_node rfl _ rfl _ _ rfl _ (by repeat (first | (apply Blk.node; apply Blk.new'; first | rfl | (simp; done)) | assumption | apply NodeAt.alloc)) ?_) | (refine wpList_store_node rfl _ _ rfl _ _ _ rfl rfl _ (by repeat (first | (apply Blk.new'; first | rfl | (simp; done)) | assumption | apply Blk.alloc)) ?_))
  refine (rchar_n _ _).mono ?_
  rintro e w9 ⟨rfl, hb9⟩
  have hB : Blk w9 (w.heap.size + 1) 36 (nc (nz 0)) := Blk.below (Blk.new' (by simp)) hb9 (by simp)
  go_wp2_with (refine wpList_store_node rfl _ _ rfl _ _ _ rfl rfl _ (by repeat (first | (apply Blk.new'; first | rfl | (simp; done)) | assumption | apply Blk.alloc)) ?_)
  exact bodyPost_ret (v := .agg (nc (restK 2 n))) (results_node rfl _ _ _ _ rfl (by repeat (first | apply NodeAt.row | (apply Blk.new'; first | rfl | (simp; done)) | (apply Blk.node; apply Blk.new'; first | rfl | (simp; done)) | assumption | apply NodeAt.alloc))) rfl ⟨rfl, (by repeat (first | (refine below_setRow ?_ _ _ ?_; rotate_left; focus (simp; done)) | exact Below.refl _ _ | exact hb9 | refine andThen ?_ hb9 | refine andAlloc ?_ _))⟩
end Go.Proofs.YtmcekdjhkjhcdaaGreatDoor.No

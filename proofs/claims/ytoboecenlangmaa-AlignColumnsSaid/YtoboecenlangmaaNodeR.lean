import Derived.Test.YtoboecenlangmaaNodeL
/- A node without the fields that its kind names (printed by gen_nodes2.py). Conditions: those that each theorem names. -/
namespace Go.Proofs.Ytoboecenlangmaa.No
open Go.ChangeShapes Go.WideShapes Go.ChangeAt Go.RowKit
open Me Np
set_option linter.unusedVariables false

theorem rchar_n (n : Nd) (w : World) : Calls Try.prog 87 #[.agg (nc n)] w fun e w' => e = .returned (.agg (nc (rChar n))) ∧ Below w.heap.size w w' := by
  go_enter Try.func87, Try.ntmps87
  go_wp2_with (first | (refine wpList_alloc_node rfl rfl ?_) | (refine wpList_load_node rfl _ rfl _ _ rfl _ (by repeat (first | (apply Blk.node; apply Blk.new'; first | rfl | (simp; done)) | assumption | apply NodeAt.alloc)) ?_) | (refine wpList_store_node rfl _ _ rfl _ _ _ rfl rfl _ (by repeat (first | (apply Blk.new'; first | rfl | (simp; done)) | assumption | apply Blk.alloc)) ?_))
  exact bodyPost_ret (v := .agg (nc (rChar n))) (results_node rfl _ _ _ _ rfl (by repeat (first | apply NodeAt.row | (apply Blk.new'; first | rfl | (simp; done)) | (apply Blk.node; apply Blk.new'; first | rfl | (simp; done)) | assumption | apply NodeAt.alloc))) rfl ⟨rfl, (by repeat (first | (refine below_setRow ?_ _ _ ?_; rotate_left; focus (simp; done)) | exact Below.refl _ _ | exact hb9 | refine andThen ?_ hb9 | refine andAlloc ?_ _))⟩

theorem rbox_n (n : Nd) (w : World) : Calls Try.prog 89 #[.agg (nc n)] w fun e w' => e = .returned (.agg (nc (rBox n))) ∧ Below w.heap.size w w' := by
  go_enter Try.func89, Try.ntmps89
  go_wp2_with (first | (refine wpList_alloc_node rfl rfl ?_) | (refine wpList_load_node rfl _ rfl _ _ rfl _ (by repeat (first | (apply Blk.node; apply Blk.new'; first | rfl | (simp; done)) | assumption | apply NodeAt.alloc)) ?_) | (refine wpList_store_node rfl _ _ rfl _ _ _ rfl rfl _ (by repeat (first | (apply Blk.new'; first | rfl | (simp; done)) | assumption | apply Blk.alloc)) ?_))
  exact bodyPost_ret (v := .agg (nc (rBox n))) (results_node rfl _ _ _ _ rfl (by repeat (first | apply NodeAt.row | (apply Blk.new'; first | rfl | (simp; done)) | (apply Blk.node; apply Blk.new'; first | rfl | (simp; done)) | assumption | apply NodeAt.alloc))) rfl ⟨rfl, (by repeat (first | (refine below_setRow ?_ _ _ ?_; rotate_left; focus (simp; done)) | exact Below.refl _ _ | exact hb9 | refine andThen ?_ hb9 | refine andAlloc ?_ _))⟩

theorem rwide_n (n : Nd) (w : World) : Calls Try.prog 90 #[.agg (nc n)] w fun e w' => e = .returned (.agg (nc (rWide n))) ∧ Below w.heap.size w w' := by
  go_enter Try.func90, Try.ntmps90
  go_wp2_with (first | (refine wpList_alloc_node rfl rfl ?_) | (refine wpList_load_node rfl _ rfl _ _ rfl _ (by repeat (first | (apply Blk.node; apply Blk.new'; first | rfl | (simp; done)) | assumption | apply NodeAt.alloc)) ?_) | (refine wpList_store_node rfl _ _ rfl _ _ _ rfl rfl _ (by repeat (first | (apply Blk.new'; first | rfl | (simp; done)) | assumption | apply Blk.alloc)) ?_))
  exact bodyPost_ret (v := .agg (nc (rWide n))) (results_node rfl _ _ _ _ rfl (by repeat (first | apply NodeAt.row | (apply Blk.new'; first | rfl | (simp; done)) | (apply Blk.node; apply Blk.new'; first | rfl | (simp; done)) | assumption | apply NodeAt.alloc))) rfl ⟨rfl, (by repeat (first | (refine below_setRow ?_ _ _ ?_; rotate_left; focus (simp; done)) | exact Below.refl _ _ | exact hb9 | refine andThen ?_ hb9 | refine andAlloc ?_ _))⟩

theorem rtext_n (n : Nd) (w : World) : Calls Try.prog 91 #[.agg (nc n)] w fun e w' => e = .returned (.agg (nc (rText n))) ∧ Below w.heap.size w w' := by
  go_enter Try.func91, Try.ntmps91
  go_wp2_with (first | (refine wpList_alloc_node rfl rfl ?_) | (refine wpList_load_node rfl _ rfl _ _ rfl _ (by repeat (first | (apply Blk.node; apply Blk.new'; first | rfl | (simp; done)) | assumption | apply NodeAt.alloc)) ?_) | (refine wpList_store_node rfl _ _ rfl _ _ _ rfl rfl _ (by repeat (first | (apply Blk.new'; first | rfl | (simp; done)) | assumption | apply Blk.alloc)) ?_))
  exact bodyPost_ret (v := .agg (nc (rText n))) (results_node rfl _ _ _ _ rfl (by repeat (first | apply NodeAt.row | (apply Blk.new'; first | rfl | (simp; done)) | (apply Blk.node; apply Blk.new'; first | rfl | (simp; done)) | assumption | apply NodeAt.alloc))) rfl ⟨rfl, (by repeat (first | (refine below_setRow ?_ _ _ ?_; rotate_left; focus (simp; done)) | exact Below.refl _ _ | exact hb9 | refine andThen ?_ hb9 | refine andAlloc ?_ _))⟩

theorem rrule_n (n : Nd) (w : World) : Calls Try.prog 98 #[.agg (nc n)] w fun e w' => e = .returned (.agg (nc (restK 3 n))) ∧ Below w.heap.size w w' := by
  go_enter Try.func98, Try.ntmps98
  go_wp2_with (first | (refine wpList_alloc_node rfl rfl ?_) | (refine wpList_load_node rfl _ rfl _ _ rfl _ (by repeat (first | (apply Blk.node; apply Blk.new'; first | rfl | (simp; done)) | assumption | apply NodeAt.alloc)) ?_) | (refine wpList_store_node rfl _ _ rfl _ _ _ rfl rfl _ (by repeat (first | (apply Blk.new'; first | rfl | (simp; done)) | assumption | apply Blk.alloc)) ?_))
  exact bodyPost_ret (v := .agg (nc (restK 3 n))) (results_node rfl _ _ _ _ rfl (by repeat (first | apply NodeAt.row | (apply Blk.new'; first | rfl | (simp; done)) | (apply Blk.node; apply Blk.new'; first | rfl | (simp; done)) | assumption | apply NodeAt.alloc))) rfl ⟨rfl, (by repeat (first | (refine below_setRow ?_ _ _ ?_; rotate_left; focus (simp; done)) | exact Below.refl _ _ | exact hb9 | refine andThen ?_ hb9 | refine andAlloc ?_ _))⟩

theorem rall_n (n : Nd) (w : World) : Calls Try.prog 101 #[.agg (nc n)] w fun e w' => e = .returned (.agg (nc (n))) ∧ Below w.heap.size w w' := by
  go_enter Try.func101, Try.ntmps101
  go_wp2_with (first | (refine wpList_alloc_node rfl rfl ?_) | (refine wpList_load_node rfl _ rfl _ _ rfl _ (by repeat (first | (apply Blk.node; apply Blk.new'; first | rfl | (simp; done)) | assumption | apply NodeAt.alloc)) ?_) | (refine wpList_store_node rfl _ _ rfl _ _ _ rfl rfl _ (by repeat (first | (apply Blk.new'; first | rfl | (simp; done)) | assumption | apply Blk.alloc)) ?_))
  exact bodyPost_ret (v := .agg (nc (n))) (results_node rfl _ _ _ _ rfl (by repeat (first | apply NodeAt.row | (apply Blk.new'; first | rfl | (simp; done)) | (apply Blk.node; apply Blk.new'; first | rfl | (simp; done)) | assumption | apply NodeAt.alloc))) rfl ⟨rfl, (by repeat (first | (refine below_setRow ?_ _ _ ?_; rotate_left; focus (simp; done)) | exact Below.refl _ _ | exact hb9 | refine andThen ?_ hb9 | refine andAlloc ?_ _))⟩

theorem rskip_n (n : Nd) (w : World) : Calls Try.prog 104 #[.agg (nc n)] w fun e w' => e = .returned (.agg (nc (restK 7 n))) ∧ Below w.heap.size w w' := by
  go_enter Try.func104, Try.ntmps104
  go_wp2_with (first | (refine wpList_alloc_node rfl rfl ?_) | (refine wpList_load_node rfl _ rfl _ _ rfl _ (by repeat (first | (apply Blk.node; apply Blk.new'; first | rfl | (simp; done)) | assumption | apply NodeAt.alloc)) ?_) | (refine wpList_store_node rfl _ _ rfl _ _ _ rfl rfl _ (by repeat (first | (apply Blk.new'; first | rfl | (simp; done)) | assumption | apply Blk.alloc)) ?_))
  exact bodyPost_ret (v := .agg (nc (restK 7 n))) (results_node rfl _ _ _ _ rfl (by repeat (first | apply NodeAt.row | (apply Blk.new'; first | rfl | (simp; done)) | (apply Blk.node; apply Blk.new'; first | rfl | (simp; done)) | assumption | apply NodeAt.alloc))) rfl ⟨rfl, (by repeat (first | (refine below_setRow ?_ _ _ ?_; rotate_left; focus (simp; done)) | exact Below.refl _ _ | exact hb9 | refine andThen ?_ hb9 | refine andAlloc ?_ _))⟩

theorem rkern_n (n : Nd) (w : World) : Calls Try.prog 106 #[.agg (nc n)] w fun e w' => e = .returned (.agg (nc (restK 8 n))) ∧ Below w.heap.size w w' := by
  go_enter Try.func106, Try.ntmps106
  go_wp2_with (first | (refine wpList_alloc_node rfl rfl ?_) | (refine wpList_load_node rfl _ rfl _ _ rfl _ (by repeat (first | (apply Blk.node; apply Blk.new'; first | rfl | (simp; done)) | assumption | apply NodeAt.alloc)) ?_) | (refine wpList_store_node rfl _ _ rfl _ _ _ rfl rfl _ (by repeat (first | (apply Blk.new'; first | rfl | (simp; done)) | assumption | apply Blk.alloc)) ?_))
  exact bodyPost_ret (v := .agg (nc (restK 8 n))) (results_node rfl _ _ _ _ rfl (by repeat (first | apply NodeAt.row | (apply Blk.new'; first | rfl | (simp; done)) | (apply Blk.node; apply Blk.new'; first | rfl | (simp; done)) | assumption | apply NodeAt.alloc))) rfl ⟨rfl, (by repeat (first | (refine below_setRow ?_ _ _ ?_; rotate_left; focus (simp; done)) | exact Below.refl _ _ | exact hb9 | refine andThen ?_ hb9 | refine andAlloc ?_ _))⟩

theorem rpen_n (n : Nd) (w : World) : Calls Try.prog 108 #[.agg (nc n)] w fun e w' => e = .returned (.agg (nc (restK 9 n))) ∧ Below w.heap.size w w' := by
  go_enter Try.func108, Try.ntmps108
  go_wp2_with (first | (refine wpList_alloc_node rfl rfl ?_) | (refine wpList_load_node rfl _ rfl _ _ rfl _ (by repeat (first | (apply Blk.node; apply Blk.new'; first | rfl | (simp; done)) | assumption | apply NodeAt.alloc)) ?_) | (refine wpList_store_node rfl _ _ rfl _ _ _ rfl rfl _ (by repeat (first | (apply Blk.new'; first | rfl | (simp; done)) | assumption | apply Blk.alloc)) ?_))
  exact bodyPost_ret (v := .agg (nc (restK 9 n))) (results_node rfl _ _ _ _ rfl (by repeat (first | apply NodeAt.row | (apply Blk.new'; first | rfl | (simp; done)) | (apply Blk.node; apply Blk.new'; first | rfl | (simp; done)) | assumption | apply NodeAt.alloc))) rfl ⟨rfl, (by repeat (first | (refine below_setRow ?_ _ _ ?_; rotate_left; focus (simp; done)) | exact Below.refl _ _ | exact hb9 | refine andThen ?_ hb9 | refine andAlloc ?_ _))⟩

theorem rins_n (n : Nd) (w : World) : Calls Try.prog 110 #[.agg (nc n)] w fun e w' => e = .returned (.agg (nc (restK 13 n))) ∧ Below w.heap.size w w' := by
  go_enter Try.func110, Try.ntmps110
  go_wp2_with (first | (refine wpList_alloc_node rfl rfl ?_) | (refine wpList_load_node rfl _ rfl _ _ rfl _ (by repeat (first | (apply Blk.node; apply Blk.new'; first | rfl | (simp; done)) | assumption | apply NodeAt.alloc)) ?_) | (refine wpList_store_node rfl _ _ rfl _ _ _ rfl rfl _ (by repeat (first | (apply Blk.new'; first | rfl | (simp; done)) | assumption | apply Blk.alloc)) ?_))
  exact bodyPost_ret (v := .agg (nc (restK 13 n))) (results_node rfl _ _ _ _ rfl (by repeat (first | apply NodeAt.row | (apply Blk.new'; first | rfl | (simp; done)) | (apply Blk.node; apply Blk.new'; first | rfl | (simp; done)) | assumption | apply NodeAt.alloc))) rfl ⟨rfl, (by repeat (first | (refine below_setRow ?_ _ _ ?_; rotate_left; focus (simp; done)) | exact Below.refl _ _ | exact hb9 | refine andThen ?_ hb9 | refine andAlloc ?_ _))⟩

theorem rlig_n (n : Nd) (b : Nat) (w : World) (hc : w.cell? ⟨b, 0, none⟩ = some (.func (.func 87) #[] #[])) :
    Calls Try.prog 88 #[.agg (nc n), .pointer (some ⟨b, 0, none⟩)] w fun e w' => e = .returned (.agg (nc (restK 2 n))) ∧ Below w.heap.size w w' := by
  have hb := block_lt_of_cell hc
  simp only at hb
  go_enter Try.func88, Try.ntmps88
  go_wp2_with (first | (refine wpList_alloc_node rfl rfl ?_) | (refine wpList_load_node rfl _ rfl _ _ rfl _ (by repeat (first | (apply Blk.node; apply Blk.new'; first | rfl | (simp; done)) | assumption | apply NodeAt.alloc)) ?_) | (refine wpList_store_node rfl _ _ rfl _ _ _ rfl rfl _ (by repeat (first | (apply Blk.new'; first | rfl | (simp; done)) | assumption | apply Blk.alloc)) ?_))
  refine (rchar_n _ _).mono ?_
  rintro e w9 ⟨rfl, hb9⟩
  have hB : Blk w9 (w.heap.size + 1) 54 (nc (nz 0)) := Blk.below (Blk.new' (by simp)) hb9 (by simp)
  go_wp2_with (refine wpList_store_node rfl _ _ rfl _ _ _ rfl rfl _ (by repeat (first | (apply Blk.new'; first | rfl | (simp; done)) | assumption | apply Blk.alloc)) ?_)
  exact bodyPost_ret (v := .agg (nc (restK 2 n))) (results_node rfl _ _ _ _ rfl (by repeat (first | apply NodeAt.row | (apply Blk.new'; first | rfl | (simp; done)) | (apply Blk.node; apply Blk.new'; first | rfl | (simp; done)) | assumption | apply NodeAt.alloc))) rfl ⟨rfl, (by repeat (first | (refine below_setRow ?_ _ _ ?_; rotate_left; focus (simp; done)) | exact Below.refl _ _ | exact hb9 | refine andThen ?_ hb9 | refine andAlloc ?_ _))⟩
end Go.Proofs.Ytoboecenlangmaa.No

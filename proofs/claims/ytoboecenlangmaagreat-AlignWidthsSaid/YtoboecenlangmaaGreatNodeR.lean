import Derived.Test.YtoboecenlangmaaGreatNodeL
/- A node without the fields that its kind names (printed by gen_nodes2.py). Conditions: those that each theorem names. -/
namespace Go.Proofs.YtoboecenlangmaaGreat.No
open Go.ChangeShapes Go.WideShapes Go.ChangeAt Go.RowKit
open Me Np
set_option linter.unusedVariables false

theorem rchar_n (n : Nd) (w : World) : Calls Tryz.prog 125 #[.agg (nc n)] w fun e w' => e = .returned (.agg (nc (rChar n))) ∧ Below w.heap.size w w' := by
  go_enter Tryz.func125, Tryz.ntmps125
  go_wp2_with (first | (refine wpList_alloc_node rfl rfl ?_) | (refine wpList_load_node rfl _ rfl _ _ rfl _ (by repeat (first | (apply Blk.node; apply Blk.new'; first | rfl | (simp; done)) | assumption | apply NodeAt.alloc)) ?_) | (refine wpList_store_node rfl _ _ rfl _ _ _ rfl rfl _ (by repeat (first | (apply Blk.new'; first | rfl | (simp; done)) | assumption | apply Blk.alloc)) ?_))
  exact bodyPost_ret (v := .agg (nc (rChar n))) (results_node rfl _ _ _ _ rfl (by repeat (first | apply NodeAt.row | (apply Blk.new'; first | rfl | (simp; done)) | (apply Blk.node; apply Blk.new'; first | rfl | (simp; done)) | assumption | apply NodeAt.alloc))) rfl ⟨rfl, (by repeat (first | (refine below_setRow ?_ _ _ ?_; rotate_left; focus (simp; done)) | exact Below.refl _ _ | exact hb9 | refine andThen ?_ hb9 | refine andAlloc ?_ _))⟩

theorem rbox_n (n : Nd) (w : World) : Calls Tryz.prog 127 #[.agg (nc n)] w fun e w' => e = .returned (.agg (nc (rBox n))) ∧ Below w.heap.size w w' := by
  go_enter Tryz.func127, Tryz.ntmps127
  go_wp2_with (first | (refine wpList_alloc_node rfl rfl ?_) | (refine wpList_load_node rfl _ rfl _ _ rfl _ (by repeat (first | (apply Blk.node; apply Blk.new'; first | rfl | (simp; done)) | assumption | apply NodeAt.alloc)) ?_) | (refine wpList_store_node rfl _ _ rfl _ _ _ rfl rfl _ (by repeat (first | (apply Blk.new'; first | rfl | (simp; done)) | assumption | apply Blk.alloc)) ?_))
  exact bodyPost_ret (v := .agg (nc (rBox n))) (results_node rfl _ _ _ _ rfl (by repeat (first | apply NodeAt.row | (apply Blk.new'; first | rfl | (simp; done)) | (apply Blk.node; apply Blk.new'; first | rfl | (simp; done)) | assumption | apply NodeAt.alloc))) rfl ⟨rfl, (by repeat (first | (refine below_setRow ?_ _ _ ?_; rotate_left; focus (simp; done)) | exact Below.refl _ _ | exact hb9 | refine andThen ?_ hb9 | refine andAlloc ?_ _))⟩

theorem rwide_n (n : Nd) (w : World) : Calls Tryz.prog 128 #[.agg (nc n)] w fun e w' => e = .returned (.agg (nc (rWide n))) ∧ Below w.heap.size w w' := by
  go_enter Tryz.func128, Tryz.ntmps128
  go_wp2_with (first | (refine wpList_alloc_node rfl rfl ?_) | (refine wpList_load_node rfl _ rfl _ _ rfl _ (by repeat (first | (apply Blk.node; apply Blk.new'; first | rfl | (simp; done)) | assumption | apply NodeAt.alloc)) ?_) | (refine wpList_store_node rfl _ _ rfl _ _ _ rfl rfl _ (by repeat (first | (apply Blk.new'; first | rfl | (simp; done)) | assumption | apply Blk.alloc)) ?_))
  exact bodyPost_ret (v := .agg (nc (rWide n))) (results_node rfl _ _ _ _ rfl (by repeat (first | apply NodeAt.row | (apply Blk.new'; first | rfl | (simp; done)) | (apply Blk.node; apply Blk.new'; first | rfl | (simp; done)) | assumption | apply NodeAt.alloc))) rfl ⟨rfl, (by repeat (first | (refine below_setRow ?_ _ _ ?_; rotate_left; focus (simp; done)) | exact Below.refl _ _ | exact hb9 | refine andThen ?_ hb9 | refine andAlloc ?_ _))⟩

theorem rtext_n (n : Nd) (w : World) : Calls Tryz.prog 129 #[.agg (nc n)] w fun e w' => e = .returned (.agg (nc (rText n))) ∧ Below w.heap.size w w' := by
  go_enter Tryz.func129, Tryz.ntmps129
  go_wp2_with (first | (refine wpList_alloc_node rfl rfl ?_) | (refine wpList_load_node rfl _ rfl _ _ rfl _ (by repeat (first | (apply Blk.node; apply Blk.new'; first | rfl | (simp; done)) | assumption | apply NodeAt.alloc)) ?_) | (refine wpList_store_node rfl _ _ rfl _ _ _ rfl rfl _ (by repeat (first | (apply Blk.new'; first | rfl | (simp; done)) | assumption | apply Blk.alloc)) ?_))
  exact bodyPost_ret (v := .agg (nc (rText n))) (results_node rfl _ _ _ _ rfl (by repeat (first | apply NodeAt.row | (apply Blk.new'; first | rfl | (simp; done)) | (apply Blk.node; apply Blk.new'; first | rfl | (simp; done)) | assumption | apply NodeAt.alloc))) rfl ⟨rfl, (by repeat (first | (refine below_setRow ?_ _ _ ?_; rotate_left; focus (simp; done)) | exact Below.refl _ _ | exact hb9 | refine andThen ?_ hb9 | refine andAlloc ?_ _))⟩

theorem rrule_n (n : Nd) (w : World) : Calls Tryz.prog 136 #[.agg (nc n)] w fun e w' => e = .returned (.agg (nc (restK 3 n))) ∧ Below w.heap.size w w' := by
  go_enter Tryz.func136, Tryz.ntmps136
  go_wp2_with (first | (refine wpList_alloc_node rfl rfl ?_) | (refine wpList_load_node rfl _ rfl _ _ rfl _ (by repeat (first | (apply Blk.node; apply Blk.new'; first | rfl | (simp; done)) | assumption | apply NodeAt.alloc)) ?_) | (refine wpList_store_node rfl _ _ rfl _ _ _ rfl rfl _ (by repeat (first | (apply Blk.new'; first | rfl | (simp; done)) | assumption | apply Blk.alloc)) ?_))
  exact bodyPost_ret (v := .agg (nc (restK 3 n))) (results_node rfl _ _ _ _ rfl (by repeat (first | apply NodeAt.row | (apply Blk.new'; first | rfl | (simp; done)) | (apply Blk.node; apply Blk.new'; first | rfl | (simp; done)) | assumption | apply NodeAt.alloc))) rfl ⟨rfl, (by repeat (first | (refine below_setRow ?_ _ _ ?_; rotate_left; focus (simp; done)) | exact Below.refl _ _ | exact hb9 | refine andThen ?_ hb9 | refine andAlloc ?_ _))⟩

theorem rall_n (n : Nd) (w : World) : Calls Tryz.prog 139 #[.agg (nc n)] w fun e w' => e = .returned (.agg (nc (n))) ∧ Below w.heap.size w w' := by
  go_enter Tryz.func139, Tryz.ntmps139
  go_wp2_with (first | (refine wpList_alloc_node rfl rfl ?_) | (refine wpList_load_node rfl _ rfl _ _ rfl _ (by repeat (first | (apply Blk.node; apply Blk.new'; first | rfl | (simp; done)) | assumption | apply NodeAt.alloc)) ?_) | (refine wpList_store_node rfl _ _ rfl _ _ _ rfl rfl _ (by repeat (first | (apply Blk.new'; first | rfl | (simp; done)) | assumption | apply Blk.alloc)) ?_))
  exact bodyPost_ret (v := .agg (nc (n))) (results_node rfl _ _ _ _ rfl (by repeat (first | apply NodeAt.row | (apply Blk.new'; first | rfl | (simp; done)) | (apply Blk.node; apply Blk.new'; first | rfl | (simp; done)) | assumption | apply NodeAt.alloc))) rfl ⟨rfl, (by repeat (first | (refine below_setRow ?_ _ _ ?_; rotate_left; focus (simp; done)) | exact Below.refl _ _ | exact hb9 | refine andThen ?_ hb9 | refine andAlloc ?_ _))⟩

theorem rskip_n (n : Nd) (w : World) : Calls Tryz.prog 141 #[.agg (nc n)] w fun e w' => e = .returned (.agg (nc (restK 7 n))) ∧ Below w.heap.size w w' := by
  go_enter Tryz.func141, Tryz.ntmps141
  go_wp2_with (first | (refine wpList_alloc_node rfl rfl ?_) | (refine wpList_load_node rfl _ rfl _ _ rfl _ (by repeat (first | (apply Blk.node; apply Blk.new'; first | rfl | (simp; done)) | assumption | apply NodeAt.alloc)) ?_) | (refine wpList_store_node rfl _ _ rfl _ _ _ rfl rfl _ (by repeat (first | (apply Blk.new'; first | rfl | (simp; done)) | assumption | apply Blk.alloc)) ?_))
  exact bodyPost_ret (v := .agg (nc (restK 7 n))) (results_node rfl _ _ _ _ rfl (by repeat (first | apply NodeAt.row | (apply Blk.new'; first | rfl | (simp; done)) | (apply Blk.node; apply Blk.new'; first | rfl | (simp; done)) | assumption | apply NodeAt.alloc))) rfl ⟨rfl, (by repeat (first | (refine below_setRow ?_ _ _ ?_; rotate_left; focus (simp; done)) | exact Below.refl _ _ | exact hb9 | refine andThen ?_ hb9 | refine andAlloc ?_ _))⟩

theorem rkern_n (n : Nd) (w : World) : Calls Tryz.prog 143 #[.agg (nc n)] w fun e w' => e = .returned (.agg (nc (restK 8 n))) ∧ Below w.heap.size w w' := by
  go_enter Tryz.func143, Tryz.ntmps143
  go_wp2_with (first | (refine wpList_alloc_node rfl rfl ?_) | (refine wpList_load_node rfl _ rfl _ _ rfl _ (by repeat (first | (apply Blk.node; apply Blk.new'; first | rfl | (simp; done)) | assumption | apply NodeAt.alloc)) ?_) | (refine wpList_store_node rfl _ _ rfl _ _ _ rfl rfl _ (by repeat (first | (apply Blk.new'; first | rfl | (simp; done)) | assumption | apply Blk.alloc)) ?_))
  exact bodyPost_ret (v := .agg (nc (restK 8 n))) (results_node rfl _ _ _ _ rfl (by repeat (first | apply NodeAt.row | (apply Blk.new'; first | rfl | (simp; done)) | (apply Blk.node; apply Blk.new'; first | rfl | (simp; done)) | assumption | apply NodeAt.alloc))) rfl ⟨rfl, (by repeat (first | (refine below_setRow ?_ _ _ ?_; rotate_left; focus (simp; done)) | exact Below.refl _ _ | exact hb9 | refine andThen ?_ hb9 | refine andAlloc ?_ _))⟩

theorem rpen_n (n : Nd) (w : World) : Calls Tryz.prog 145 #[.agg (nc n)] w fun e w' => e = .returned (.agg (nc (restK 9 n))) ∧ Below w.heap.size w w' := by
  go_enter Tryz.func145, Tryz.ntmps145
  go_wp2_with (first | (refine wpList_alloc_node rfl rfl ?_) | (refine wpList_load_node rfl _ rfl _ _ rfl _ (by repeat (first | (apply Blk.node; apply Blk.new'; first | rfl | (simp; done)) | assumption | apply NodeAt.alloc)) ?_) | (refine wpList_store_node rfl _ _ rfl _ _ _ rfl rfl _ (by repeat (first | (apply Blk.new'; first | rfl | (simp; done)) | assumption | apply Blk.alloc)) ?_))
  exact bodyPost_ret (v := .agg (nc (restK 9 n))) (results_node rfl _ _ _ _ rfl (by repeat (first | apply NodeAt.row | (apply Blk.new'; first | rfl | (simp; done)) | (apply Blk.node; apply Blk.new'; first | rfl | (simp; done)) | assumption | apply NodeAt.alloc))) rfl ⟨rfl, (by repeat (first | (refine below_setRow ?_ _ _ ?_; rotate_left; focus (simp; done)) | exact Below.refl _ _ | exact hb9 | refine andThen ?_ hb9 | refine andAlloc ?_ _))⟩

theorem rins_n (n : Nd) (w : World) : Calls Tryz.prog 147 #[.agg (nc n)] w fun e w' => e = .returned (.agg (nc (restK 13 n))) ∧ Below w.heap.size w w' := by
  go_enter Tryz.func147, Tryz.ntmps147
  go_wp2_with (first | (refine wpList_alloc_node rfl rfl ?_) | (refine wpList_load_node rfl _ rfl _ _ rfl _ (by repeat (first | (apply Blk.node; apply Blk.new'; first | rfl | (simp; done)) | assumption | apply NodeAt.alloc)) ?_) | (refine wpList_store_node rfl _ _ rfl _ _ _ rfl rfl _ (by repeat (first | (apply Blk.new'; first | rfl | (simp; done)) | assumption | apply Blk.alloc)) ?_))
  exact bodyPost_ret (v := .agg (nc (restK 13 n))) (results_node rfl _ _ _ _ rfl (by repeat (first | apply NodeAt.row | (apply Blk.new'; first | rfl | (simp; done)) | (apply Blk.node; apply Blk.new'; first | rfl | (simp; done)) | assumption | apply NodeAt.alloc))) rfl ⟨rfl, (by repeat (first | (refine below_setRow ?_ _ _ ?_; rotate_left; focus (simp; done)) | exact Below.refl _ _ | exact hb9 | refine andThen ?_ hb9 | refine andAlloc ?_ _))⟩

theorem rlig_n (n : Nd) (b : Nat) (w : World) (hc : w.cell? ⟨b, 0, none⟩ = some (.func (.func 125) #[] #[])) :
    Calls Tryz.prog 126 #[.agg (nc n), .pointer (some ⟨b, 0, none⟩)] w fun e w' => e = .returned (.agg (nc (restK 2 n))) ∧ Below w.heap.size w w' := by
  have hb := block_lt_of_cell hc
  simp only at hb
  go_enter Tryz.func126, Tryz.ntmps126
  go_wp2_with (first | (refine wpList_alloc_node rfl rfl ?_) | (refine wpList_load_node rfl _ rfl _ _ rfl _ (by repeat (first | (apply Blk.node; apply Blk.new'; first | rfl | (simp; done)) | assumption | apply NodeAt.alloc)) ?_) | (refine wpList_store_node rfl _ _ rfl _ _ _ rfl rfl _ (by repeat (first | (apply Blk.new'; first | rfl | (simp; done)) | assumption | apply Blk.alloc)) ?_))
  refine (rchar_n _ _).mono ?_
  rintro e w9 ⟨rfl, hb9⟩
  have hB : Blk w9 (w.heap.size + 1) 101 (nc (nz 0)) := Blk.below (Blk.new' (by simp)) hb9 (by simp)
  go_wp2_with (refine wpList_store_node rfl _ _ rfl _ _ _ rfl rfl _ (by repeat (first | (apply Blk.new'; first | rfl | (simp; done)) | assumption | apply Blk.alloc)) ?_)
  exact bodyPost_ret (v := .agg (nc (restK 2 n))) (results_node rfl _ _ _ _ rfl (by repeat (first | apply NodeAt.row | (apply Blk.new'; first | rfl | (simp; done)) | (apply Blk.node; apply Blk.new'; first | rfl | (simp; done)) | assumption | apply NodeAt.alloc))) rfl ⟨rfl, (by repeat (first | (refine below_setRow ?_ _ _ ?_; rotate_left; focus (simp; done)) | exact Below.refl _ _ | exact hb9 | refine andThen ?_ hb9 | refine andAlloc ?_ _))⟩
end Go.Proofs.YtoboecenlangmaaGreat.No

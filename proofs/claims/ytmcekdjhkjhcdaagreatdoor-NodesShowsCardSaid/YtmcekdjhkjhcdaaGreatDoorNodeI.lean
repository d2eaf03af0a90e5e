import Derived.Test.YtmcekdjhkjhcdaaGreatDoorNodeH
import Derived.Test.YtmcekdjhkjhcdaaGreatDoorNs
/- Contracts of along where no Disc is in the way (printed by gen_nodei.py). Conditions: those that each theorem names. -/
namespace Go.Proofs.YtmcekdjhkjhcdaaGreatDoor.No
open Go.ChangeShapes Go.WideShapes Go.ChangeAt Go.RowKit
open Me Np
set_option linter.unusedVariables false
set_option linter.unusedSimpArgs false

theorem along_skip_true (A : Option Addr) (ns : List Nd) (c k : Nat) (n : Nd) (w : World) (hl : ns.length ≤ 9223372036854775806) (hseg : Seg w w.heap.size A (ns.flatMap ncs)) (hk : ns[k]? = some n) (hn : n.kind = 7) :
    Calls Tryz.prog 89 #[.slice A ns.length c, .int .i64 (k : Int), .bool true] w fun e w' => e = .returned (.int .i64 (alongP n true)) ∧ Below w.heap.size w w' := by
  obtain ⟨b, off, rfl, hb, hnode⟩ := seg_node hseg hk
  have hkl : k < ns.length := (List.getElem?_eq_some_iff.1 hk).1
  clear hseg hk
  have hv : alongP n true = n.gn := by simp [alongP, hn]
  have HV := Lib.hid hv
  clear hv
  generalize ns.length = len at *
  go_enter Tryz.func89, Tryz.ntmps89
  go_wp2_with (first | (refine wpList_load_node rfl _ rfl _ _ rfl _ (by repeat (first | apply NodeAt.row | (apply Blk.new'; first | rfl | (simp; done)) | (apply Blk.node; apply Blk.new'; first | rfl | (simp; done)) | assumption | apply NodeAt.alloc)) ?_) | (refine wpList_alloc_node rfl rfl ?_) | (refine wpList_store_node rfl _ _ rfl _ _ _ rfl rfl _ (by repeat (first | (apply Blk.new'; first | rfl | (simp; done)) | assumption | apply Blk.alloc)) ?_))
  (go_ret; exact ⟨ret_int (by rw [HV.out]), (by repeat (first | exact Below.refl _ _ | (refine below_setRow ?_ _ _ ?_; rotate_left; focus (simp; done)) | refine andAlloc ?_ _))⟩)

theorem along_kern_true (A : Option Addr) (ns : List Nd) (c k : Nat) (n : Nd) (w : World) (hl : ns.length ≤ 9223372036854775806) (hseg : Seg w w.heap.size A (ns.flatMap ncs)) (hk : ns[k]? = some n) (hn : n.kind = 8) :
    Calls Tryz.prog 89 #[.slice A ns.length c, .int .i64 (k : Int), .bool true] w fun e w' => e = .returned (.int .i64 (alongP n true)) ∧ Below w.heap.size w w' := by
  obtain ⟨b, off, rfl, hb, hnode⟩ := seg_node hseg hk
  have hkl : k < ns.length := (List.getElem?_eq_some_iff.1 hk).1
  clear hseg hk
  have hv : alongP n true = n.wd := by simp [alongP, hn]
  have HV := Lib.hid hv
  clear hv
  generalize ns.length = len at *
  go_enter Tryz.func89, Tryz.ntmps89
  go_wp2_with (first | (refine wpList_load_node rfl _ rfl _ _ rfl _ (by repeat (first | apply NodeAt.row | (apply Blk.new'; first | rfl | (simp; done)) | (apply Blk.node; apply Blk.new'; first | rfl | (simp; done)) | assumption | apply NodeAt.alloc)) ?_) | (refine wpList_alloc_node rfl rfl ?_) | (refine wpList_store_node rfl _ _ rfl _ _ _ rfl rfl _ (by repeat (first | (apply Blk.new'; first | rfl | (simp; done)) | assumption | apply Blk.alloc)) ?_))
  (go_ret; exact ⟨ret_int (by rw [HV.out]), (by repeat (first | exact Below.refl _ _ | (refine below_setRow ?_ _ _ ?_; rotate_left; focus (simp; done)) | refine andAlloc ?_ _))⟩)

theorem along_b3_true (A : Option Addr) (ns : List Nd) (c k : Nat) (n : Nd) (w : World) (hl : ns.length ≤ 9223372036854775806) (hseg : Seg w w.heap.size A (ns.flatMap ncs)) (hk : ns[k]? = some n) (hn : n.kind = 3) (hr : right n = true) :
    Calls Tryz.prog 89 #[.slice A ns.length c, .int .i64 (k : Int), .bool true] w fun e w' => e = .returned (.int .i64 (alongP n true)) ∧ Below w.heap.size w w' := by
  obtain ⟨b, off, rfl, hb, hnode⟩ := seg_node hseg hk
  have hkl : k < ns.length := (List.getElem?_eq_some_iff.1 hk).1
  clear hseg hk
  have hd := right_hd hr (by omega)
  unfold dm at hd
  obtain ⟨⟨d0, d1⟩, d2, d3⟩ := hd
  clear hr
  have hv : alongP n true = n.ht + n.dp := by simp [alongP, hn]
  have HV := Lib.hid hv
  clear hv
  generalize ns.length = len at *
  go_enter Tryz.func89, Tryz.ntmps89
  go_wp2_with (first | (refine wpList_load_node rfl _ rfl _ _ rfl _ (by repeat (first | apply NodeAt.row | (apply Blk.new'; first | rfl | (simp; done)) | (apply Blk.node; apply Blk.new'; first | rfl | (simp; done)) | assumption | apply NodeAt.alloc)) ?_) | (refine wpList_alloc_node rfl rfl ?_) | (refine wpList_store_node rfl _ _ rfl _ _ _ rfl rfl _ (by repeat (first | (apply Blk.new'; first | rfl | (simp; done)) | assumption | apply Blk.alloc)) ?_))
  (go_ret; exact ⟨ret_int (by rw [HV.out]), (by repeat (first | exact Below.refl _ _ | (refine below_setRow ?_ _ _ ?_; rotate_left; focus (simp; done)) | refine andAlloc ?_ _))⟩)

theorem along_b4_true (A : Option Addr) (ns : List Nd) (c k : Nat) (n : Nd) (w : World) (hl : ns.length ≤ 9223372036854775806) (hseg : Seg w w.heap.size A (ns.flatMap ncs)) (hk : ns[k]? = some n) (hn : n.kind = 4) (hr : right n = true) :
    Calls Tryz.prog 89 #[.slice A ns.length c, .int .i64 (k : Int), .bool true] w fun e w' => e = .returned (.int .i64 (alongP n true)) ∧ Below w.heap.size w w' := by
  obtain ⟨b, off, rfl, hb, hnode⟩ := seg_node hseg hk
  have hkl : k < ns.length := (List.getElem?_eq_some_iff.1 hk).1
  clear hseg hk
  have hd := right_hd hr (by omega)
  unfold dm at hd
  obtain ⟨⟨d0, d1⟩, d2, d3⟩ := hd
  clear hr
  have hv : alongP n true = n.ht + n.dp := by simp [alongP, hn]
  have HV := Lib.hid hv
  clear hv
  generalize ns.length = len at *
  go_enter Tryz.func89, Tryz.ntmps89
  go_wp2_with (first | (refine wpList_load_node rfl _ rfl _ _ rfl _ (by repeat (first | apply NodeAt.row | (apply Blk.new'; first | rfl | (simp; done)) | (apply Blk.node; apply Blk.new'; first | rfl | (simp; done)) | assumption | apply NodeAt.alloc)) ?_) | (refine wpList_alloc_node rfl rfl ?_) | (refine wpList_store_node rfl _ _ rfl _ _ _ rfl rfl _ (by repeat (first | (apply Blk.new'; first | rfl | (simp; done)) | assumption | apply Blk.alloc)) ?_))
  (go_ret; exact ⟨ret_int (by rw [HV.out]), (by repeat (first | exact Below.refl _ _ | (refine below_setRow ?_ _ _ ?_; rotate_left; focus (simp; done)) | refine andAlloc ?_ _))⟩)

theorem along_b5_true (A : Option Addr) (ns : List Nd) (c k : Nat) (n : Nd) (w : World) (hl : ns.length ≤ 9223372036854775806) (hseg : Seg w w.heap.size A (ns.flatMap ncs)) (hk : ns[k]? = some n) (hn : n.kind = 5) (hr : right n = true) :
    Calls Tryz.prog 89 #[.slice A ns.length c, .int .i64 (k : Int), .bool true] w fun e w' => e = .returned (.int .i64 (alongP n true)) ∧ Below w.heap.size w w' := by
  obtain ⟨b, off, rfl, hb, hnode⟩ := seg_node hseg hk
  have hkl : k < ns.length := (List.getElem?_eq_some_iff.1 hk).1
  clear hseg hk
  have hd := right_hd hr (by omega)
  unfold dm at hd
  obtain ⟨⟨d0, d1⟩, d2, d3⟩ := hd
  clear hr
  have hv : alongP n true = n.ht + n.dp := by simp [alongP, hn]
  have HV := Lib.hid hv
  clear hv
  generalize ns.length = len at *
  go_enter Tryz.func89, Tryz.ntmps89
  go_wp2_with (first | (refine wpList_load_node rfl _ rfl _ _ rfl _ (by repeat (first | apply NodeAt.row | (apply Blk.new'; first | rfl | (simp; done)) | (apply Blk.node; apply Blk.new'; first | rfl | (simp; done)) | assumption | apply NodeAt.alloc)) ?_) | (refine wpList_alloc_node rfl rfl ?_) | (refine wpList_store_node rfl _ _ rfl _ _ _ rfl rfl _ (by repeat (first | (apply Blk.new'; first | rfl | (simp; done)) | assumption | apply Blk.alloc)) ?_))
  (go_ret; exact ⟨ret_int (by rw [HV.out]), (by repeat (first | exact Below.refl _ _ | (refine below_setRow ?_ _ _ ?_; rotate_left; focus (simp; done)) | refine andAlloc ?_ _))⟩)

theorem along_b1_true (A : Option Addr) (ns : List Nd) (c k : Nat) (n : Nd) (w : World) (hl : ns.length ≤ 9223372036854775806) (hseg : Seg w w.heap.size A (ns.flatMap ncs)) (hk : ns[k]? = some n) (hn : n.kind = 1) :
    Calls Tryz.prog 89 #[.slice A ns.length c, .int .i64 (k : Int), .bool true] w fun e w' => e = .returned (.int .i64 (alongP n true)) ∧ Below w.heap.size w w' := by
  obtain ⟨b, off, rfl, hb, hnode⟩ := seg_node hseg hk
  have hkl : k < ns.length := (List.getElem?_eq_some_iff.1 hk).1
  clear hseg hk
  have hv : alongP n true = 0 := by simp [alongP, hn]
  have HV := Lib.hid hv
  clear hv
  generalize ns.length = len at *
  go_enter Tryz.func89, Tryz.ntmps89
  go_wp2_with (first | (refine wpList_load_node rfl _ rfl _ _ rfl _ (by repeat (first | apply NodeAt.row | (apply Blk.new'; first | rfl | (simp; done)) | (apply Blk.node; apply Blk.new'; first | rfl | (simp; done)) | assumption | apply NodeAt.alloc)) ?_) | (refine wpList_alloc_node rfl rfl ?_) | (refine wpList_store_node rfl _ _ rfl _ _ _ rfl rfl _ (by repeat (first | (apply Blk.new'; first | rfl | (simp; done)) | assumption | apply Blk.alloc)) ?_))
  (go_ret; exact ⟨ret_int (by rw [HV.out]), (by repeat (first | exact Below.refl _ _ | (refine below_setRow ?_ _ _ ?_; rotate_left; focus (simp; done)) | refine andAlloc ?_ _))⟩)

theorem along_b2_true (A : Option Addr) (ns : List Nd) (c k : Nat) (n : Nd) (w : World) (hl : ns.length ≤ 9223372036854775806) (hseg : Seg w w.heap.size A (ns.flatMap ncs)) (hk : ns[k]? = some n) (hn : n.kind = 2) :
    Calls Tryz.prog 89 #[.slice A ns.length c, .int .i64 (k : Int), .bool true] w fun e w' => e = .returned (.int .i64 (alongP n true)) ∧ Below w.heap.size w w' := by
  obtain ⟨b, off, rfl, hb, hnode⟩ := seg_node hseg hk
  have hkl : k < ns.length := (List.getElem?_eq_some_iff.1 hk).1
  clear hseg hk
  have hv : alongP n true = 0 := by simp [alongP, hn]
  have HV := Lib.hid hv
  clear hv
  generalize ns.length = len at *
  go_enter Tryz.func89, Tryz.ntmps89
  go_wp2_with (first | (refine wpList_load_node rfl _ rfl _ _ rfl _ (by repeat (first | apply NodeAt.row | (apply Blk.new'; first | rfl | (simp; done)) | (apply Blk.node; apply Blk.new'; first | rfl | (simp; done)) | assumption | apply NodeAt.alloc)) ?_) | (refine wpList_alloc_node rfl rfl ?_) | (refine wpList_store_node rfl _ _ rfl _ _ _ rfl rfl _ (by repeat (first | (apply Blk.new'; first | rfl | (simp; done)) | assumption | apply Blk.alloc)) ?_))
  (go_ret; exact ⟨ret_int (by rw [HV.out]), (by repeat (first | exact Below.refl _ _ | (refine below_setRow ?_ _ _ ?_; rotate_left; focus (simp; done)) | refine andAlloc ?_ _))⟩)

theorem along_b15_true (A : Option Addr) (ns : List Nd) (c k : Nat) (n : Nd) (w : World) (hl : ns.length ≤ 9223372036854775806) (hseg : Seg w w.heap.size A (ns.flatMap ncs)) (hk : ns[k]? = some n) (hn : n.kind = 15) :
    Calls Tryz.prog 89 #[.slice A ns.length c, .int .i64 (k : Int), .bool true] w fun e w' => e = .returned (.int .i64 (alongP n true)) ∧ Below w.heap.size w w' := by
  obtain ⟨b, off, rfl, hb, hnode⟩ := seg_node hseg hk
  have hkl : k < ns.length := (List.getElem?_eq_some_iff.1 hk).1
  clear hseg hk
  have hv : alongP n true = 0 := by simp [alongP, hn]
  have HV := Lib.hid hv
  clear hv
  generalize ns.length = len at *
  go_enter Tryz.func89, Tryz.ntmps89
  go_wp2_with (first | (refine wpList_load_node rfl _ rfl _ _ rfl _ (by repeat (first | apply NodeAt.row | (apply Blk.new'; first | rfl | (simp; done)) | (apply Blk.node; apply Blk.new'; first | rfl | (simp; done)) | assumption | apply NodeAt.alloc)) ?_) | (refine wpList_alloc_node rfl rfl ?_) | (refine wpList_store_node rfl _ _ rfl _ _ _ rfl rfl _ (by repeat (first | (apply Blk.new'; first | rfl | (simp; done)) | assumption | apply Blk.alloc)) ?_))
  (go_ret; exact ⟨ret_int (by rw [HV.out]), (by repeat (first | exact Below.refl _ _ | (refine below_setRow ?_ _ _ ?_; rotate_left; focus (simp; done)) | refine andAlloc ?_ _))⟩)

theorem along_b16_true (A : Option Addr) (ns : List Nd) (c k : Nat) (n : Nd) (w : World) (hl : ns.length ≤ 9223372036854775806) (hseg : Seg w w.heap.size A (ns.flatMap ncs)) (hk : ns[k]? = some n) (hn : n.kind = 16) :
    Calls Tryz.prog 89 #[.slice A ns.length c, .int .i64 (k : Int), .bool true] w fun e w' => e = .returned (.int .i64 (alongP n true)) ∧ Below w.heap.size w w' := by
  obtain ⟨b, off, rfl, hb, hnode⟩ := seg_node hseg hk
  have hkl : k < ns.length := (List.getElem?_eq_some_iff.1 hk).1
  clear hseg hk
  have hv : alongP n true = 0 := by simp [alongP, hn]
  have HV := Lib.hid hv
  clear hv
  generalize ns.length = len at *
  go_enter Tryz.func89, Tryz.ntmps89
  go_wp2_with (first | (refine wpList_load_node rfl _ rfl _ _ rfl _ (by repeat (first | apply NodeAt.row | (apply Blk.new'; first | rfl | (simp; done)) | (apply Blk.node; apply Blk.new'; first | rfl | (simp; done)) | assumption | apply NodeAt.alloc)) ?_) | (refine wpList_alloc_node rfl rfl ?_) | (refine wpList_store_node rfl _ _ rfl _ _ _ rfl rfl _ (by repeat (first | (apply Blk.new'; first | rfl | (simp; done)) | assumption | apply Blk.alloc)) ?_))
  (go_ret; exact ⟨ret_int (by rw [HV.out]), (by repeat (first | exact Below.refl _ _ | (refine below_setRow ?_ _ _ ?_; rotate_left; focus (simp; done)) | refine andAlloc ?_ _))⟩)

theorem along_disc_true (A : Option Addr) (ns : List Nd) (c k : Nat) (n : Nd) (w : World) (hl : ns.length ≤ 9223372036854775806) (hseg : Seg w w.heap.size A (ns.flatMap ncs)) (hk : ns[k]? = some n) (hn : n.kind = 10) :
    Calls Tryz.prog 89 #[.slice A ns.length c, .int .i64 (k : Int), .bool true] w fun e w' => e = .returned (.int .i64 (alongP n true)) ∧ Below w.heap.size w w' := by
  obtain ⟨b, off, rfl, hb, hnode⟩ := seg_node hseg hk
  have hkl : k < ns.length := (List.getElem?_eq_some_iff.1 hk).1
  clear hseg hk
  have hv : alongP n true = 0 := by simp [alongP, hn]
  have HV := Lib.hid hv
  clear hv
  generalize ns.length = len at *
  go_enter Tryz.func89, Tryz.ntmps89
  go_wp2_with (first | (refine wpList_load_node rfl _ rfl _ _ rfl _ (by repeat (first | apply NodeAt.row | (apply Blk.new'; first | rfl | (simp; done)) | (apply Blk.node; apply Blk.new'; first | rfl | (simp; done)) | assumption | apply NodeAt.alloc)) ?_) | (refine wpList_alloc_node rfl rfl ?_) | (refine wpList_store_node rfl _ _ rfl _ _ _ rfl rfl _ (by repeat (first | (apply Blk.new'; first | rfl | (simp; done)) | assumption | apply Blk.alloc)) ?_))
  (go_ret; exact ⟨ret_int (by rw [HV.out]), (by repeat (first | exact Below.refl _ _ | (refine below_setRow ?_ _ _ ?_; rotate_left; focus (simp; done)) | refine andAlloc ?_ _))⟩)

theorem along_other_true (A : Option Addr) (ns : List Nd) (c k : Nat) (n : Nd) (w : World) (hl : ns.length ≤ 9223372036854775806) (hseg : Seg w w.heap.size A (ns.flatMap ncs)) (hk : ns[k]? = some n) (h7 : ¬ n.kind = 7) (h8 : ¬ n.kind = 8) (h3 : ¬ n.kind = 3) (h4 : ¬ n.kind = 4) (h5 : ¬ n.kind = 5) (h1 : ¬ n.kind = 1) (h2 : ¬ n.kind = 2) (h15 : ¬ n.kind = 15) (h16 : ¬ n.kind = 16) (h10 : ¬ n.kind = 10) :
    Calls Tryz.prog 89 #[.slice A ns.length c, .int .i64 (k : Int), .bool true] w fun e w' => e = .returned (.int .i64 (alongP n true)) ∧ Below w.heap.size w w' := by
  obtain ⟨b, off, rfl, hb, hnode⟩ := seg_node hseg hk
  have hkl : k < ns.length := (List.getElem?_eq_some_iff.1 hk).1
  clear hseg hk
  have hv : alongP n true = 0 := by simp [alongP, h7, h8, h3, h4, h5, h1, h2, h15, h16]
  have HV := Lib.hid hv
  clear hv
  have e7 : (n.kind == 7) = false := by simp [h7]
  have e8 : (n.kind == 8) = false := by simp [h8]
  have e3 : (n.kind == 3) = false := by simp [h3]
  have e4 : (n.kind == 4) = false := by simp [h4]
  have e5 : (n.kind == 5) = false := by simp [h5]
  have e1 : (n.kind == 1) = false := by simp [h1]
  have e2 : (n.kind == 2) = false := by simp [h2]
  have e15 : (n.kind == 15) = false := by simp [h15]
  have e16 : (n.kind == 16) = false := by simp [h16]
  have e10 : (n.kind == 10) = false := by simp [h10]
  clear h7 h8 h3 h4 h5 h1 h2 h15 h16 h10
  generalize ns.length = len at *
  go_enter Tryz.func89, Tryz.ntmps89
  go_wp2_with (first | (refine wpList_load_node rfl _ rfl _ _ rfl _ (by repeat (first | apply NodeAt.row | (apply Blk.new'; first | rfl | (simp; done)) | (apply Blk.node; apply Blk.new'; first | rfl | (simp; done)) | assumption | apply NodeAt.alloc)) ?_) | (refine wpList_alloc_node rfl rfl ?_) | (refine wpList_store_node rfl _ _ rfl _ _ _ rfl rfl _ (by repeat (first | (apply Blk.new'; first | rfl | (simp; done)) | assumption | apply Blk.alloc)) ?_))
  (go_ret; exact ⟨ret_int (by rw [HV.out]), (by repeat (first | exact Below.refl _ _ | (refine below_setRow ?_ _ _ ?_; rotate_left; focus (simp; done)) | refine andAlloc ?_ _))⟩)

theorem along_skip_false (A : Option Addr) (ns : List Nd) (c k : Nat) (n : Nd) (w : World) (hl : ns.length ≤ 9223372036854775806) (hseg : Seg w w.heap.size A (ns.flatMap ncs)) (hk : ns[k]? = some n) (hn : n.kind = 7) :
    Calls Tryz.prog 89 #[.slice A ns.length c, .int .i64 (k : Int), .bool false] w fun e w' => e = .returned (.int .i64 (alongP n false)) ∧ Below w.heap.size w w' := by
  obtain ⟨b, off, rfl, hb, hnode⟩ := seg_node hseg hk
  have hkl : k < ns.length := (List.getElem?_eq_some_iff.1 hk).1
  clear hseg hk
  have hv : alongP n false = n.gn := by simp [alongP, hn]
  have HV := Lib.hid hv
  clear hv
  generalize ns.length = len at *
  go_enter Tryz.func89, Tryz.ntmps89
  go_wp2_with (first | (refine wpList_load_node rfl _ rfl _ _ rfl _ (by repeat (first | apply NodeAt.row | (apply Blk.new'; first | rfl | (simp; done)) | (apply Blk.node; apply Blk.new'; first | rfl | (simp; done)) | assumption | apply NodeAt.alloc)) ?_) | (refine wpList_alloc_node rfl rfl ?_) | (refine wpList_store_node rfl _ _ rfl _ _ _ rfl rfl _ (by repeat (first | (apply Blk.new'; first | rfl | (simp; done)) | assumption | apply Blk.alloc)) ?_))
  (go_ret; exact ⟨ret_int (by rw [HV.out]), (by repeat (first | exact Below.refl _ _ | (refine below_setRow ?_ _ _ ?_; rotate_left; focus (simp; done)) | refine andAlloc ?_ _))⟩)

theorem along_kern_false (A : Option Addr) (ns : List Nd) (c k : Nat) (n : Nd) (w : World) (hl : ns.length ≤ 9223372036854775806) (hseg : Seg w w.heap.size A (ns.flatMap ncs)) (hk : ns[k]? = some n) (hn : n.kind = 8) :
    Calls Tryz.prog 89 #[.slice A ns.length c, .int .i64 (k : Int), .bool false] w fun e w' => e = .returned (.int .i64 (alongP n false)) ∧ Below w.heap.size w w' := by
  obtain ⟨b, off, rfl, hb, hnode⟩ := seg_node hseg hk
  have hkl : k < ns.length := (List.getElem?_eq_some_iff.1 hk).1
  clear hseg hk
  have hv : alongP n false = n.wd := by simp [alongP, hn]
  have HV := Lib.hid hv
  clear hv
  generalize ns.length = len at *
  go_enter Tryz.func89, Tryz.ntmps89
  go_wp2_with (first | (refine wpList_load_node rfl _ rfl _ _ rfl _ (by repeat (first | apply NodeAt.row | (apply Blk.new'; first | rfl | (simp; done)) | (apply Blk.node; apply Blk.new'; first | rfl | (simp; done)) | assumption | apply NodeAt.alloc)) ?_) | (refine wpList_alloc_node rfl rfl ?_) | (refine wpList_store_node rfl _ _ rfl _ _ _ rfl rfl _ (by repeat (first | (apply Blk.new'; first | rfl | (simp; done)) | assumption | apply Blk.alloc)) ?_))
  (go_ret; exact ⟨ret_int (by rw [HV.out]), (by repeat (first | exact Below.refl _ _ | (refine below_setRow ?_ _ _ ?_; rotate_left; focus (simp; done)) | refine andAlloc ?_ _))⟩)

theorem along_b3_false (A : Option Addr) (ns : List Nd) (c k : Nat) (n : Nd) (w : World) (hl : ns.length ≤ 9223372036854775806) (hseg : Seg w w.heap.size A (ns.flatMap ncs)) (hk : ns[k]? = some n) (hn : n.kind = 3) (hr : right n = true) :
    Calls Tryz.prog 89 #[.slice A ns.length c, .int .i64 (k : Int), .bool false] w fun e w' => e = .returned (.int .i64 (alongP n false)) ∧ Below w.heap.size w w' := by
  obtain ⟨b, off, rfl, hb, hnode⟩ := seg_node hseg hk
  have hkl : k < ns.length := (List.getElem?_eq_some_iff.1 hk).1
  clear hseg hk
  have hd := right_hd hr (by omega)
  unfold dm at hd
  obtain ⟨⟨d0, d1⟩, d2, d3⟩ := hd
  clear hr
  have hv : alongP n false = n.wd := by simp [alongP, hn]
  have HV := Lib.hid hv
  clear hv
  generalize ns.length = len at *
  go_enter Tryz.func89, Tryz.ntmps89
  go_wp2_with (first | (refine wpList_load_node rfl _ rfl _ _ rfl _ (by repeat (first | apply NodeAt.row | (apply Blk.new'; first | rfl | (simp; done)) | (apply Blk.node; apply Blk.new'; first | rfl | (simp; done)) | assumption | apply NodeAt.alloc)) ?_) | (refine wpList_alloc_node rfl rfl ?_) | (refine wpList_store_node rfl _ _ rfl _ _ _ rfl rfl _ (by repeat (first | (apply Blk.new'; first | rfl | (simp; done)) | assumption | apply Blk.alloc)) ?_))
  (go_ret; exact ⟨ret_int (by rw [HV.out]), (by repeat (first | exact Below.refl _ _ | (refine below_setRow ?_ _ _ ?_; rotate_left; focus (simp; done)) | refine andAlloc ?_ _))⟩)

theorem along_b4_false (A : Option Addr) (ns : List Nd) (c k : Nat) (n : Nd) (w : World) (hl : ns.length ≤ 9223372036854775806) (hseg : Seg w w.heap.size A (ns.flatMap ncs)) (hk : ns[k]? = some n) (hn : n.kind = 4) (hr : right n = true) :
    Calls Tryz.prog 89 #[.slice A ns.length c, .int .i64 (k : Int), .bool false] w fun e w' => e = .returned (.int .i64 (alongP n false)) ∧ Below w.heap.size w w' := by
  obtain ⟨b, off, rfl, hb, hnode⟩ := seg_node hseg hk
  have hkl : k < ns.length := (List.getElem?_eq_some_iff.1 hk).1
  clear hseg hk
  have hd := right_hd hr (by omega)
  unfold dm at hd
  obtain ⟨⟨d0, d1⟩, d2, d3⟩ := hd
  clear hr
  have hv : alongP n false = n.wd := by simp [alongP, hn]
  have HV := Lib.hid hv
  clear hv
  generalize ns.length = len at *
  go_enter Tryz.func89, Tryz.ntmps89
  go_wp2_with (first | (refine wpList_load_node rfl _ rfl _ _ rfl _ (by repeat (first | apply NodeAt.row | (apply Blk.new'; first | rfl | (simp; done)) | (apply Blk.node; apply Blk.new'; first | rfl | (simp; done)) | assumption | apply NodeAt.alloc)) ?_) | (refine wpList_alloc_node rfl rfl ?_) | (refine wpList_store_node rfl _ _ rfl _ _ _ rfl rfl _ (by repeat (first | (apply Blk.new'; first | rfl | (simp; done)) | assumption | apply Blk.alloc)) ?_))
  (go_ret; exact ⟨ret_int (by rw [HV.out]), (by repeat (first | exact Below.refl _ _ | (refine below_setRow ?_ _ _ ?_; rotate_left; focus (simp; done)) | refine andAlloc ?_ _))⟩)

theorem along_b5_false (A : Option Addr) (ns : List Nd) (c k : Nat) (n : Nd) (w : World) (hl : ns.length ≤ 9223372036854775806) (hseg : Seg w w.heap.size A (ns.flatMap ncs)) (hk : ns[k]? = some n) (hn : n.kind = 5) (hr : right n = true) :
    Calls Tryz.prog 89 #[.slice A ns.length c, .int .i64 (k : Int), .bool false] w fun e w' => e = .returned (.int .i64 (alongP n false)) ∧ Below w.heap.size w w' := by
  obtain ⟨b, off, rfl, hb, hnode⟩ := seg_node hseg hk
  have hkl : k < ns.length := (List.getElem?_eq_some_iff.1 hk).1
  clear hseg hk
  have hd := right_hd hr (by omega)
  unfold dm at hd
  obtain ⟨⟨d0, d1⟩, d2, d3⟩ := hd
  clear hr
  have hv : alongP n false = n.wd := by simp [alongP, hn]
  have HV := Lib.hid hv
  clear hv
  generalize ns.length = len at *
  go_enter Tryz.func89, Tryz.ntmps89
  go_wp2_with (first | (refine wpList_load_node rfl _ rfl _ _ rfl _ (by repeat (first | apply NodeAt.row | (apply Blk.new'; first | rfl | (simp; done)) | (apply Blk.node; apply Blk.new'; first | rfl | (simp; done)) | assumption | apply NodeAt.alloc)) ?_) | (refine wpList_alloc_node rfl rfl ?_) | (refine wpList_store_node rfl _ _ rfl _ _ _ rfl rfl _ (by repeat (first | (apply Blk.new'; first | rfl | (simp; done)) | assumption | apply Blk.alloc)) ?_))
  (go_ret; exact ⟨ret_int (by rw [HV.out]), (by repeat (first | exact Below.refl _ _ | (refine below_setRow ?_ _ _ ?_; rotate_left; focus (simp; done)) | refine andAlloc ?_ _))⟩)

theorem along_b1_false (A : Option Addr) (ns : List Nd) (c k : Nat) (n : Nd) (w : World) (hl : ns.length ≤ 9223372036854775806) (hseg : Seg w w.heap.size A (ns.flatMap ncs)) (hk : ns[k]? = some n) (hn : n.kind = 1) :
    Calls Tryz.prog 89 #[.slice A ns.length c, .int .i64 (k : Int), .bool false] w fun e w' => e = .returned (.int .i64 (alongP n false)) ∧ Below w.heap.size w w' := by
  obtain ⟨b, off, rfl, hb, hnode⟩ := seg_node hseg hk
  have hkl : k < ns.length := (List.getElem?_eq_some_iff.1 hk).1
  clear hseg hk
  have hv : alongP n false = n.wd := by simp [alongP, hn]
  have HV := Lib.hid hv
  clear hv
  generalize ns.length = len at *
  go_enter Tryz.func89, Tryz.ntmps89
  go_wp2_with (first | (refine wpList_load_node rfl _ rfl _ _ rfl _ (by repeat (first | apply NodeAt.row | (apply Blk.new'; first | rfl | (simp; done)) | (apply Blk.node; apply Blk.new'; first | rfl | (simp; done)) | assumption | apply NodeAt.alloc)) ?_) | (refine wpList_alloc_node rfl rfl ?_) | (refine wpList_store_node rfl _ _ rfl _ _ _ rfl rfl _ (by repeat (first | (apply Blk.new'; first | rfl | (simp; done)) | assumption | apply Blk.alloc)) ?_))
  (go_ret; exact ⟨ret_int (by rw [HV.out]), (by repeat (first | exact Below.refl _ _ | (refine below_setRow ?_ _ _ ?_; rotate_left; focus (simp; done)) | refine andAlloc ?_ _))⟩)

theorem along_b2_false (A : Option Addr) (ns : List Nd) (c k : Nat) (n : Nd) (w : World) (hl : ns.length ≤ 9223372036854775806) (hseg : Seg w w.heap.size A (ns.flatMap ncs)) (hk : ns[k]? = some n) (hn : n.kind = 2) :
    Calls Tryz.prog 89 #[.slice A ns.length c, .int .i64 (k : Int), .bool false] w fun e w' => e = .returned (.int .i64 (alongP n false)) ∧ Below w.heap.size w w' := by
  obtain ⟨b, off, rfl, hb, hnode⟩ := seg_node hseg hk
  have hkl : k < ns.length := (List.getElem?_eq_some_iff.1 hk).1
  clear hseg hk
  have hv : alongP n false = n.wd := by simp [alongP, hn]
  have HV := Lib.hid hv
  clear hv
  generalize ns.length = len at *
  go_enter Tryz.func89, Tryz.ntmps89
  go_wp2_with (first | (refine wpList_load_node rfl _ rfl _ _ rfl _ (by repeat (first | apply NodeAt.row | (apply Blk.new'; first | rfl | (simp; done)) | (apply Blk.node; apply Blk.new'; first | rfl | (simp; done)) | assumption | apply NodeAt.alloc)) ?_) | (refine wpList_alloc_node rfl rfl ?_) | (refine wpList_store_node rfl _ _ rfl _ _ _ rfl rfl _ (by repeat (first | (apply Blk.new'; first | rfl | (simp; done)) | assumption | apply Blk.alloc)) ?_))
  (go_ret; exact ⟨ret_int (by rw [HV.out]), (by repeat (first | exact Below.refl _ _ | (refine below_setRow ?_ _ _ ?_; rotate_left; focus (simp; done)) | refine andAlloc ?_ _))⟩)

theorem along_b15_false (A : Option Addr) (ns : List Nd) (c k : Nat) (n : Nd) (w : World) (hl : ns.length ≤ 9223372036854775806) (hseg : Seg w w.heap.size A (ns.flatMap ncs)) (hk : ns[k]? = some n) (hn : n.kind = 15) :
    Calls Tryz.prog 89 #[.slice A ns.length c, .int .i64 (k : Int), .bool false] w fun e w' => e = .returned (.int .i64 (alongP n false)) ∧ Below w.heap.size w w' := by
  obtain ⟨b, off, rfl, hb, hnode⟩ := seg_node hseg hk
  have hkl : k < ns.length := (List.getElem?_eq_some_iff.1 hk).1
  clear hseg hk
  have hv : alongP n false = n.wd := by simp [alongP, hn]
  have HV := Lib.hid hv
  clear hv
  generalize ns.length = len at *
  go_enter Tryz.func89, Tryz.ntmps89
  go_wp2_with (first | (refine wpList_load_node rfl _ rfl _ _ rfl _ (by repeat (first | apply NodeAt.row | (apply Blk.new'; first | rfl | (simp; done)) | (apply Blk.node; apply Blk.new'; first | rfl | (simp; done)) | assumption | apply NodeAt.alloc)) ?_) | (refine wpList_alloc_node rfl rfl ?_) | (refine wpList_store_node rfl _ _ rfl _ _ _ rfl rfl _ (by repeat (first | (apply Blk.new'; first | rfl | (simp; done)) | assumption | apply Blk.alloc)) ?_))
  (go_ret; exact ⟨ret_int (by rw [HV.out]), (by repeat (first | exact Below.refl _ _ | (refine below_setRow ?_ _ _ ?_; rotate_left; focus (simp; done)) | refine andAlloc ?_ _))⟩)

theorem along_b16_false (A : Option Addr) (ns : List Nd) (c k : Nat) (n : Nd) (w : World) (hl : ns.length ≤ 9223372036854775806) (hseg : Seg w w.heap.size A (ns.flatMap ncs)) (hk : ns[k]? = some n) (hn : n.kind = 16) :
    Calls Tryz.prog 89 #[.slice A ns.length c, .int .i64 (k : Int), .bool false] w fun e w' => e = .returned (.int .i64 (alongP n false)) ∧ Below w.heap.size w w' := by
  obtain ⟨b, off, rfl, hb, hnode⟩ := seg_node hseg hk
  have hkl : k < ns.length := (List.getElem?_eq_some_iff.1 hk).1
  clear hseg hk
  have hv : alongP n false = n.wd := by simp [alongP, hn]
  have HV := Lib.hid hv
  clear hv
  generalize ns.length = len at *
  go_enter Tryz.func89, Tryz.ntmps89
  go_wp2_with (first | (refine wpList_load_node rfl _ rfl _ _ rfl _ (by repeat (first | apply NodeAt.row | (apply Blk.new'; first | rfl | (simp; done)) | (apply Blk.node; apply Blk.new'; first | rfl | (simp; done)) | assumption | apply NodeAt.alloc)) ?_) | (refine wpList_alloc_node rfl rfl ?_) | (refine wpList_store_node rfl _ _ rfl _ _ _ rfl rfl _ (by repeat (first | (apply Blk.new'; first | rfl | (simp; done)) | assumption | apply Blk.alloc)) ?_))
  (go_ret; exact ⟨ret_int (by rw [HV.out]), (by repeat (first | exact Below.refl _ _ | (refine below_setRow ?_ _ _ ?_; rotate_left; focus (simp; done)) | refine andAlloc ?_ _))⟩)

theorem along_other_false (A : Option Addr) (ns : List Nd) (c k : Nat) (n : Nd) (w : World) (hl : ns.length ≤ 9223372036854775806) (hseg : Seg w w.heap.size A (ns.flatMap ncs)) (hk : ns[k]? = some n) (h7 : ¬ n.kind = 7) (h8 : ¬ n.kind = 8) (h3 : ¬ n.kind = 3) (h4 : ¬ n.kind = 4) (h5 : ¬ n.kind = 5) (h1 : ¬ n.kind = 1) (h2 : ¬ n.kind = 2) (h15 : ¬ n.kind = 15) (h16 : ¬ n.kind = 16) (h10 : ¬ n.kind = 10) :
    Calls Tryz.prog 89 #[.slice A ns.length c, .int .i64 (k : Int), .bool false] w fun e w' => e = .returned (.int .i64 (alongP n false)) ∧ Below w.heap.size w w' := by
  obtain ⟨b, off, rfl, hb, hnode⟩ := seg_node hseg hk
  have hkl : k < ns.length := (List.getElem?_eq_some_iff.1 hk).1
  clear hseg hk
  have hv : alongP n false = 0 := by simp [alongP, h7, h8, h3, h4, h5, h1, h2, h15, h16]
  have HV := Lib.hid hv
  clear hv
  have e7 : (n.kind == 7) = false := by simp [h7]
  have e8 : (n.kind == 8) = false := by simp [h8]
  have e3 : (n.kind == 3) = false := by simp [h3]
  have e4 : (n.kind == 4) = false := by simp [h4]
  have e5 : (n.kind == 5) = false := by simp [h5]
  have e1 : (n.kind == 1) = false := by simp [h1]
  have e2 : (n.kind == 2) = false := by simp [h2]
  have e15 : (n.kind == 15) = false := by simp [h15]
  have e16 : (n.kind == 16) = false := by simp [h16]
  have e10 : (n.kind == 10) = false := by simp [h10]
  clear h7 h8 h3 h4 h5 h1 h2 h15 h16 h10
  generalize ns.length = len at *
  go_enter Tryz.func89, Tryz.ntmps89
  go_wp2_with (first | (refine wpList_load_node rfl _ rfl _ _ rfl _ (by repeat (first | apply NodeAt.row | (apply Blk.new'; first | rfl | (simp; done)) | (apply Blk.node; apply Blk.new'; first | rfl | (simp; done)) | assumption | apply NodeAt.alloc)) ?_) | (refine wpList_alloc_node rfl rfl ?_) | (refine wpList_store_node rfl _ _ rfl _ _ _ rfl rfl _ (by repeat (first | (apply Blk.new'; first | rfl | (simp; done)) | assumption | apply Blk.alloc)) ?_))
  (go_ret; exact ⟨ret_int (by rw [HV.out]), (by repeat (first | exact Below.refl _ _ | (refine below_setRow ?_ _ _ ?_; rotate_left; focus (simp; done)) | refine andAlloc ?_ _))⟩)

theorem along_any (A : Option Addr) (ns : List Nd) (c k : Nat) (n : Nd) (down : Bool) (w : World) (hl : ns.length ≤ 9223372036854775806) (hseg : Seg w w.heap.size A (ns.flatMap ncs)) (hk : ns[k]? = some n) (hr : right n = true) (hd : down = true ∨ ¬ n.kind = 10) :
    Calls Tryz.prog 89 #[.slice A ns.length c, .int .i64 (k : Int), .bool down] w fun e w' => e = .returned (.int .i64 (alongP n down)) ∧ Below w.heap.size w w' := by
  cases down
  · have hd : ¬ n.kind = 10 := by
      rcases hd with h | h
      · cases h
      · exact h
    by_cases h7 : n.kind = 7
    · exact along_skip_false A ns c k n w hl hseg hk h7
    by_cases h8 : n.kind = 8
    · exact along_kern_false A ns c k n w hl hseg hk h8
    by_cases h3 : n.kind = 3
    · exact along_b3_false A ns c k n w hl hseg hk h3 hr
    by_cases h4 : n.kind = 4
    · exact along_b4_false A ns c k n w hl hseg hk h4 hr
    by_cases h5 : n.kind = 5
    · exact along_b5_false A ns c k n w hl hseg hk h5 hr
    by_cases h1 : n.kind = 1
    · exact along_b1_false A ns c k n w hl hseg hk h1
    by_cases h2 : n.kind = 2
    · exact along_b2_false A ns c k n w hl hseg hk h2
    by_cases h15 : n.kind = 15
    · exact along_b15_false A ns c k n w hl hseg hk h15
    by_cases h16 : n.kind = 16
    · exact along_b16_false A ns c k n w hl hseg hk h16
    exact along_other_false A ns c k n w hl hseg hk h7 h8 h3 h4 h5 h1 h2 h15 h16 hd
  · by_cases h10 : n.kind = 10
    · exact along_disc_true A ns c k n w hl hseg hk h10
    by_cases h7 : n.kind = 7
    · exact along_skip_true A ns c k n w hl hseg hk h7
    by_cases h8 : n.kind = 8
    · exact along_kern_true A ns c k n w hl hseg hk h8
    by_cases h3 : n.kind = 3
    · exact along_b3_true A ns c k n w hl hseg hk h3 hr
    by_cases h4 : n.kind = 4
    · exact along_b4_true A ns c k n w hl hseg hk h4 hr
    by_cases h5 : n.kind = 5
    · exact along_b5_true A ns c k n w hl hseg hk h5 hr
    by_cases h1 : n.kind = 1
    · exact along_b1_true A ns c k n w hl hseg hk h1
    by_cases h2 : n.kind = 2
    · exact along_b2_true A ns c k n w hl hseg hk h2
    by_cases h15 : n.kind = 15
    · exact along_b15_true A ns c k n w hl hseg hk h15
    by_cases h16 : n.kind = 16
    · exact along_b16_true A ns c k n w hl hseg hk h16
    exact along_other_true A ns c k n w hl hseg hk h7 h8 h3 h4 h5 h1 h2 h15 h16 h10
end Go.Proofs.YtmcekdjhkjhcdaaGreatDoor.No

import Derived.Test.YtoboecenlangmaaGreatDoorMs1
import Derived.Test.YtoboecenlangmaaGreatDoorGlueJz
import Derived.Test.YtoboecenlangmaaGreatDoorRows
import Derived.Test.YtoboecenlangmaaGreatDoorMem
import Derived.WalkKit
import Derived.ProofKit
import Derived.OpenShut
import Derived.WalkSpells
import Derived.WalkLawsBesides
import Derived.Outline
import Derived.Lib.Hide
import Derived.Deep.DeepCutAuto
import Derived.Deep.QuietTactic
import Derived.BigQuiet
import Derived.Handy
import Derived.Test.YtoboecenlangmaaGreatDoorScN
import Derived.Test.YtoboecenlangmaaGreatDoorScM
import Derived.Test.YtoboecenlangmaaGreatDoorScR3
import Derived.Laws.Runes
import Derived.SizedLaws
import Derived.Carry
import Derived.Deep.Slices
import Derived.KernelRfl
import Derived.Test.YtoboecenlangmaaGreatDoorCard
/- PackReports: every Report is the document's. No conditions. (printed by gen_card.py) -/
section
namespace Go.Proofs.YtoboecenlangmaaGreatDoor.Pk
open Go.ChangeShapes Go.WideShapes Go.ChangeAt Go.RowKit
open Me Np No
set_option linter.unusedVariables false
set_option linter.unusedSimpArgs false

/-- How long a node is that is neither a Disc nor a Skip. -/
def szP (n : Nd) (down : Bool) : Int := if n.kind = 7 then 0 else alongP n down

theorem size_kern_true (A : Option Addr) (ns : List Nd) (c k : Nat) (n : Nd) (w : World) (hl : ns.length ≤ 9223372036854775806) (hseg : Seg w w.heap.size A (ns.flatMap ncs)) (hk : ns[k]? = some n) (hn : n.kind = 8) :
    Calls Tryz.prog 47 #[.slice A ns.length c, .int .i64 (k : Int), .bool true] w fun e w' => e = .returned (.int .i64 (szP n true)) ∧ Below w.heap.size w w' := by
  obtain ⟨b, off, rfl, hb, hnode⟩ := seg_node hseg hk
  have hkl : k < ns.length := (List.getElem?_eq_some_iff.1 hk).1
  clear hseg hk
  have hv : szP n true = n.wd := by simp [szP, alongP, hn]
  have HV := Lib.hid hv
  clear hv
  generalize ns.length = len at *
  go_enter Tryz.func47, Tryz.ntmps47
  go_wp2_with (first | (refine wpList_load_node rfl _ rfl _ _ rfl _ (by repeat (first | apply NodeAt.row | (apply Blk.new'; first | rfl | (simp; done)) | (apply Blk.node; apply Blk.new'; first | rfl | (simp; done)) | assumption | apply NodeAt.alloc)) ?_) | (refine wpList_alloc_node rfl rfl ?_) | (refine wpList_store_node rfl _ _ rfl _ _ _ rfl rfl _ (by repeat (first | (apply Blk.new'; first | rfl | (simp; done)) | assumption | apply Blk.alloc)) ?_))
  (go_ret; exact ⟨ret_int (by rw [HV.out]), (by repeat (first | exact Below.refl _ _ | (refine below_setRow ?_ _ _ ?_; rotate_left; focus (simp; done)) | refine andAlloc ?_ _))⟩)

theorem size_b3_true (A : Option Addr) (ns : List Nd) (c k : Nat) (n : Nd) (w : World) (hl : ns.length ≤ 9223372036854775806) (hseg : Seg w w.heap.size A (ns.flatMap ncs)) (hk : ns[k]? = some n) (hn : n.kind = 3) (hr : right n = true) :
    Calls Tryz.prog 47 #[.slice A ns.length c, .int .i64 (k : Int), .bool true] w fun e w' => e = .returned (.int .i64 (szP n true)) ∧ Below w.heap.size w w' := by
  obtain ⟨b, off, rfl, hb, hnode⟩ := seg_node hseg hk
  have hkl : k < ns.length := (List.getElem?_eq_some_iff.1 hk).1
  clear hseg hk
  have hd := right_hd hr (by omega)
  unfold dm at hd
  obtain ⟨⟨d0, d1⟩, d2, d3⟩ := hd
  clear hr
  have hv : szP n true = n.ht + n.dp := by simp [szP, alongP, hn]
  have HV := Lib.hid hv
  clear hv
  generalize ns.length = len at *
  go_enter Tryz.func47, Tryz.ntmps47
  go_wp2_with (first | (refine wpList_load_node rfl _ rfl _ _ rfl _ (by repeat (first | apply NodeAt.row | (apply Blk.new'; first | rfl | (simp; done)) | (apply Blk.node; apply Blk.new'; first | rfl | (simp; done)) | assumption | apply NodeAt.alloc)) ?_) | (refine wpList_alloc_node rfl rfl ?_) | (refine wpList_store_node rfl _ _ rfl _ _ _ rfl rfl _ (by repeat (first | (apply Blk.new'; first | rfl | (simp; done)) | assumption | apply Blk.alloc)) ?_))
  (go_ret; exact ⟨ret_int (by rw [HV.out]), (by repeat (first | exact Below.refl _ _ | (refine below_setRow ?_ _ _ ?_; rotate_left; focus (simp; done)) | refine andAlloc ?_ _))⟩)

theorem size_b4_true (A : Option Addr) (ns : List Nd) (c k : Nat) (n : Nd) (w : World) (hl : ns.length ≤ 9223372036854775806) (hseg : Seg w w.heap.size A (ns.flatMap ncs)) (hk : ns[k]? = some n) (hn : n.kind = 4) (hr : right n = true) :
    Calls Tryz.prog 47 #[.slice A ns.length c, .int .i64 (k : Int), .bool true] w fun e w' => e = .returned (.int .i64 (szP n true)) ∧ Below w.heap.size w w' := by
  obtain ⟨b, off, rfl, hb, hnode⟩ := seg_node hseg hk
  have hkl : k < ns.length := (List.getElem?_eq_some_iff.1 hk).1
  clear hseg hk
  have hd := right_hd hr (by omega)
  unfold dm at hd
  obtain ⟨⟨d0, d1⟩, d2, d3⟩ := hd
  clear hr
  have hv : szP n true = n.ht + n.dp := by simp [szP, alongP, hn]
  have HV := Lib.hid hv
  clear hv
  generalize ns.length = len at *
  go_enter Tryz.func47, Tryz.ntmps47
  go_wp2_with (first | (refine wpList_load_node rfl _ rfl _ _ rfl _ (by repeat (first | apply NodeAt.row | (apply Blk.new'; first | rfl | (simp; done)) | (apply Blk.node; apply Blk.new'; first | rfl | (simp; done)) | assumption | apply NodeAt.alloc)) ?_) | (refine wpList_alloc_node rfl rfl ?_) | (refine wpList_store_node rfl _ _ rfl _ _ _ rfl rfl _ (by repeat (first | (apply Blk.new'; first | rfl | (simp; done)) | assumption | apply Blk.alloc)) ?_))
  (go_ret; exact ⟨ret_int (by rw [HV.out]), (by repeat (first | exact Below.refl _ _ | (refine below_setRow ?_ _ _ ?_; rotate_left; focus (simp; done)) | refine andAlloc ?_ _))⟩)

theorem size_b5_true (A : Option Addr) (ns : List Nd) (c k : Nat) (n : Nd) (w : World) (hl : ns.length ≤ 9223372036854775806) (hseg : Seg w w.heap.size A (ns.flatMap ncs)) (hk : ns[k]? = some n) (hn : n.kind = 5) (hr : right n = true) :
    Calls Tryz.prog 47 #[.slice A ns.length c, .int .i64 (k : Int), .bool true] w fun e w' => e = .returned (.int .i64 (szP n true)) ∧ Below w.heap.size w w' := by
  obtain ⟨b, off, rfl, hb, hnode⟩ := seg_node hseg hk
  have hkl : k < ns.length := (List.getElem?_eq_some_iff.1 hk).1
  clear hseg hk
  have hd := right_hd hr (by omega)
  unfold dm at hd
  obtain ⟨⟨d0, d1⟩, d2, d3⟩ := hd
  clear hr
  have hv : szP n true = n.ht + n.dp := by simp [szP, alongP, hn]
  have HV := Lib.hid hv
  clear hv
  generalize ns.length = len at *
  go_enter Tryz.func47, Tryz.ntmps47
  go_wp2_with (first | (refine wpList_load_node rfl _ rfl _ _ rfl _ (by repeat (first | apply NodeAt.row | (apply Blk.new'; first | rfl | (simp; done)) | (apply Blk.node; apply Blk.new'; first | rfl | (simp; done)) | assumption | apply NodeAt.alloc)) ?_) | (refine wpList_alloc_node rfl rfl ?_) | (refine wpList_store_node rfl _ _ rfl _ _ _ rfl rfl _ (by repeat (first | (apply Blk.new'; first | rfl | (simp; done)) | assumption | apply Blk.alloc)) ?_))
  (go_ret; exact ⟨ret_int (by rw [HV.out]), (by repeat (first | exact Below.refl _ _ | (refine below_setRow ?_ _ _ ?_; rotate_left; focus (simp; done)) | refine andAlloc ?_ _))⟩)

theorem size_b1_true (A : Option Addr) (ns : List Nd) (c k : Nat) (n : Nd) (w : World) (hl : ns.length ≤ 9223372036854775806) (hseg : Seg w w.heap.size A (ns.flatMap ncs)) (hk : ns[k]? = some n) (hn : n.kind = 1) :
    Calls Tryz.prog 47 #[.slice A ns.length c, .int .i64 (k : Int), .bool true] w fun e w' => e = .returned (.int .i64 (szP n true)) ∧ Below w.heap.size w w' := by
  obtain ⟨b, off, rfl, hb, hnode⟩ := seg_node hseg hk
  have hkl : k < ns.length := (List.getElem?_eq_some_iff.1 hk).1
  clear hseg hk
  have hv : szP n true = 0 := by simp [szP, alongP, hn]
  have HV := Lib.hid hv
  clear hv
  generalize ns.length = len at *
  go_enter Tryz.func47, Tryz.ntmps47
  go_wp2_with (first | (refine wpList_load_node rfl _ rfl _ _ rfl _ (by repeat (first | apply NodeAt.row | (apply Blk.new'; first | rfl | (simp; done)) | (apply Blk.node; apply Blk.new'; first | rfl | (simp; done)) | assumption | apply NodeAt.alloc)) ?_) | (refine wpList_alloc_node rfl rfl ?_) | (refine wpList_store_node rfl _ _ rfl _ _ _ rfl rfl _ (by repeat (first | (apply Blk.new'; first | rfl | (simp; done)) | assumption | apply Blk.alloc)) ?_))
  (go_ret; exact ⟨ret_int (by rw [HV.out]), (by repeat (first | exact Below.refl _ _ | (refine below_setRow ?_ _ _ ?_; rotate_left; focus (simp; done)) | refine andAlloc ?_ _))⟩)

theorem size_b2_true (A : Option Addr) (ns : List Nd) (c k : Nat) (n : Nd) (w : World) (hl : ns.length ≤ 9223372036854775806) (hseg : Seg w w.heap.size A (ns.flatMap ncs)) (hk : ns[k]? = some n) (hn : n.kind = 2) :
    Calls Tryz.prog 47 #[.slice A ns.length c, .int .i64 (k : Int), .bool true] w fun e w' => e = .returned (.int .i64 (szP n true)) ∧ Below w.heap.size w w' := by
  obtain ⟨b, off, rfl, hb, hnode⟩ := seg_node hseg hk
  have hkl : k < ns.length := (List.getElem?_eq_some_iff.1 hk).1
  clear hseg hk
  have hv : szP n true = 0 := by simp [szP, alongP, hn]
  have HV := Lib.hid hv
  clear hv
  generalize ns.length = len at *
  go_enter Tryz.func47, Tryz.ntmps47
  go_wp2_with (first | (refine wpList_load_node rfl _ rfl _ _ rfl _ (by repeat (first | apply NodeAt.row | (apply Blk.new'; first | rfl | (simp; done)) | (apply Blk.node; apply Blk.new'; first | rfl | (simp; done)) | assumption | apply NodeAt.alloc)) ?_) | (refine wpList_alloc_node rfl rfl ?_) | (refine wpList_store_node rfl _ _ rfl _ _ _ rfl rfl _ (by repeat (first | (apply Blk.new'; first | rfl | (simp; done)) | assumption | apply Blk.alloc)) ?_))
  (go_ret; exact ⟨ret_int (by rw [HV.out]), (by repeat (first | exact Below.refl _ _ | (refine below_setRow ?_ _ _ ?_; rotate_left; focus (simp; done)) | refine andAlloc ?_ _))⟩)

theorem size_b15_true (A : Option Addr) (ns : List Nd) (c k : Nat) (n : Nd) (w : World) (hl : ns.length ≤ 9223372036854775806) (hseg : Seg w w.heap.size A (ns.flatMap ncs)) (hk : ns[k]? = some n) (hn : n.kind = 15) :
    Calls Tryz.prog 47 #[.slice A ns.length c, .int .i64 (k : Int), .bool true] w fun e w' => e = .returned (.int .i64 (szP n true)) ∧ Below w.heap.size w w' := by
  obtain ⟨b, off, rfl, hb, hnode⟩ := seg_node hseg hk
  have hkl : k < ns.length := (List.getElem?_eq_some_iff.1 hk).1
  clear hseg hk
  have hv : szP n true = 0 := by simp [szP, alongP, hn]
  have HV := Lib.hid hv
  clear hv
  generalize ns.length = len at *
  go_enter Tryz.func47, Tryz.ntmps47
  go_wp2_with (first | (refine wpList_load_node rfl _ rfl _ _ rfl _ (by repeat (first | apply NodeAt.row | (apply Blk.new'; first | rfl | (simp; done)) | (apply Blk.node; apply Blk.new'; first | rfl | (simp; done)) | assumption | apply NodeAt.alloc)) ?_) | (refine wpList_alloc_node rfl rfl ?_) | (refine wpList_store_node rfl _ _ rfl _ _ _ rfl rfl _ (by repeat (first | (apply Blk.new'; first | rfl | (simp; done)) | assumption | apply Blk.alloc)) ?_))
  (go_ret; exact ⟨ret_int (by rw [HV.out]), (by repeat (first | exact Below.refl _ _ | (refine below_setRow ?_ _ _ ?_; rotate_left; focus (simp; done)) | refine andAlloc ?_ _))⟩)

theorem size_b16_true (A : Option Addr) (ns : List Nd) (c k : Nat) (n : Nd) (w : World) (hl : ns.length ≤ 9223372036854775806) (hseg : Seg w w.heap.size A (ns.flatMap ncs)) (hk : ns[k]? = some n) (hn : n.kind = 16) :
    Calls Tryz.prog 47 #[.slice A ns.length c, .int .i64 (k : Int), .bool true] w fun e w' => e = .returned (.int .i64 (szP n true)) ∧ Below w.heap.size w w' := by
  obtain ⟨b, off, rfl, hb, hnode⟩ := seg_node hseg hk
  have hkl : k < ns.length := (List.getElem?_eq_some_iff.1 hk).1
  clear hseg hk
  have hv : szP n true = 0 := by simp [szP, alongP, hn]
  have HV := Lib.hid hv
  clear hv
  generalize ns.length = len at *
  go_enter Tryz.func47, Tryz.ntmps47
  go_wp2_with (first | (refine wpList_load_node rfl _ rfl _ _ rfl _ (by repeat (first | apply NodeAt.row | (apply Blk.new'; first | rfl | (simp; done)) | (apply Blk.node; apply Blk.new'; first | rfl | (simp; done)) | assumption | apply NodeAt.alloc)) ?_) | (refine wpList_alloc_node rfl rfl ?_) | (refine wpList_store_node rfl _ _ rfl _ _ _ rfl rfl _ (by repeat (first | (apply Blk.new'; first | rfl | (simp; done)) | assumption | apply Blk.alloc)) ?_))
  (go_ret; exact ⟨ret_int (by rw [HV.out]), (by repeat (first | exact Below.refl _ _ | (refine below_setRow ?_ _ _ ?_; rotate_left; focus (simp; done)) | refine andAlloc ?_ _))⟩)

theorem size_disc_true (A : Option Addr) (ns : List Nd) (c k : Nat) (n : Nd) (w : World) (hl : ns.length ≤ 9223372036854775806) (hseg : Seg w w.heap.size A (ns.flatMap ncs)) (hk : ns[k]? = some n) (hn : n.kind = 10) :
    Calls Tryz.prog 47 #[.slice A ns.length c, .int .i64 (k : Int), .bool true] w fun e w' => e = .returned (.int .i64 (szP n true)) ∧ Below w.heap.size w w' := by
  obtain ⟨b, off, rfl, hb, hnode⟩ := seg_node hseg hk
  have hkl : k < ns.length := (List.getElem?_eq_some_iff.1 hk).1
  clear hseg hk
  have hv : szP n true = 0 := by simp [szP, alongP, hn]
  have HV := Lib.hid hv
  clear hv
  generalize ns.length = len at *
  go_enter Tryz.func47, Tryz.ntmps47
  go_wp2_with (first | (refine wpList_load_node rfl _ rfl _ _ rfl _ (by repeat (first | apply NodeAt.row | (apply Blk.new'; first | rfl | (simp; done)) | (apply Blk.node; apply Blk.new'; first | rfl | (simp; done)) | assumption | apply NodeAt.alloc)) ?_) | (refine wpList_alloc_node rfl rfl ?_) | (refine wpList_store_node rfl _ _ rfl _ _ _ rfl rfl _ (by repeat (first | (apply Blk.new'; first | rfl | (simp; done)) | assumption | apply Blk.alloc)) ?_))
  (go_ret; exact ⟨ret_int (by rw [HV.out]), (by repeat (first | exact Below.refl _ _ | (refine below_setRow ?_ _ _ ?_; rotate_left; focus (simp; done)) | refine andAlloc ?_ _))⟩)

theorem size_other_true (A : Option Addr) (ns : List Nd) (c k : Nat) (n : Nd) (w : World) (hl : ns.length ≤ 9223372036854775806) (hseg : Seg w w.heap.size A (ns.flatMap ncs)) (hk : ns[k]? = some n) (h8 : ¬ n.kind = 8) (h3 : ¬ n.kind = 3) (h4 : ¬ n.kind = 4) (h5 : ¬ n.kind = 5) (h1 : ¬ n.kind = 1) (h2 : ¬ n.kind = 2) (h15 : ¬ n.kind = 15) (h16 : ¬ n.kind = 16) (h10 : ¬ n.kind = 10) :
    Calls Tryz.prog 47 #[.slice A ns.length c, .int .i64 (k : Int), .bool true] w fun e w' => e = .returned (.int .i64 (szP n true)) ∧ Below w.heap.size w w' := by
  obtain ⟨b, off, rfl, hb, hnode⟩ := seg_node hseg hk
  have hkl : k < ns.length := (List.getElem?_eq_some_iff.1 hk).1
  clear hseg hk
  have hv : szP n true = 0 := by
    unfold szP
    split
    · rfl
    · rename_i h7
      simp [alongP, h7, h8, h3, h4, h5, h1, h2, h15, h16]
  have HV := Lib.hid hv
  clear hv
  have e8 : (n.kind == 8) = false := by simp [h8]
  have e3 : (n.kind == 3) = false := by simp [h3]
  have e4 : (n.kind == 4) = false := by simp [h4]
  have e5 : (n.kind == 5) = false := by simp [h5]
  have e1 : (n.kind == 1) = false := by simp [h1]
  have e2 : (n.kind == 2) = false := by simp [h2]
  have e15 : (n.kind == 15) = false := by simp [h15]
  have e16 : (n.kind == 16) = false := by simp [h16]
  have e10 : (n.kind == 10) = false := by simp [h10]
  clear h8 h3 h4 h5 h1 h2 h15 h16 h10
  generalize ns.length = len at *
  go_enter Tryz.func47, Tryz.ntmps47
  go_wp2_with (first | (refine wpList_load_node rfl _ rfl _ _ rfl _ (by repeat (first | apply NodeAt.row | (apply Blk.new'; first | rfl | (simp; done)) | (apply Blk.node; apply Blk.new'; first | rfl | (simp; done)) | assumption | apply NodeAt.alloc)) ?_) | (refine wpList_alloc_node rfl rfl ?_) | (refine wpList_store_node rfl _ _ rfl _ _ _ rfl rfl _ (by repeat (first | (apply Blk.new'; first | rfl | (simp; done)) | assumption | apply Blk.alloc)) ?_))
  (go_ret; exact ⟨ret_int (by rw [HV.out]), (by repeat (first | exact Below.refl _ _ | (refine below_setRow ?_ _ _ ?_; rotate_left; focus (simp; done)) | refine andAlloc ?_ _))⟩)

theorem size_kern_false (A : Option Addr) (ns : List Nd) (c k : Nat) (n : Nd) (w : World) (hl : ns.length ≤ 9223372036854775806) (hseg : Seg w w.heap.size A (ns.flatMap ncs)) (hk : ns[k]? = some n) (hn : n.kind = 8) :
    Calls Tryz.prog 47 #[.slice A ns.length c, .int .i64 (k : Int), .bool false] w fun e w' => e = .returned (.int .i64 (szP n false)) ∧ Below w.heap.size w w' := by
  obtain ⟨b, off, rfl, hb, hnode⟩ := seg_node hseg hk
  have hkl : k < ns.length := (List.getElem?_eq_some_iff.1 hk).1
  clear hseg hk
  have hv : szP n false = n.wd := by simp [szP, alongP, hn]
  have HV := Lib.hid hv
  clear hv
  generalize ns.length = len at *
  go_enter Tryz.func47, Tryz.ntmps47
  go_wp2_with (first | (refine wpList_load_node rfl _ rfl _ _ rfl _ (by repeat (first | apply NodeAt.row | (apply Blk.new'; first | rfl | (simp; done)) | (apply Blk.node; apply Blk.new'; first | rfl | (simp; done)) | assumption | apply NodeAt.alloc)) ?_) | (refine wpList_alloc_node rfl rfl ?_) | (refine wpList_store_node rfl _ _ rfl _ _ _ rfl rfl _ (by repeat (first | (apply Blk.new'; first | rfl | (simp; done)) | assumption | apply Blk.alloc)) ?_))
  (go_ret; exact ⟨ret_int (by rw [HV.out]), (by repeat (first | exact Below.refl _ _ | (refine below_setRow ?_ _ _ ?_; rotate_left; focus (simp; done)) | refine andAlloc ?_ _))⟩)

theorem size_b3_false (A : Option Addr) (ns : List Nd) (c k : Nat) (n : Nd) (w : World) (hl : ns.length ≤ 9223372036854775806) (hseg : Seg w w.heap.size A (ns.flatMap ncs)) (hk : ns[k]? = some n) (hn : n.kind = 3) (hr : right n = true) :
    Calls Tryz.prog 47 #[.slice A ns.length c, .int .i64 (k : Int), .bool false] w fun e w' => e = .returned (.int .i64 (szP n false)) ∧ Below w.heap.size w w' := by
  obtain ⟨b, off, rfl, hb, hnode⟩ := seg_node hseg hk
  have hkl : k < ns.length := (List.getElem?_eq_some_iff.1 hk).1
  clear hseg hk
  have hd := right_hd hr (by omega)
  unfold dm at hd
  obtain ⟨⟨d0, d1⟩, d2, d3⟩ := hd
  clear hr
  have hv : szP n false = n.wd := by simp [szP, alongP, hn]
  have HV := Lib.hid hv
  clear hv
  generalize ns.length = len at *
  go_enter Tryz.func47, Tryz.ntmps47
  go_wp2_with (first | (refine wpList_load_node rfl _ rfl _ _ rfl _ (by repeat (first | apply NodeAt.row | (apply Blk.new'; first | rfl | (simp; done)) | (apply Blk.node; apply Blk.new'; first | rfl | (simp; done)) | assumption | apply NodeAt.alloc)) ?_) | (refine wpList_alloc_node rfl rfl ?_) | (refine wpList_store_node rfl _ _ rfl _ _ _ rfl rfl _ (by repeat (first | (apply Blk.new'; first | rfl | (simp; done)) | assumption | apply Blk.alloc)) ?_))
  (go_ret; exact ⟨ret_int (by rw [HV.out]), (by repeat (first | exact Below.refl _ _ | (refine below_setRow ?_ _ _ ?_; rotate_left; focus (simp; done)) | refine andAlloc ?_ _))⟩)

theorem size_b4_false (A : Option Addr) (ns : List Nd) (c k : Nat) (n : Nd) (w : World) (hl : ns.length ≤ 9223372036854775806) (hseg : Seg w w.heap.size A (ns.flatMap ncs)) (hk : ns[k]? = some n) (hn : n.kind = 4) (hr : right n = true) :
    Calls Tryz.prog 47 #[.slice A ns.length c, .int .i64 (k : Int), .bool false] w fun e w' => e = .returned (.int .i64 (szP n false)) ∧ Below w.heap.size w w' := by
  obtain ⟨b, off, rfl, hb, hnode⟩ := seg_node hseg hk
  have hkl : k < ns.length := (List.getElem?_eq_some_iff.1 hk).1
  clear hseg hk
  have hd := right_hd hr (by omega)
  unfold dm at hd
  obtain ⟨⟨d0, d1⟩, d2, d3⟩ := hd
  clear hr
  have hv : szP n false = n.wd := by simp [szP, alongP, hn]
  have HV := Lib.hid hv
  clear hv
  generalize ns.length = len at *
  go_enter Tryz.func47, Tryz.ntmps47
  go_wp2_with (first | (refine wpList_load_node rfl _ rfl _ _ rfl _ (by repeat (first | apply NodeAt.row | (apply Blk.new'; first | rfl | (simp; done)) | (apply Blk.node; apply Blk.new'; first | rfl | (simp; done)) | assumption | apply NodeAt.alloc)) ?_) | (refine wpList_alloc_node rfl rfl ?_) | (refine wpList_store_node rfl _ _ rfl _ _ _ rfl rfl _ (by repeat (first | (apply Blk.new'; first | rfl | (simp; done)) | assumption | apply Blk.alloc)) ?_))
  (go_ret; exact ⟨ret_int (by rw [HV.out]), (by repeat (first | exact Below.refl _ _ | (refine below_setRow ?_ _ _ ?_; rotate_left; focus (simp; done)) | refine andAlloc ?_ _))⟩)

theorem size_b5_false (A : Option Addr) (ns : List Nd) (c k : Nat) (n : Nd) (w : World) (hl : ns.length ≤ 9223372036854775806) (hseg : Seg w w.heap.size A (ns.flatMap ncs)) (hk : ns[k]? = some n) (hn : n.kind = 5) (hr : right n = true) :
    Calls Tryz.prog 47 #[.slice A ns.length c, .int .i64 (k : Int), .bool false] w fun e w' => e = .returned (.int .i64 (szP n false)) ∧ Below w.heap.size w w' := by
  obtain ⟨b, off, rfl, hb, hnode⟩ := seg_node hseg hk
  have hkl : k < ns.length := (List.getElem?_eq_some_iff.1 hk).1
  clear hseg hk
  have hd := right_hd hr (by omega)
  unfold dm at hd
  obtain ⟨⟨d0, d1⟩, d2, d3⟩ := hd
  clear hr
  have hv : szP n false = n.wd := by simp [szP, alongP, hn]
  have HV := Lib.hid hv
  clear hv
  generalize ns.length = len at *
  go_enter Tryz.func47, Tryz.ntmps47
  go_wp2_with (first | (refine wpList_load_node rfl _ rfl _ _ rfl _ (by repeat (first | apply NodeAt.row | (apply Blk.new'; first | rfl | (simp; done)) | (apply Blk.node; apply Blk.new'; first | rfl | (simp; done)) | assumption | apply NodeAt.alloc)) ?_) | (refine wpList_alloc_node rfl rfl ?_) | (refine wpList_store_node rfl _ _ rfl _ _ _ rfl rfl _ (by repeat (first | (apply Blk.new'; first | rfl | (simp; done)) | assumption | apply Blk.alloc)) ?_))
  (go_ret; exact ⟨ret_int (by rw [HV.out]), (by repeat (first | exact Below.refl _ _ | (refine below_setRow ?_ _ _ ?_; rotate_left; focus (simp; done)) | refine andAlloc ?_ _))⟩)

theorem size_b1_false (A : Option Addr) (ns : List Nd) (c k : Nat) (n : Nd) (w : World) (hl : ns.length ≤ 9223372036854775806) (hseg : Seg w w.heap.size A (ns.flatMap ncs)) (hk : ns[k]? = some n) (hn : n.kind = 1) :
    Calls Tryz.prog 47 #[.slice A ns.length c, .int .i64 (k : Int), .bool false] w fun e w' => e = .returned (.int .i64 (szP n false)) ∧ Below w.heap.size w w' := by
  obtain ⟨b, off, rfl, hb, hnode⟩ := seg_node hseg hk
  have hkl : k < ns.length := (List.getElem?_eq_some_iff.1 hk).1
  clear hseg hk
  have hv : szP n false = n.wd := by simp [szP, alongP, hn]
  have HV := Lib.hid hv
  clear hv
  generalize ns.length = len at *
  go_enter Tryz.func47, Tryz.ntmps47
  go_wp2_with (first | (refine wpList_load_node rfl _ rfl _ _ rfl _ (by repeat (first | apply NodeAt.row | (apply Blk.new'; first | rfl | (simp; done)) | (apply Blk.node; apply Blk.new'; first | rfl | (simp; done)) | assumption | apply NodeAt.alloc)) ?_) | (refine wpList_alloc_node rfl rfl ?_) | (refine wpList_store_node rfl _ _ rfl _ _ _ rfl rfl _ (by repeat (first | (apply Blk.new'; first | rfl | (simp; done)) | assumption | apply Blk.alloc)) ?_))
  (go_ret; exact ⟨ret_int (by rw [HV.out]), (by repeat (first | exact Below.refl _ _ | (refine below_setRow ?_ _ _ ?_; rotate_left; focus (simp; done)) | refine andAlloc ?_ _))⟩)

theorem size_b2_false (A : Option Addr) (ns : List Nd) (c k : Nat) (n : Nd) (w : World) (hl : ns.length ≤ 9223372036854775806) (hseg : Seg w w.heap.size A (ns.flatMap ncs)) (hk : ns[k]? = some n) (hn : n.kind = 2) :
    Calls Tryz.prog 47 #[.slice A ns.length c, .int .i64 (k : Int), .bool false] w fun e w' => e = .returned (.int .i64 (szP n false)) ∧ Below w.heap.size w w' := by
  obtain ⟨b, off, rfl, hb, hnode⟩ := seg_node hseg hk
  have hkl : k < ns.length := (List.getElem?_eq_some_iff.1 hk).1
  clear hseg hk
  have hv : szP n false = n.wd := by simp [szP, alongP, hn]
  have HV := Lib.hid hv
  clear hv
  generalize ns.length = len at *
  go_enter Tryz.func47, Tryz.ntmps47
  go_wp2_with (first | (refine wpList_load_node rfl _ rfl _ _ rfl _ (by repeat (first | apply NodeAt.row | (apply Blk.new'; first | rfl | (simp; done)) | (apply Blk.node; apply Blk.new'; first | rfl | (simp; done)) | assumption | apply NodeAt.alloc)) ?_) | (refine wpList_alloc_node rfl rfl ?_) | (refine wpList_store_node rfl _ _ rfl _ _ _ rfl rfl _ (by repeat (first | (apply Blk.new'; first | rfl | (simp; done)) | assumption | apply Blk.alloc)) ?_))
  (go_ret; exact ⟨ret_int (by rw [HV.out]), (by repeat (first | exact Below.refl _ _ | (refine below_setRow ?_ _ _ ?_; rotate_left; focus (simp; done)) | refine andAlloc ?_ _))⟩)

theorem size_b15_false (A : Option Addr) (ns : List Nd) (c k : Nat) (n : Nd) (w : World) (hl : ns.length ≤ 9223372036854775806) (hseg : Seg w w.heap.size A (ns.flatMap ncs)) (hk : ns[k]? = some n) (hn : n.kind = 15) :
    Calls Tryz.prog 47 #[.slice A ns.length c, .int .i64 (k : Int), .bool false] w fun e w' => e = .returned (.int .i64 (szP n false)) ∧ Below w.heap.size w w' := by
  obtain ⟨b, off, rfl, hb, hnode⟩ := seg_node hseg hk
  have hkl : k < ns.length := (List.getElem?_eq_some_iff.1 hk).1
  clear hseg hk
  have hv : szP n false = n.wd := by simp [szP, alongP, hn]
  have HV := Lib.hid hv
  clear hv
  generalize ns.length = len at *
  go_enter Tryz.func47, Tryz.ntmps47
  go_wp2_with (first | (refine wpList_load_node rfl _ rfl _ _ rfl _ (by repeat (first | apply NodeAt.row | (apply Blk.new'; first | rfl | (simp; done)) | (apply Blk.node; apply Blk.new'; first | rfl | (simp; done)) | assumption | apply NodeAt.alloc)) ?_) | (refine wpList_alloc_node rfl rfl ?_) | (refine wpList_store_node rfl _ _ rfl _ _ _ rfl rfl _ (by repeat (first | (apply Blk.new'; first | rfl | (simp; done)) | assumption | apply Blk.alloc)) ?_))
  (go_ret; exact ⟨ret_int (by rw [HV.out]), (by repeat (first | exact Below.refl _ _ | (refine below_setRow ?_ _ _ ?_; rotate_left; focus (simp; done)) | refine andAlloc ?_ _))⟩)

theorem size_b16_false (A : Option Addr) (ns : List Nd) (c k : Nat) (n : Nd) (w : World) (hl : ns.length ≤ 9223372036854775806) (hseg : Seg w w.heap.size A (ns.flatMap ncs)) (hk : ns[k]? = some n) (hn : n.kind = 16) :
    Calls Tryz.prog 47 #[.slice A ns.length c, .int .i64 (k : Int), .bool false] w fun e w' => e = .returned (.int .i64 (szP n false)) ∧ Below w.heap.size w w' := by
  obtain ⟨b, off, rfl, hb, hnode⟩ := seg_node hseg hk
  have hkl : k < ns.length := (List.getElem?_eq_some_iff.1 hk).1
  clear hseg hk
  have hv : szP n false = n.wd := by simp [szP, alongP, hn]
  have HV := Lib.hid hv
  clear hv
  generalize ns.length = len at *
  go_enter Tryz.func47, Tryz.ntmps47
  go_wp2_with (first | (refine wpList_load_node rfl _ rfl _ _ rfl _ (by repeat (first | apply NodeAt.row | (apply Blk.new'; first | rfl | (simp; done)) | (apply Blk.node; apply Blk.new'; first | rfl | (simp; done)) | assumption | apply NodeAt.alloc)) ?_) | (refine wpList_alloc_node rfl rfl ?_) | (refine wpList_store_node rfl _ _ rfl _ _ _ rfl rfl _ (by repeat (first | (apply Blk.new'; first | rfl | (simp; done)) | assumption | apply Blk.alloc)) ?_))
  (go_ret; exact ⟨ret_int (by rw [HV.out]), (by repeat (first | exact Below.refl _ _ | (refine below_setRow ?_ _ _ ?_; rotate_left; focus (simp; done)) | refine andAlloc ?_ _))⟩)

theorem size_other_false (A : Option Addr) (ns : List Nd) (c k : Nat) (n : Nd) (w : World) (hl : ns.length ≤ 9223372036854775806) (hseg : Seg w w.heap.size A (ns.flatMap ncs)) (hk : ns[k]? = some n) (h8 : ¬ n.kind = 8) (h3 : ¬ n.kind = 3) (h4 : ¬ n.kind = 4) (h5 : ¬ n.kind = 5) (h1 : ¬ n.kind = 1) (h2 : ¬ n.kind = 2) (h15 : ¬ n.kind = 15) (h16 : ¬ n.kind = 16) (h10 : ¬ n.kind = 10) :
    Calls Tryz.prog 47 #[.slice A ns.length c, .int .i64 (k : Int), .bool false] w fun e w' => e = .returned (.int .i64 (szP n false)) ∧ Below w.heap.size w w' := by
  obtain ⟨b, off, rfl, hb, hnode⟩ := seg_node hseg hk
  have hkl : k < ns.length := (List.getElem?_eq_some_iff.1 hk).1
  clear hseg hk
  have hv : szP n false = 0 := by
    unfold szP
    split
    · rfl
    · rename_i h7
      simp [alongP, h7, h8, h3, h4, h5, h1, h2, h15, h16]
  have HV := Lib.hid hv
  clear hv
  have e8 : (n.kind == 8) = false := by simp [h8]
  have e3 : (n.kind == 3) = false := by simp [h3]
  have e4 : (n.kind == 4) = false := by simp [h4]
  have e5 : (n.kind == 5) = false := by simp [h5]
  have e1 : (n.kind == 1) = false := by simp [h1]
  have e2 : (n.kind == 2) = false := by simp [h2]
  have e15 : (n.kind == 15) = false := by simp [h15]
  have e16 : (n.kind == 16) = false := by simp [h16]
  have e10 : (n.kind == 10) = false := by simp [h10]
  clear h8 h3 h4 h5 h1 h2 h15 h16 h10
  generalize ns.length = len at *
  go_enter Tryz.func47, Tryz.ntmps47
  go_wp2_with (first | (refine wpList_load_node rfl _ rfl _ _ rfl _ (by repeat (first | apply NodeAt.row | (apply Blk.new'; first | rfl | (simp; done)) | (apply Blk.node; apply Blk.new'; first | rfl | (simp; done)) | assumption | apply NodeAt.alloc)) ?_) | (refine wpList_alloc_node rfl rfl ?_) | (refine wpList_store_node rfl _ _ rfl _ _ _ rfl rfl _ (by repeat (first | (apply Blk.new'; first | rfl | (simp; done)) | assumption | apply Blk.alloc)) ?_))
  (go_ret; exact ⟨ret_int (by rw [HV.out]), (by repeat (first | exact Below.refl _ _ | (refine below_setRow ?_ _ _ ?_; rotate_left; focus (simp; done)) | refine andAlloc ?_ _))⟩)

theorem size_any (A : Option Addr) (ns : List Nd) (c k : Nat) (n : Nd) (down : Bool) (w : World) (hl : ns.length ≤ 9223372036854775806) (hseg : Seg w w.heap.size A (ns.flatMap ncs)) (hk : ns[k]? = some n) (hr : right n = true) (hd : down = true ∨ ¬ n.kind = 10) :
    Calls Tryz.prog 47 #[.slice A ns.length c, .int .i64 (k : Int), .bool down] w fun e w' => e = .returned (.int .i64 (szP n down)) ∧ Below w.heap.size w w' := by
  cases down
  · have hd : ¬ n.kind = 10 := by
      rcases hd with h | h
      · cases h
      · exact h
    by_cases h8 : n.kind = 8
    · exact size_kern_false A ns c k n w hl hseg hk h8
    by_cases h3 : n.kind = 3
    · exact size_b3_false A ns c k n w hl hseg hk h3 hr
    by_cases h4 : n.kind = 4
    · exact size_b4_false A ns c k n w hl hseg hk h4 hr
    by_cases h5 : n.kind = 5
    · exact size_b5_false A ns c k n w hl hseg hk h5 hr
    by_cases h1 : n.kind = 1
    · exact size_b1_false A ns c k n w hl hseg hk h1
    by_cases h2 : n.kind = 2
    · exact size_b2_false A ns c k n w hl hseg hk h2
    by_cases h15 : n.kind = 15
    · exact size_b15_false A ns c k n w hl hseg hk h15
    by_cases h16 : n.kind = 16
    · exact size_b16_false A ns c k n w hl hseg hk h16
    exact size_other_false A ns c k n w hl hseg hk h8 h3 h4 h5 h1 h2 h15 h16 hd
  · by_cases h10 : n.kind = 10
    · exact size_disc_true A ns c k n w hl hseg hk h10
    by_cases h8 : n.kind = 8
    · exact size_kern_true A ns c k n w hl hseg hk h8
    by_cases h3 : n.kind = 3
    · exact size_b3_true A ns c k n w hl hseg hk h3 hr
    by_cases h4 : n.kind = 4
    · exact size_b4_true A ns c k n w hl hseg hk h4 hr
    by_cases h5 : n.kind = 5
    · exact size_b5_true A ns c k n w hl hseg hk h5 hr
    by_cases h1 : n.kind = 1
    · exact size_b1_true A ns c k n w hl hseg hk h1
    by_cases h2 : n.kind = 2
    · exact size_b2_true A ns c k n w hl hseg hk h2
    by_cases h15 : n.kind = 15
    · exact size_b15_true A ns c k n w hl hseg hk h15
    by_cases h16 : n.kind = 16
    · exact size_b16_true A ns c k n w hl hseg hk h16
    exact size_other_true A ns c k n w hl hseg hk h8 h3 h4 h5 h1 h2 h15 h16 h10
set_option maxHeartbeats 2000000 in
set_option maxRecDepth 100000 in
/-- A Disc: what its third list comes to, if that is a dimension. -/
theorem size_disc (A : Option Addr) (ns : List Nd) (c k m : Nat) (ss : List Nat) (n : Nd) (v : Int) (w : World) (hc : chk ns = 0) (hcap : ns.length ≤ c) (hseg : Seg w w.heap.size A (ns.flatMap ncs)) (hk : ns[k]? = some n) (hb : begB ns k = true) (hm : endc (ns.drop k) 0 = some m) (hm2 : 2 ≤ m) (hd : D3 ss (ns.drop (k + 1)) 0 (m - 2)) (hn : n.kind = 10)
    (a b c' d p q r s e1 : Int) (htot : ∀ w1 A1 c1, (thr ss (ns.drop (k + 1)) 0 2).length ≤ c1 → Seg w1 w1.heap.size A1 ((thr ss (ns.drop (k + 1)) 0 2).flatMap ncs) → Calls Tryz.prog 11 #[.slice A1 (thr ss (ns.drop (k + 1)) 0 2).length c1, .bool false] w1 fun e w' => e = .returned (.tuple #[.agg #[.int .i64 v, .int .i64 a, .int .i64 b, .int .i64 c', .int .i64 d, .int .i64 p, .int .i64 q, .int .i64 r, .int .i64 s], .int .i64 e1]) ∧ Below w1.heap.size w1 w') :
    Calls Tryz.prog 47 #[.slice A ns.length c, .int .i64 (k : Int), .bool false] w fun e w' => e = .returned (.int .i64 v) ∧ Below w.heap.size w w' := by
  have hl := (chk_run hc).1
  have HT := Lib.hid fun w1 (h : Below w.heap.size w w1) => parts_ok A ns c k m n ss w1 hcap (Seg.belowW hseg h) hc hb hk hn hm hd hm2
  have HS := Lib.hid htot
  obtain ⟨b, off, rfl, hb, hnode⟩ := seg_node hseg hk
  have hkl : k < ns.length := (List.getElem?_eq_some_iff.1 hk).1
  clear hseg hk htot hm hd hc
  generalize thr ss (ns.drop (k + 1)) 0 = F at *
  generalize ns.length = len at *
  go_enter Tryz.func47, Tryz.ntmps47
  go_wp2_with (first | (refine wpList_load_node rfl _ rfl _ _ rfl _ (by repeat (first | apply NodeAt.row | (apply Blk.new'; first | rfl | (simp; done)) | (apply Blk.node; apply Blk.new'; first | rfl | (simp; done)) | assumption | apply NodeAt.alloc)) ?_) | (refine wpList_alloc_node rfl rfl ?_) | (refine wpList_store_node rfl _ _ rfl _ _ _ rfl rfl _ (by repeat (first | (apply Blk.new'; first | rfl | (simp; done)) | assumption | apply Blk.alloc)) ?_))
  refine (HT.out _ (andAlloc (Below.refl _ _) _)).mono ?_
  rintro e w1 ⟨vs, rfl, ho, hb1⟩
  obtain ⟨A2, c2, h2, hc2, _, hs2⟩ := Seg.of_own (ho.own 2 (by omega))
  have hl1 : Below w.heap.size w w1 := andThen (andAlloc (Below.refl _ _) _) hb1
  rw [h2]
  go_wp2_with fail
  refine (HS.out _ _ _ hc2 hs2).mono ?_
  rintro e w2 ⟨rfl, hb2⟩
  go_wp2_with fail
  go_ret
  exact ⟨rfl, andAlloc (andThen hl1 hb2) _⟩
theorem tot_case (l : List Nd) (hl : l.length ≤ 879609302220) : ∃ x a b c d p q r s e1, (-1073741823 ≤ x ∧ x ≤ 1073741823) ∧ ∀ (A : Option Addr) (k : Nat) (w : World), l.length ≤ k → Seg w w.heap.size A (l.flatMap ncs) → Calls Tryz.prog 11 #[.slice A l.length k, .bool false] w fun e w' => e = .returned (.tuple #[.agg #[.int .i64 x, .int .i64 a, .int .i64 b, .int .i64 c, .int .i64 d, .int .i64 p, .int .i64 q, .int .i64 r, .int .i64 s], .int .i64 e1]) ∧ Below w.heap.size w w' := by
  by_cases hc : chk l = 0
  · obtain ⟨xs, hx⟩ := its_of_chk hc
    have hT := totR_len l false xs
    have hn : -1073741823 ≤ (totR l false xs).nat ∧ (totR l false xs).nat ≤ 1073741823 := by
      unfold totR
      split
      · rename_i h
        simpa [dimB] using h
      · simp [tz]
    obtain ⟨⟨x, st, sh⟩, hTe⟩ : ∃ T, totR l false xs = T := ⟨_, rfl⟩
    rw [hTe] at hT hn
    match st, sh, hT.1, hT.2 with
    | [a, b, c, d], [p, q, r, s], _, _ =>
    have ht := fun A k w h hs => totals_any A l k xs false w hc h hs hx
    simp only [hTe] at ht
    exact ⟨x, a, b, c, d, p, q, r, s, _, hn, ht⟩
  · exact ⟨0, 0, 0, 0, 0, 0, 0, 0, 0, chk l, by omega, fun A k w h hs => totals_bad A l k false w (by omega) hs hc⟩
/-- Each item of a list has a size. -/
theorem size_case (ns : List Nd) (down : Bool) (hc : chk ns = 0) : ∃ f : Nat → Int, (∀ k, -281474976710656 ≤ f k ∧ f k ≤ 281474976710656) ∧ (∀ (k : Nat) (n : Nd), ns[k]? = some n → (down = true ∨ ¬ n.kind = 10) → f k = szP n down) ∧
    ∀ (k : Nat) (n : Nd), ns[k]? = some n → ¬ n.kind = 6 → ¬ n.kind = 11 → ∀ (A : Option Addr) (c : Nat) (w : World), ns.length ≤ c → Seg w w.heap.size A (ns.flatMap ncs) → Calls Tryz.prog 47 #[.slice A ns.length c, .int .i64 (k : Int), .bool down] w fun e w' => e = .returned (.int .i64 (f k)) ∧ Below w.heap.size w w' := by
  have hl := (chk_run hc).1
  have hr := chk_right hc
  have hex : ∀ k : Nat, ∃ v : Int, (-281474976710656 ≤ v ∧ v ≤ 281474976710656) ∧ (∀ (n : Nd), ns[k]? = some n → (down = true ∨ ¬ n.kind = 10) → v = szP n down) ∧
      ∀ (n : Nd), ns[k]? = some n → ¬ n.kind = 6 → ¬ n.kind = 11 → ∀ (A : Option Addr) (c : Nat) (w : World), ns.length ≤ c → Seg w w.heap.size A (ns.flatMap ncs) → Calls Tryz.prog 47 #[.slice A ns.length c, .int .i64 (k : Int), .bool down] w fun e w' => e = .returned (.int .i64 v) ∧ Below w.heap.size w w' := by
    intro k
    cases hk : ns[k]? with
    | none => exact ⟨0, by omega, fun n h => by (cases h), fun n h => by (cases h)⟩
    | some n =>
      have hrn := hr n (List.mem_of_getElem? hk)
      by_cases hd : down = true ∨ ¬ n.kind = 10
      · refine ⟨szP n down, ?_, fun n' h _ => by (injection h with h; rw [h]), fun n' h _ _ A c w hcap hs => by (injection h with h; subst h; exact size_any A ns c k n down w (by omega) hs hk hrn hd)⟩
        unfold szP
        split
        · omega
        · have := along_bd hrn down
          omega
      · have hdn : down = false := by
          cases down
          · rfl
          · exact absurd (.inl rfl) hd
        have h10 : n.kind = 10 := by
          by_cases h : n.kind = 10
          · exact h
          · exact absurd (.inr h) hd
        subst hdn
        obtain ⟨m, hm⟩ := item_ends hc hk (by omega) (by omega)
        obtain ⟨hm2, ss, hss⟩ := disc_steps hc hk h10 hm
        have hlen : (thr ss (ns.drop (k + 1)) 0 2).length ≤ 2000 := by
          have h1 := thr_len (j := 2) hss
          have h2 := hss.le
          rw [List.length_drop] at h2
          omega
        obtain ⟨x, a, b, c', d, p, q, r, s, e1, hx, ht⟩ := tot_case (thr ss (ns.drop (k + 1)) 0 2) (by omega)
        refine ⟨x, by omega, fun n' h h' => by (injection h with h; subst h; exact absurd h' hd), fun n' h _ _ A c w hcap hs => by (injection h with h; subst h; exact size_disc A ns c k m ss n x w hc hcap hs hk (beg_of hk (by omega) (by omega)) hm hm2 hss h10 a b c' d p q r s e1 fun w1 A1 c1 h1 h2 => ht A1 c1 w1 h1 h2)⟩
  exact ⟨fun k => (hex k).choose, fun k => (hex k).choose_spec.1, fun k n h h' => (hex k).choose_spec.2.1 n h h', fun k n h h6 h11 => (hex k).choose_spec.2.2 n h h6 h11⟩
end Go.Proofs.YtoboecenlangmaaGreatDoor.Pk
end
section
namespace Go.Proofs.YtoboecenlangmaaGreatDoor.Pk
open Go.ChangeShapes Go.WideShapes Go.ChangeAt Go.RowKit
open Me Np No
set_option linter.unusedVariables false
set_option linter.unusedSimpArgs false

theorem info_int : (Tryz.prog.info? 3).map (fun i => (i.zero, i.size, i.bytes)) = some (some (.int .i64 0), 1, 8) := by kernel_rfl
theorem info_glue : (Tryz.prog.info? 38).map (fun i => (i.zero, i.size, i.bytes)) = some (some (.agg #[.int .i64 0, .int .i64 0, .int .i64 0, .int .i64 0, .int .i64 0]), 5, 40) := by kernel_rfl
/-- What Places answers. -/
def PlOut (P : List Int) (E : Int) (w : World) (e : Ending) (w' : World) : Prop := ∃ v, e = .returned (.tuple #[v, .int .i64 E]) ∧ w'.ownsRow w.heap.size 3 1 v P.length (P.map (Value.int .i64)) ∧ Below w.heap.size w w'
theorem PlOut.no {w w' : World} (hb : Below w.heap.size w w') (E : Int) : PlOut [] E w (.returned (.tuple #[.slice none 0 0, .int .i64 E])) w' := ⟨_, rfl, World.ownsRow_nil _ _ _ _, hb⟩
/-- What the second loop of Places holds in memory: how far it has come, the places so far. -/
structure MP (W : World) (gx : Nat) (x : Int) (v : Value) (o : List Int) (wr : World) : Prop where
  blk : Blk wr gx 3 #[.int .i64 x]
  own : wr.ownsRow (gx + 1) 3 1 v o.length (o.map (Value.int .i64))
  low : Below W.heap.size W wr
  gl : W.heap.size ≤ gx
theorem MP.below {W : World} {gx : Nat} {x : Int} {v : Value} {o : List Int} {wr w' : World} (h : MP W gx x v o wr) (hb : Below wr.heap.size wr w') : MP W gx x v o w' := ⟨h.blk.below hb h.blk.lt, own_below h.own hb, andThen h.low hb, h.gl⟩
theorem MP.push {W : World} {gx : Nat} {x z : Int} {v v' : Value} {o : List Int} {wr w' : World} (h : MP W gx x v o wr) (ho : w'.ownsRow (gx + 1) 3 1 v' (o.length + 1) (o.map (Value.int .i64) ++ [.int .i64 z])) (hg : wr.grownBy w' v.ownBlock) : MP W gx x v' (o ++ [z]) w' :=
  ⟨h.blk.grown hg (by intro e; have := (h.own.lt gx e.symm).1; omega), by simpa using ho, below_grown (Nat.le_refl _) h.low hg (fun q hq => by have := (h.own.lt q hq).1; have := h.gl; omega), h.gl⟩
theorem MP.turn {W : World} {gx : Nat} {x y : Int} {v : Value} {o : List Int} {wr w' : World} (h : MP W gx x v o wr) (hb : Blk w' gx 3 #[.int .i64 y]) (hg : wr.grownBy w' (some gx)) : MP W gx y v o w' := by
  refine ⟨hb, h.own.kept hg ?_, below_grown (Nat.le_refl _) h.low hg (fun q hq => by injection hq with hq; have := h.gl; omega), h.gl⟩
  cases hv : v.ownBlock with
  | none => exact .inl rfl
  | some q =>
    refine .inr ?_
    intro e
    injection e with e
    have := (h.own.lt q hv).1
    omega
theorem grow_any (gx : Nat) (x z : Int) (w : World) (hb : Blk w gx 3 #[.int .i64 x]) (h0 : -2305843009213693952 ≤ x) (h1 : x ≤ 2305843009213693952) (h2 : -2305843009213693952 ≤ z) (h3 : z ≤ 2305843009213693952) :
    Calls Tryz.prog 46 #[.int .i64 z, .pointer (some ⟨gx, 0, none⟩)] w fun e w' => e = .returned (.tuple #[]) ∧ Blk w' gx 3 #[.int .i64 (x + z)] ∧ w.grownBy w' (some gx) := by
  have hc : w.cell? ⟨gx, 0, none⟩ = some (.int .i64 x) := Blk.cell hb 0
  have hf := Blk.free hb 0
  have HB := Lib.hid hb
  clear hb
  go_enter Tryz.func46, Tryz.ntmps46
  go_wp2_with fail
  go_returns
  exact ⟨rfl, Blk.set HB.out 0 (.int .i64 (x + z)), grown_set _ _ _ _⟩
/-- What Places comes to. -/
noncomputable def plcR (x : Nd) (l : List Nd) (f : Nat → Int) (xs : List Nat) : List Int × Int :=
  if Gl.szE (skF l xs []) x.sign x.order x.num x.den = 0 then ((plF l f xs ⟨0, Gl.szL (skF l xs []) x.sign x.order x.num x.den, []⟩).out, 0) else ([], Gl.szE (skF l xs []) x.sign x.order x.num x.den)
theorem places_no (A : Option Addr) (ns L : List Nd) (c : Nat) (a E : Int) (w : World) (hE : ¬ E = 0) (hI : Calls Tryz.prog 10 #[.slice A ns.length c, .int .i64 a] w fun e' w' => ∃ v, e' = .returned (.tuple #[v, .int .i64 E]) ∧ w'.ownsRow w.heap.size 40 19 v L.length (L.flatMap ncs) ∧ Below w.heap.size w w') :
    Calls Tryz.prog 20 #[.slice A ns.length c, .int .i64 a] w (PlOut [] E w) := by
  have e0 : (E != 0) = true := by simp [hE]
  have HI := Lib.hid hI
  clear hI
  generalize ns.length = len at *
  go_enter Tryz.func20, Tryz.ntmps20
  go_wp2_with fail
  refine HI.out.mono ?_
  rintro e w1 ⟨v, rfl, ho, hb1⟩
  clear ho
  go_wp2_with fail
  go_ret2
  exact PlOut.no hb1 _
set_option maxRecDepth 100000 in
theorem places_kind (A : Option Addr) (ns L : List Nd) (c k : Nat) (x : Nd) (w : World) (hcap : ns.length ≤ c) (hl : ns.length ≤ 2000) (hseg : Seg w w.heap.size A (ns.flatMap ncs)) (hx : ns[k]? = some x) (h4 : ¬ x.kind = 4) (h5 : ¬ x.kind = 5) (hI : Calls Tryz.prog 10 #[.slice A ns.length c, .int .i64 (k : Int)] w fun e' w' => ∃ v, e' = .returned (.tuple #[v, .int .i64 0]) ∧ w'.ownsRow w.heap.size 40 19 v L.length (L.flatMap ncs) ∧ Below w.heap.size w w') :
    Calls Tryz.prog 20 #[.slice A ns.length c, .int .i64 (k : Int)] w (PlOut [] 3 w) := by
  have e4 : (x.kind != 4) = true := by simp [h4]
  have e5 : (x.kind != 5) = true := by simp [h5]
  have HI := Lib.hid hI
  obtain ⟨b, off, rfl, hb, hnode⟩ := seg_node hseg hx
  have hkl : k < ns.length := (List.getElem?_eq_some_iff.1 hx).1
  clear hI hseg hx h4 h5
  generalize ns.length = len at *
  go_enter Tryz.func20, Tryz.ntmps20
  go_wp2_with fail
  refine HI.out.mono ?_
  rintro e w1 ⟨v, rfl, ho, hb1⟩
  have hnode := hnode.below hb1 hb
  clear ho
  go_wp2_with (first | (refine wpList_load_node rfl _ rfl _ _ rfl _ (by repeat (first | apply NodeAt.row | (apply Blk.new'; first | rfl | (simp; done)) | (apply Blk.node; apply Blk.new'; first | rfl | (simp; done)) | assumption | apply NodeAt.alloc)) ?_) | (refine wpList_alloc_node rfl rfl ?_) | (refine wpList_store_node rfl _ _ rfl _ _ _ rfl rfl _ (by repeat (first | (apply Blk.new'; first | rfl | (simp; done)) | assumption | apply Blk.alloc)) ?_))
  go_ret2
  exact PlOut.no (andAlloc hb1 _) _
end Go.Proofs.YtoboecenlangmaaGreatDoor.Pk
end
section
namespace Go.Proofs.YtoboecenlangmaaGreatDoor.Si
open Go.ChangeShapes Go.WideShapes Go.ChangeAt Go.RowKit
open Me
set_option linter.unusedVariables false
set_option linter.unusedSimpArgs false

theorem ret_b {a b : Bool} (h : a = b) : Ending.returned (.bool a) = .returned (.bool b) := by rw [h]
theorem get_some {α : Type} {l : List α} {k : Nat} (h : k < l.length) : ∃ x, l[k]? = some x := ⟨l[k], List.getElem?_eq_getElem h⟩
theorem seg_get {w : World} {B : Nat} {A : Option Addr} {xs : List Value} (h : Seg w B A xs) {k : Nat} {u : Value} (hk : xs[k]? = some u) : ∃ b off : Nat, A = some ⟨b, off, none⟩ ∧ b < B ∧ w.cell? ⟨b, off + k, none⟩ = some u := by
  obtain ⟨b, off, hA, hb, hc⟩ := h.open_ (by intro e; rw [e] at hk; simp at hk)
  exact ⟨b, off, hA, hb, hc k u hk⟩
set_option maxRecDepth 100000 in
theorem same_ints (A1 A2 : Option Addr) (l1 l2 : List Int) (c1 c2 : Nat) (w : World) (h1 : l1.length ≤ 2097152) (h2 : l2.length ≤ 2097152) (hs1 : Seg w w.heap.size A1 (l1.map (Value.int .i64))) (hs2 : Seg w w.heap.size A2 (l2.map (Value.int .i64))) :
    Calls Tryz.prog 21 #[.slice A1 l1.length c1, .slice A2 l2.length c2] w fun e w' => e = .returned (.bool (decide (l1 = l2))) ∧ Below w.heap.size w w' := by
  by_cases hl : (l1.length : Int) = l2.length
  · have hl' : l1.length = l2.length := by omega
    have HS := Lib.hid (And.intro hs1 hs2)
    have HL := Lib.hid hl'
    rw [← hl']
    clear hs1 hs2 hl hl'
    go_enter Tryz.func21, Tryz.ntmps21
    go_wp2_with fail
    go_loopw [5] (fun v5 wr => ∃ k nq : Nat, k ≤ l1.length ∧ v5 = .int .i64 (k : Int) ∧ l1.take k = l2.take k ∧ wr = w.drewN nq) (fun v5 _ => l1.length - (intOf v5).toNat)
    case atStart => exact ⟨0, 0, by omega, rfl, by simp, rfl⟩
    case round =>
      obtain ⟨k, nq, hk, rfl, heq, hwr⟩ := hrel
      have HWR := Lib.hid hwr
      have HEQ := Lib.hid heq
      by_cases hlt : k < l1.length
      · obtain ⟨x, hx⟩ := get_some hlt
        obtain ⟨y, hy⟩ := get_some (l := l2) (k := k) (by rw [← HL.out]; exact hlt)
        obtain ⟨b1, o1, rfl, hb1, hc1⟩ := seg_get HS.out.1 (k := k) (u := Value.int .i64 x) (by rw [List.getElem?_map, hx]; rfl)
        obtain ⟨b2, o2, rfl, hb2, hc2⟩ := seg_get HS.out.2 (k := k) (u := Value.int .i64 y) (by rw [List.getElem?_map, hy]; rfl)
        have hc1' : wr.cell? ⟨b1, o1 + k, none⟩ = some (.int .i64 x) := by rw [hwr]; exact hc1
        have hc2' : wr.cell? ⟨b2, o2 + k, none⟩ = some (.int .i64 y) := by rw [hwr]; exact hc2
        have HXY := Lib.hid (And.intro hx hy)
        have hlti : (k : Int) < (l1.length : Int) := by omega
        clear hc1 hc2 hwr heq hx hy
        by_cases hxy : x = y
        · subst hxy
          go_wp2_with fail
          go_quiet (fail)
          go_wp2_with fail
          go_roundw
          case rel =>
            refine ⟨k + 1, _, by omega, by go_num, ?_, by rw [HWR.out, World.drewN_drewN]⟩
            rw [List.take_add_one, List.take_add_one, HEQ.out, HXY.out.1, HXY.out.2]
          case measure => simp [intOf]; omega
        · have HN := Lib.hid hxy
          go_wp2_with fail
          go_quiet (fail)
          go_wp2_with fail
          go_ret
          refine ⟨?_, by rw [HWR.out, World.drewN_drewN]; exact below_drewN (Below.refl _ _) _⟩
          refine ret_b (decide_eq_false fun e => HN.out ?_).symm
          have := HXY.out.1
          rw [e, HXY.out.2] at this
          injection this with this
          exact this.symm
      · obtain rfl : k = l1.length := by omega
        go_wp2_with fail
        go_ret
        refine ⟨?_, below_drewN (Below.refl _ _) _⟩
        refine ret_b (decide_eq_true ?_).symm
        have := HEQ.out
        rw [List.take_length, HL.out, List.take_length] at this
        exact this
  · have HL := Lib.hid hl
    clear hs1 hs2
    go_enter Tryz.func21, Tryz.ntmps21
    go_wp2_with fail
    go_ret
    refine ⟨ret_b (decide_eq_false fun e => HL.out (by rw [e])).symm, Below.refl _ _⟩
end Go.Proofs.YtoboecenlangmaaGreatDoor.Si
end
section
namespace Go.Proofs.YtoboecenlangmaaGreatDoor.Pk
open Go.ChangeShapes Go.WideShapes Go.ChangeAt Go.RowKit
open Me Np No
set_option linter.unusedVariables false
set_option linter.unusedSimpArgs false

/-- What the first loop of Places holds: the glue so far. -/
structure InvK (l : List Nd) (W : World) (R : List Gl.G) (a : Nat) (v : Value) (wr : World) : Prop where
  rest : ∃ ys s, Stand l a ys ∧ skF l ys s = R ∧ s.length ≤ a ∧ wr.ownsRow W.heap.size 38 5 v s.length (s.flatMap Gl.G.vals)
  low : Below W.heap.size W wr
/-- What the second one holds. -/
structure InvL (l : List Nd) (f : Nat → Int) (W : World) (gx : Nat) (R : Plc) (a : Nat) (v u : Value) (wr : World) : Prop where
  rest : ∃ ys s A c, v = .slice A s.sz.length c ∧ s.sz.length ≤ c ∧ Seg W W.heap.size A (s.sz.map (Value.int .i64)) ∧ Stand l a ys ∧ plF l f ys s = R ∧ PlIn l f s ys s.out.length ∧ s.out.length ≤ a ∧ MP W gx s.x u s.out wr
theorem cells5 {W wr : World} {b o : Nat} {y : Nd} (h : NodeAt W b o y) (hl : Below W.heap.size W wr) (hb : b < W.heap.size) : wr.cell? ⟨b, o, none⟩ = some (.int .i64 y.kind) ∧ wr.cell? ⟨b, o + 7, none⟩ = some (.int .i64 y.gn) ∧ wr.cell? ⟨b, o + 8, none⟩ = some (.int .i64 y.gs) ∧ wr.cell? ⟨b, o + 9, none⟩ = some (.int .i64 y.gh) ∧ wr.cell? ⟨b, o + 10, none⟩ = some (.int .i64 y.ga) ∧ wr.cell? ⟨b, o + 11, none⟩ = some (.int .i64 y.gb) :=
  ⟨(h.below hl hb) 0 _ rfl, (h.below hl hb) 7 _ rfl, (h.below hl hb) 8 _ rfl, (h.below hl hb) 9 _ rfl, (h.below hl hb) 10 _ rfl, (h.below hl hb) 11 _ rfl⟩
set_option maxHeartbeats 4000000 in
set_option maxRecDepth 100000 in
theorem places_ok (A : Option Addr) (ns l : List Nd) (c k : Nat) (x : Nd) (xs : List Nat) (f : Nat → Int) (w : World) (hcap : ns.length ≤ c) (hl0 : ns.length ≤ 2000) (hseg : Seg w w.heap.size A (ns.flatMap ncs)) (hx : ns[k]? = some x) (h45 : x.kind = 4 ∨ x.kind = 5)
    (hI : Calls Tryz.prog 10 #[.slice A ns.length c, .int .i64 (k : Int)] w fun e' w' => ∃ v, e' = .returned (.tuple #[v, .int .i64 0]) ∧ w'.ownsRow w.heap.size 40 19 v l.length (l.flatMap ncs) ∧ Below w.heap.size w w')
    (hc : chk l = 0) (hxs : Its xs l 0) (hf : ∀ k, -281474976710656 ≤ f k ∧ f k ≤ 281474976710656)
    (hsz : ∀ (k : Nat) (n : Nd), l[k]? = some n → ¬ n.kind = 6 → ¬ n.kind = 11 → ∀ (A : Option Addr) (c : Nat) (w : World), l.length ≤ c → Seg w w.heap.size A (l.flatMap ncs) → Calls Tryz.prog 47 #[.slice A l.length c, .int .i64 (k : Int), .bool (x.kind == 5)] w fun e w' => e = .returned (.int .i64 (f k)) ∧ Below w.heap.size w w') :
    Calls Tryz.prog 20 #[.slice A ns.length c, .int .i64 (k : Int)] w (PlOut (plcR x l f xs).1 (plcR x l f xs).2 w) := by
  have hl := (chk_run hc).1
  have HI := Lib.hid hI
  have HF := Lib.hid hf
  have HIT := Lib.hid (fun (A : Option Addr) (c a m : Nat) (w1 : World) (hs : Seg w1 w1.heap.size A (l.flatMap ncs)) hb hm => item_ok A l c a m w1 (by omega) hs hc hb hm)
  have HST := Lib.hid (stand0 hc hxs)
  have HSL : (skF l xs []).length ≤ 2000 := by
    have h1 := skF_len l xs []
    have h2 := hxs.len
    simp only [List.length_nil] at h1
    omega
  have HSS := Lib.hid (fun (A : Option Addr) (c : Nat) (w1 : World) (hr : Gl.Row w1 A (skF l xs [])) => Gl.sizes_any A (skF l xs []) c x.sign x.order x.num x.den w1 (by unfold maxLen; omega) hr)
  obtain ⟨G, hG⟩ : ∃ G, skF l xs [] = G := ⟨_, rfl⟩
  rw [hG] at HSS HSL
  have HG := Lib.hid hG
  obtain ⟨PR, hPR⟩ : ∃ PR, plcR x l f xs = PR := ⟨_, rfl⟩
  rw [hPR]
  have HPR := Lib.hid hPR
  obtain ⟨dn, hdn⟩ : ∃ dn, (x.kind == 5) = dn := ⟨_, rfl⟩
  rw [hdn] at hsz
  have HSZ := Lib.hid hsz
  have e4 : (x.kind != 4) = dn := by
    rw [← hdn]
    rcases h45 with h | h <;> simp [h]
  have e5 : (x.kind != 5) = !dn := by
    rw [← hdn]
    rcases h45 with h | h <;> simp [h]
  obtain ⟨b0, off0, rfl, hb0, hnode⟩ := seg_node hseg hx
  have hkl : k < ns.length := (List.getElem?_eq_some_iff.1 hx).1
  clear hseg hx hc hxs hsz hI hf hG hPR h45
  generalize hlen : l.length = len at *
  have HL := Lib.hid hlen
  clear hlen
  generalize ns.length = lns at *
  cases dn
  all_goals
    simp only [Bool.not_false, Bool.not_true] at e5
    go_enter Tryz.func20, Tryz.ntmps20
    go_wp2_with fail
    refine HI.out.mono ?_
    rintro e w1 ⟨v, rfl, ho, hb1⟩
    have hnode1 := hnode.below hb1 hb0
    have ho2 := ho
    rw [← HL.out] at ho2
    obtain ⟨Ai, ci, hvi, hci, _, hsi⟩ := Seg.of_own ho2
    rw [HL.out] at hvi hci
    subst hvi
    clear ho ho2
    go_wp2_with (first | (refine wpList_load_node rfl _ rfl _ _ rfl _ (by repeat (first | apply NodeAt.row | (apply Blk.new'; first | rfl | (simp; done)) | (apply Blk.node; apply Blk.new'; first | rfl | (simp; done)) | assumption | apply NodeAt.alloc)) ?_) | (refine wpList_alloc_node rfl rfl ?_) | (refine wpList_store_node rfl _ _ rfl _ _ _ rfl rfl _ (by repeat (first | (apply Blk.new'; first | rfl | (simp; done)) | assumption | apply Blk.alloc)) ?_))
    have hW0 : Below w.heap.size w (w1.alloc (.cells (nc x) 40)) := andAlloc hb1 _
    have hBL : Blk (w1.alloc (.cells (nc x) 40)) w1.heap.size 40 (nc x) := Blk.new' rfl
    have hSG : Seg (w1.alloc (.cells (nc x) 40)) (w1.alloc (.cells (nc x) 40)).heap.size Ai (l.flatMap ncs) := Seg.belowW hsi (andAlloc (Below.refl _ _) _)
    clear hb1 hnode1 hsi
    generalize w1.alloc (.cells (nc x) 40) = W at hW0 hBL hSG ⊢
    generalize w1.heap.size = g8 at hBL ⊢
    have HW0 := Lib.hid hW0
    have HBL := Lib.hid hBL
    have HSG := Lib.hid hSG
    clear hW0 hBL hSG
    go_loopw [9, 10] (fun v9 v10 wr => ∃ a : Nat, v10 = .int .i64 (a : Int) ∧ InvK l W G a v9 wr) (fun _ v10 _ => len - (intOf v10).toNat)
    case atStart => exact ⟨0, rfl, ⟨xs, [], HST.out, HG.out, by simp, World.ownsRow_nil _ _ _ _⟩, Below.refl _ _⟩
    case round =>
      obtain ⟨a, rfl, hK⟩ := hrel
      obtain ⟨ys, s, hst, hR, h1, hO⟩ := hK.rest
      have HLOW := Lib.hid hK.low
      have hal := hst.le
      rw [HL.out] at hal
      by_cases hlt : a < len
      · obtain ⟨m, zs, y, rfl, hm, hm1, ham, hst', _, hy, h6, h11⟩ := hst.step (by rw [HL.out]; exact hl) (by rw [HL.out]; exact hlt)
        rw [HL.out] at ham
        obtain ⟨b, off, rfl, hb, hnd⟩ := seg_node HSG.out hy
        obtain ⟨c0, c7, c8, c9, c10, c11⟩ := cells5 hnd HLOW.out hb
        have HS := Lib.hid (And.intro hst' (And.intro hR hO))
        have HX := Lib.hid (And.intro hy hm)
        have HB := Lib.hid (beg_of hy h6 h11)
        have HH := Lib.hid h1
        have hal1 : (a : Int) + m ≤ len := by omega
        clear hst' hR hO hy hm hnd hK hst h1 h6 h11
        by_cases k7 : y.kind = 7
        · have e7 : (y.kind == 7) = true := by simp [k7]
          have HK := Lib.hid (skstep_yes (s := s) HX.out.1 k7)
          clear k7
          go_wp2_with (first
            | (refine wpList_ex (o := ⟨some 53, _, _, _, _, _⟩) (v := .slice (some ⟨wr.heap.size, 0, none⟩) 1 1) (w' := wr.alloc (.cells #[.int .i64 y.gn, .int .i64 y.gs, .int .i64 y.gh, .int .i64 y.ga, .int .i64 y.gb] 38)) rfl (by kernel_rfl) ?_)
            | (at_builtin; refine wpList_push rfl (.tmp 47) (.tmp 53) 77 rfl W.heap.size 38 _ 5 40 Tryz.underlying77 info_glue rfl (by decide) (by decide) _ _ _ rfl HS.out.2.2 HLOW.out.size #[.int .i64 y.gn, .int .i64 y.gs, .int .i64 y.gh, .int .i64 y.ga, .int .i64 y.gb] rfl rfl rfl rfl (by have := HH.out; omega) ?_; intro v3 W3 hown3 hg3 hnn3; have HO3 := Lib.hid hown3; have HL3 := Lib.hid (below_grown (Nat.le_refl _) (andAlloc HLOW.out _) hg3 (fun q hq => (HS.out.2.2.lt q hq).1)); clear hown3 hg3 hnn3)
            | (go_at_call 44; refine (HIT.out _ ci a m _ (Seg.belowW HSG.out HL3.out) HB.out HX.out.2).mono ?_; rintro e w5 ⟨rfl, hb5⟩; have HB5 := Lib.hid hb5; clear hb5))
          go_roundw
          case rel =>
            refine ⟨a + m, by go_num, ⟨zs, _, HS.out.1, HS.out.2.1, ?_, ?_⟩, andThen HL3.out HB5.out⟩
            · rw [HK.out]; have := HH.out; simp only [List.length_append, List.length_cons, List.length_nil]; omega
            · rw [HK.out]
              have h := own_below HO3.out HB5.out
              simpa [List.flatMap_append, gOf, Gl.G.vals] using h
          case measure => simp [intOf]; omega
        · have e7 : (y.kind == 7) = false := by simp [k7]
          have HK := Lib.hid (skstep_no (s := s) HX.out.1 k7)
          clear k7
          go_wp2_with (go_at_call 44; refine (HIT.out _ ci a m _ (Seg.belowW HSG.out HLOW.out) HB.out HX.out.2).mono ?_; rintro e w5 ⟨rfl, hb5⟩; have HB5 := Lib.hid hb5; clear hb5)
          go_roundw
          case rel =>
            refine ⟨a + m, by go_num, ⟨zs, _, HS.out.1, HS.out.2.1, ?_, ?_⟩, andThen HLOW.out HB5.out⟩
            · rw [HK.out]; have := HH.out; omega
            · rw [HK.out]; exact own_below HS.out.2.2 HB5.out
          case measure => simp [intOf]; omega
      · obtain rfl : a = len := by omega
        have he : ys = [] := (show Stand l l.length ys from HL.out ▸ hst).done
        subst he
        have hsG : s = G := hR
        subst hsG
        obtain ⟨AG, cG, hvG, hcG, _, hsG⟩ := Seg.of_own hO
        subst hvG
        have HRW := Lib.hid (show Gl.Row wr AG s from hsG)
        have hnx : NodeAt wr g8 0 x := (Blk.node HBL.out).below HLOW.out HBL.out.lt
        clear hst hR hO hsG h1 hK hal
        have hlw1 := HLOW.out
        have c12 : wr.cell? ⟨g8, 12, none⟩ = some (.int .i64 x.sign) := Blk.cell (HBL.out.below hlw1 HBL.out.lt) 12
        have c13 : wr.cell? ⟨g8, 13, none⟩ = some (.int .i64 x.order) := Blk.cell (HBL.out.below hlw1 HBL.out.lt) 13
        have c14 : wr.cell? ⟨g8, 14, none⟩ = some (.int .i64 x.num) := Blk.cell (HBL.out.below hlw1 HBL.out.lt) 14
        have c15 : wr.cell? ⟨g8, 15, none⟩ = some (.int .i64 x.den) := Blk.cell (HBL.out.below hlw1 HBL.out.lt) 15
        clear hlw1
        have HSZO := Lib.hid (HSS.out AG cG wr HRW.out)
        by_cases hE : Gl.szE s x.sign x.order x.num x.den = 0
        · have hpr : PR = ((plF l f xs ⟨0, Gl.szL s x.sign x.order x.num x.den, []⟩).out, 0) := by
            rw [← HPR.out]
            unfold plcR
            rw [HG.out, if_pos hE]
          have HPP := Lib.hid hpr
          have hszi := Gl.szL_in hE
          have HSI := Lib.hid hszi
          have HE := Lib.hid hE
          clear hpr hszi hE HPR
          go_wp2_with fail
          refine HSZO.out.mono ?_
          rintro e w5 ⟨hs5, hb5⟩
          rw [if_pos HE.out] at hs5
          obtain ⟨v5, rfl, own5⟩ := hs5
          have own5' := own5
          rw [← HSI.out.1] at own5'
          obtain ⟨As, cs, hvs, hcs, _, hss⟩ := Seg.of_own own5'
          subst hvs
          have HB5 := Lib.hid (andThen HLOW.out hb5)
          have HSS5 := Lib.hid hss
          clear own5 own5' hb5 hss c12 c13 c14 c15 HSZO
          generalize hZ : Gl.szL s x.sign x.order x.num x.den = Z at *
          generalize hPF : plF l f xs ⟨0, Z, []⟩ = PF at *
          have HPF := Lib.hid hPF
          clear hPF hZ hnx hnode hb0 hkl
          obtain ⟨gx, hgx⟩ : ∃ gx, w5.heap.size = gx := ⟨_, rfl⟩
          go_wp2_with fail
          go_loopw [11, 14, 15] (fun v11 v14 v15 wr2 => ∃ j : Nat, v15 = .int .i64 (j : Int) ∧ InvL l f w5 w5.heap.size PF j v11 v14 wr2) (fun _ _ v15 _ => a - (intOf v15).toNat)
          case atStart => exact ⟨0, rfl, xs, ⟨0, Z, []⟩, As, cs, rfl, hcs, HSS5.out, HST.out, HPF.out, ⟨by rw [HG.out]; exact HSI.out.1, HSI.out.2, by simp, rfl⟩, Nat.zero_le _, Blk.new' rfl, World.ownsRow_nil _ _ _ _, andAlloc (Below.refl _ _) _, Nat.le_refl _⟩
          case round =>
            obtain ⟨j, rfl, hL⟩ := hrel
            obtain ⟨ys, ⟨x2, sz2, out2⟩, A2, c2, rfl, hc2, hsg2, hst, hR, hP, hlen2, hM⟩ := hL.rest
            rw [hgx] at hM ⊢
            simp only at hc2 hsg2 hR hP hlen2 hM ⊢
            have hx0 : wr.cell? ⟨gx, 0, none⟩ = some (.int .i64 x2) := Blk.cell hM.blk 0
            have HMP := Lib.hid hM
            have hxb := hP.x
            simp only at hxb
            have hal := hst.le
            rw [HL.out] at hal
            by_cases hlt2 : j < a
            · obtain ⟨m, zs, y, rfl, hm, hm1, ham, hst', _, hy, h6, h11⟩ := hst.step (by rw [HL.out]; exact hl) (by rw [HL.out]; exact hlt2)
              rw [HL.out] at ham
              obtain ⟨b, off, rfl, hb, hnd⟩ := seg_node HSG.out hy
              have HND := Lib.hid (fun w' (h : Below w5.heap.size w5 w') => show w'.cell? ⟨b, off + j * 19, none⟩ = some (.int .i64 y.kind) from (cells5 hnd (andThen HB5.out h) hb).1)
              have HS := Lib.hid (And.intro hst' hR)
              have HX := Lib.hid (And.intro hy hm)
              have HB := Lib.hid (beg_of hy h6 h11)
              have hal1 : (j : Int) + m ≤ a := by omega
              by_cases k7 : y.kind = 7
              · have e7 : (y.kind == 7) = true := by simp [k7]
                obtain ⟨z, r, hz, hzb, hst1, hin1⟩ := hP.skip hy k7
                simp only at hz
                subst hz
                obtain ⟨b2, off2, rfl, hb2, hz2⟩ := Si.seg_get hsg2 (k := 0) (u := .int .i64 z) rfl
                have HZ2 := Lib.hid (fun w' (h : Below w5.heap.size w5 w') => show w'.cell? ⟨b2, off2, none⟩ = some (.int .i64 z) from (h.cell (p := ⟨b2, off2, none⟩) hb2).trans hz2)
                have HST1 := Lib.hid (And.intro hst1 hin1)
                have HSG2 := Lib.hid (And.intro hb2 hsg2)
                have hx1 : -2305843009213693952 ≤ x2 := by omega
                have hx3 : x2 ≤ 2305843009213693952 := by omega
                have hz1 : -2305843009213693952 ≤ z := by omega
                have hz3 : z ≤ 2305843009213693952 := by omega
                simp only [List.length_cons] at hc2 ⊢
                have HLE := Lib.hid hlen2
                clear hM hst' hR hy hm hnd hL hst hP h6 h11 k7 hz2 hst1 hin1 hsg2 hlen2 hxb hzb hb2
                go_wp2_with (first
                  | (at_builtin; refine wpList_push rfl (.tmp 82) (.tmp 84) 47 rfl (gx + 1) 3 _ 1 8 Tryz.underlying47 info_int rfl (by decide) (by decide) _ _ _ rfl HMP.out.own HMP.out.blk.lt #[.int .i64 x2] rfl rfl rfl rfl (by have := HLE.out; omega) ?_; intro v3 W3 hown3 hg3 hnn3; have HM3 := Lib.hid ((HMP.out.below (andAlloc (Below.refl _ _) _)).push hown3 hg3); have cy3 := HND.out _ HM3.out.low; have cz3 := HZ2.out _ HM3.out.low; clear hown3 hg3 hnn3)
                  | (go_at_call 46; refine (grow_any gx x2 z _ HM3.out.blk hx1 hx3 hz1 hz3).mono ?_; rintro e w7 ⟨rfl, hb7, hg7⟩; have HM7 := Lib.hid (HM3.out.turn hb7 hg7); clear hb7 hg7)
                  | (go_at_call 44; refine (HIT.out _ ci j m _ (Seg.belowW HSG.out (andThen HB5.out HM7.out.low)) HB.out HX.out.2).mono ?_; rintro e w8 ⟨rfl, hb8⟩; have HB8 := Lib.hid hb8; clear hb8))
                go_roundw
                case rel =>
                  refine ⟨j + m, by go_num, ⟨zs, ⟨x2 + z, r, out2 ++ [x2]⟩, if c2 = 1 then some ⟨b2, off2, none⟩ else some ⟨b2, off2 + 1, none⟩, c2 - 1, ?_, by simp only; omega, ?_, HS.out.1, ?_, ?_, ?_, ?_⟩⟩
                  · rfl
                  · simp only
                    have h := HSG2.out.2
                    split
                    · have : r = [] := List.eq_nil_of_length_eq_zero (by omega)
                      subst this
                      exact .inl rfl
                    · have h2 := Seg.drop h 1
                      simpa using h2
                  · have h := HS.out.2
                    rw [plF_cons, HST1.out.1] at h
                    exact h
                  · have h := HST1.out.2
                    rw [HST1.out.1] at h
                    simpa using h
                  · have := HLE.out
                    simp only [List.length_append, List.length_cons, List.length_nil]
                    omega
                  · exact HM7.out.below HB8.out
                case measure => simp [intOf]; omega
              · have e7 : (y.kind == 7) = false := by simp [k7]
                obtain ⟨hst1, hin1⟩ := hP.other hy k7 (HF.out j)
                have HST1 := Lib.hid (And.intro hst1 hin1)
                have hfj := HF.out j
                have hx1 : -2305843009213693952 ≤ x2 := by omega
                have hx3 : x2 ≤ 2305843009213693952 := by omega
                have hz1 : -2305843009213693952 ≤ f j := by omega
                have hz3 : f j ≤ 2305843009213693952 := by omega
                have HK6 := Lib.hid (And.intro h6 h11)
                have HLE := Lib.hid hlen2
                have HSG2 := Lib.hid hsg2
                clear hM hst' hR hy hm hnd hL hst hP h6 h11 k7 hst1 hin1 hsg2 hlen2 hxb hfj
                go_wp2_with (first
                  | (at_builtin; refine wpList_push rfl (.tmp 82) (.tmp 84) 47 rfl (gx + 1) 3 _ 1 8 Tryz.underlying47 info_int rfl (by decide) (by decide) _ _ _ rfl HMP.out.own HMP.out.blk.lt #[.int .i64 x2] rfl rfl rfl rfl (by have := HLE.out; omega) ?_; intro v3 W3 hown3 hg3 hnn3; have HM3 := Lib.hid ((HMP.out.below (andAlloc (Below.refl _ _) _)).push hown3 hg3); have cy3 := HND.out _ HM3.out.low; have cg3 : W3.cell? ⟨g8, 0, none⟩ = some (.int .i64 x.kind) := Blk.cell (HBL.out.below (andThen HB5.out HM3.out.low) HBL.out.lt) 0; clear hown3 hg3 hnn3)
                  | (go_at_call 47; refine (HSZ.out j y HX.out.1 HK6.out.1 HK6.out.2 _ ci _ hci (Seg.belowW HSG.out (andThen HB5.out HM3.out.low))).mono ?_; rintro e w6 ⟨rfl, hb6⟩; have HM6 := Lib.hid (HM3.out.below hb6); clear hb6)
                  | (go_at_call 46; refine (grow_any gx x2 (f j) _ HM6.out.blk hx1 hx3 hz1 hz3).mono ?_; rintro e w7 ⟨rfl, hb7, hg7⟩; have HM7 := Lib.hid (HM6.out.turn hb7 hg7); clear hb7 hg7)
                  | (go_at_call 44; refine (HIT.out _ ci j m _ (Seg.belowW HSG.out (andThen HB5.out HM7.out.low)) HB.out HX.out.2).mono ?_; rintro e w8 ⟨rfl, hb8⟩; have HB8 := Lib.hid hb8; clear hb8))
                go_roundw
                case rel =>
                  refine ⟨j + m, by go_num, ⟨zs, ⟨x2 + f j, sz2, out2 ++ [x2]⟩, A2, c2, rfl, hc2, HSG2.out, HS.out.1, ?_, ?_, ?_, ?_⟩⟩
                  · have h := HS.out.2
                    rw [plF_cons, HST1.out.1] at h
                    exact h
                  · have h := HST1.out.2
                    rw [HST1.out.1] at h
                    simpa using h
                  · have := HLE.out
                    simp only [List.length_append, List.length_cons, List.length_nil]
                    omega
                  · exact HM7.out.below HB8.out
                case measure => simp [intOf]; omega
            · obtain rfl : j = a := by omega
              have he : ys = [] := (show Stand l l.length ys from HL.out ▸ hst).done
              subst he
              have hPo : PF.out = out2 := by
                have h : (⟨x2, sz2, out2⟩ : Plc) = PF := hR
                rw [← h]
              have HPO := Lib.hid hPo
              clear hst hR hP hM hL hPo hsg2
              go_wp2_with fail
              go_ret2
              rw [HPP.out]
              refine ⟨u14, rfl, ?_, andThen HW0.out (andThen HB5.out HMP.out.low)⟩
              simp only
              rw [HPO.out]
              exact own_base HMP.out.own (by have := HMP.out.gl; have := HW0.out.size; have := HB5.out.size; omega)
        · have hpr : PR = ([], Gl.szE s x.sign x.order x.num x.den) := by
            rw [← HPR.out]
            unfold plcR
            rw [HG.out, if_neg hE]
          have HPP := Lib.hid hpr
          have HE := Lib.hid hE
          clear hpr hE HPR
          go_wp2_with fail
          refine HSZO.out.mono ?_
          rintro e w5 ⟨hs5, hb5⟩
          rw [if_neg HE.out] at hs5
          subst hs5
          clear HSZO
          generalize Gl.szE s x.sign x.order x.num x.den = E at *
          have e0 : (E != 0) = true := by simp [HE.out]
          go_wp2_with fail
          go_ret2
          rw [HPP.out]
          exact PlOut.no (andThen HW0.out (andThen HLOW.out hb5)) _
end Go.Proofs.YtoboecenlangmaaGreatDoor.Pk
end
section
namespace Go.Proofs.YtoboecenlangmaaGreatDoor.Pk
open Go.ChangeShapes Go.WideShapes Go.ChangeAt Go.RowKit
open Me Np No
set_option linter.unusedVariables false
set_option linter.unusedSimpArgs false

def bitN : Nd := { nz 1 with char := 97, wd := 327680, ht := 262144 }
def gluN : Nd := { nz 7 with gn := 65536, gs := 131072, gh := 65536 }
def l3 : List Nd := [bitN, gluN, bitN]
theorem bit_right : right bitN = true := right_s bitN 1 rfl rfl rfl rfl
theorem glu_right : right gluN = true := right_s gluN 7 rfl rfl rfl rfl
theorem end_right : right (nz 6) = true := right_s (nz 6) 6 rfl rfl rfl rfl
theorem l3_chk : chk l3 = 0 := by
  have h : Np.run l3 ([], 0) = some ([], 1) := by
    simp only [l3, Np.run, stp, bit_right, glu_right]
    rfl
  unfold chk
  rw [h]
  rfl
theorem l3_its : Its [0, 1, 2] l3 0 := ⟨rfl, 1, rfl, rfl, 1, rfl, rfl, 1, rfl, rfl⟩
theorem l3_part : partD l3 = (l3, []) := by
  unfold partD
  rw [itsD_of l3_its]
  rfl
theorem l3_al : alD l3 false 0 = 327680 ∧ alD l3 false 1 = 65536 ∧ alD l3 false 2 = 327680 :=
  ⟨alD_of ⟨bitN, rfl, rfl⟩, alD_of ⟨gluN, rfl, rfl⟩, alD_of ⟨bitN, rfl, rfl⟩⟩
theorem l3_tot : totD l3 false [0, 1, 2] = ⟨720896, [131072, 0, 0, 0], [65536, 0, 0, 0]⟩ := by
  have h : ∀ al : Nat → Int, al 0 = 327680 → al 1 = 65536 → al 2 = 327680 → tsum l3 al [0, 1, 2] tz = ⟨720896, [131072, 0, 0, 0], [65536, 0, 0, 0]⟩ := by
    intro al h0 h1 h2
    simp only [tsum, h0, h1, h2]
    rfl
  exact h _ l3_al.1 l3_al.2.1 l3_al.2.2
theorem l3_ext : extD l3 false [0, 1, 2] = (262144, 0) := by
  have h0 : roD l3 0 = (262144, 0) := roD_of ⟨bitN, rfl, rfl⟩
  have h1 : roD l3 1 = (0, 0) := roD_of ⟨gluN, rfl, rfl⟩
  have h2 : roD l3 2 = (262144, 0) := roD_of ⟨bitN, rfl, rfl⟩
  have h : ∀ ra : Nat → Int × Int, ra 0 = (262144, 0) → ra 1 = (0, 0) → ra 2 = (262144, 0) → rfold ra [0, 1, 2] (0, 0) = (262144, 0) := by
    intro ra h0 h1 h2
    simp only [rfold, h0, h1, h2]
    rfl
  exact h _ h0 h1 h2
theorem l3_msr : Msr l3 false 720896 131072 0 0 0 65536 0 0 0 0 262144 0 0 := by
  have ht := fun A k w h hs => totals_any A l3 k [0, 1, 2] false w l3_chk h hs l3_its
  have hR : totR l3 false [0, 1, 2] = ⟨720896, [131072, 0, 0, 0], [65536, 0, 0, 0]⟩ := by
    unfold totR
    rw [l3_tot]
    rfl
  have hu := fun A k w h hs => extent_good A l3 k [0, 1, 2] false w l3_chk h hs l3_its
  simp only [hR, l3_tot] at ht
  simp only [l3_ext] at hu
  exact ⟨ht, hu, fun _ => rfl, fun _ => ⟨rfl, rfl, rfl, rfl, rfl, rfl, rfl, rfl⟩, fun _ => .inl rfl, fun _ => ⟨rfl, rfl⟩⟩
/-- The box around them. -/
def boxN : Nd := fitN (hN 851968 262144 0) (1, 0, 131072, 131072)
theorem box_right : right boxN = true := right_s boxN 4 rfl rfl rfl rfl
theorem box_chk : chk (wrapL boxN l3) = 0 := by
  have h : Np.run (wrapL boxN l3) ([], 0) = some ([], 2) := by
    simp only [wrapL, l3, List.cons_append, List.nil_append, Np.run, stp, bit_right, glu_right, box_right, end_right]
    rfl
  unfold chk
  rw [h]
  rfl
theorem live_hpack (A : Option Addr) (k : Nat) (w : World) (hk : 3 ≤ k) (hs : Seg w w.heap.size A (l3.flatMap ncs)) : Calls Tryz.prog 8 #[.slice A 3 k, .int .i64 851968, .bool true] w (HOut (wrapL boxN l3, [], 100, 0, 0) w) := by
  have h := hpack_t A l3 l3 [] (wrapL boxN l3) k 851968 w l3_chk hk hs rfl l3_part 720896 131072 0 0 0 65536 0 0 0 0 262144 0 0 0 851968 l3_msr rfl (fun A c' w hs => (wrap_ok boxN A l3 c' w hs box_right rfl (by decide) l3_chk box_chk).mono (by rintro e w' ⟨v, rfl, h, hb⟩; exact ⟨v, rfl, h, hb⟩))
  have e : hpkR 0 0 (dimB 851968) 0 (wrapL boxN l3) [] (setV (fitN (hN 851968 262144 0) (Gl.fit 131072 0 0 0 65536 0 0 0 (851968 - 720896))) 131072 65536 ((l3.length : Int) == 0) (851968 - 720896) (0, 0)).1 (setV (fitN (hN 851968 262144 0) (Gl.fit 131072 0 0 0 65536 0 0 0 (851968 - 720896))) 131072 65536 ((l3.length : Int) == 0) (851968 - 720896) (0, 0)).2 = (wrapL boxN l3, [], 100, 0, 0) := by kernel_rfl
  rw [e] at h
  exact h
theorem live_sizes : Gl.szE [gOf gluN] 1 0 131072 131072 = 0 ∧ Gl.szL [gOf gluN] 1 0 131072 131072 = [196608] := by
  have hr : Gl.rowE [gOf gluN] = 0 := by decide
  have ha : Gl.argOk 1 0 = true := by decide
  have hg : Gl.rngOk 1 131072 131072 = true := by decide
  have hz : Gl.run 1 0 131072 131072 [gOf gluN] = some ⟨131072, 131072, [196608]⟩ := by kernel_rfl
  exact Gl.szE_some hr ha hg hz
theorem live_places (A : Option Addr) (k : Nat) (w : World) (hk : 5 ≤ k) (hs : Seg w w.heap.size A ((wrapL boxN l3).flatMap ncs)) : Calls Tryz.prog 20 #[.slice A 5 k, .int .i64 0] w (PlOut [0, 327680, 524288] 0 w) := by
  obtain ⟨f, hf, hv, hz⟩ := size_case l3 false l3_chk
  have f0 : f 0 = 327680 := hv 0 bitN rfl (.inr (by decide))
  have f2 : f 2 = 327680 := hv 2 bitN rfl (.inr (by decide))
  have hin : innerL (wrapL boxN l3) 0 5 = l3 := rfl
  have hI := inside_ok A (wrapL boxN l3) k 0 5 boxN w hk hs box_chk rfl rfl rfl rfl
  rw [hin] at hI
  have h := places_ok A (wrapL boxN l3) l3 k 0 boxN [0, 1, 2] f w hk (by decide) hs rfl (.inl rfl) hI l3_chk l3_its hf hz
  have e : plcR boxN l3 f [0, 1, 2] = ([0, 327680, 524288], 0) := by
    unfold plcR
    have hg : skF l3 [0, 1, 2] [] = [gOf gluN] := rfl
    rw [hg]
    have h1 : Gl.szE [gOf gluN] boxN.sign boxN.order boxN.num boxN.den = 0 := live_sizes.1
    have h2 : Gl.szL [gOf gluN] boxN.sign boxN.order boxN.num boxN.den = [196608] := live_sizes.2
    rw [h1, h2, if_pos rfl]
    have h3 : ∀ f : Nat → Int, f 0 = 327680 → f 2 = 327680 → (plF l3 f [0, 1, 2] ⟨0, [196608], []⟩).out = [0, 327680, 524288] := by
      intro f h0 h2
      show [(0 : Int), 0 + f 0, 0 + f 0 + 196608] = _
      rw [h0]
      rfl
    rw [h3 f f0 f2]
  rw [e] at h
  exact h
end Go.Proofs.YtoboecenlangmaaGreatDoor.Pk
end
section
namespace Go.Proofs.YtoboecenlangmaaGreatDoor.Pk
open Go.ChangeShapes Go.WideShapes Go.ChangeAt Go.RowKit
open Me Np No
set_option linter.unusedVariables false
set_option linter.unusedSimpArgs false

theorem num6_any (x : Int) (w : World) : Calls Tryz.prog 9 #[.int .i64 x] w fun e w' => e = .returned (.int .i64 x) ∧ w = w' := by
  go_enter Tryz.func9, Tryz.ntmps9
  go_wp2
  go_ret
  exact ⟨rfl, rfl⟩
section
attribute [local go_sem ↓] bldN_eq
set_option maxRecDepth 100000 in
theorem bit_any (w : World) : Calls Tryz.prog 18 #[] w fun e w' => e = .returned (.agg (nc bitN)) ∧ Below w.heap.size w w' := by
  have hbn : ∀ w, (bldN #[(0, .int .i64 1), (2, .int .u8 97), (3, .int .i64 327680), (4, .int .i64 262144)]).run Tryz.prog w = .ok (.agg (nc bitN)) w := fun w => by rw [← bldN_eq]; exact run_build w 40 _ _ (by kernel_rfl)
  go_enter Tryz.func18, Tryz.ntmps18
  go_wp2_with (first | (refine wpList_alloc_node rfl rfl ?_) | (refine wpList_store_node rfl _ _ rfl _ _ _ rfl rfl _ (by repeat (first | (apply Blk.new'; first | rfl | (simp; done)) | assumption | apply Blk.alloc)) ?_))
  exact bodyPost_ret (v := .agg (nc bitN)) (results_node rfl _ _ _ _ rfl (by repeat (first | apply NodeAt.row | (apply Blk.new'; first | rfl | (simp; done)) | (apply Blk.node; apply Blk.new'; first | rfl | (simp; done)) | assumption | apply NodeAt.alloc))) rfl ⟨rfl, (by repeat (first | (refine below_setRow ?_ _ _ ?_; rotate_left; focus (simp; done)) | exact Below.refl _ _ | refine andAlloc ?_ _))⟩
set_option maxRecDepth 100000 in
theorem glu_any (w : World) : Calls Tryz.prog 19 #[] w fun e w' => e = .returned (.agg (nc gluN)) ∧ Below w.heap.size w w' := by
  have hbn : ∀ w, (bldN #[(0, .int .i64 7), (7, .agg #[.int .i64 65536, .int .i64 131072, .int .i64 65536, .int .i64 0, .int .i64 0])]).run Tryz.prog w = .ok (.agg (nc gluN)) w := fun w => by rw [← bldN_eq]; exact run_build w 40 _ _ (by kernel_rfl)
  go_enter Tryz.func19, Tryz.ntmps19
  go_wp2_with (first | (refine wpList_alloc_node rfl rfl ?_) | (refine wpList_build_eq (o := ⟨some 1, _, _, _, _, _⟩) rfl _ _ rfl #[.int .i64 65536, .int .i64 131072, .int .i64 65536, .int .i64 0, .int .i64 0] (by kernel_rfl) ?_) | (refine wpList_build_eq (o := ⟨some 2, _, _, _, _, _⟩) rfl _ _ rfl (nc gluN) (by kernel_rfl) ?_) | (refine wpList_store_node rfl _ _ rfl _ _ _ rfl rfl _ (by repeat (first | (apply Blk.new'; first | rfl | (simp; done)) | assumption | apply Blk.alloc)) ?_))
  exact bodyPost_ret (v := .agg (nc gluN)) (results_node rfl _ _ _ _ rfl (by repeat (first | apply NodeAt.row | (apply Blk.new'; first | rfl | (simp; done)) | (apply Blk.node; apply Blk.new'; first | rfl | (simp; done)) | assumption | apply NodeAt.alloc))) rfl ⟨rfl, (by repeat (first | (refine below_setRow ?_ _ _ ?_; rotate_left; focus (simp; done)) | exact Below.refl _ _ | refine andAlloc ?_ _))⟩
end
theorem l3_seg {w : World} {g : Nat} (hg : g = w.heap.size) : Seg (w.alloc (.cells (l3.flatMap ncs).toArray 40)) (w.alloc (.cells (l3.flatMap ncs).toArray 40)).heap.size (some ⟨g, 0, none⟩) (l3.flatMap ncs) := by
  subst hg
  refine .inr ⟨w.heap.size, 0, rfl, by simp, fun j u hu => ?_⟩
  rw [Nat.zero_add, (Blk.new w _ _).cell j]
  simpa using hu
theorem blk_seg {w : World} {g B : Nat} {t : TypeId} {cs : Array Value} {xs : List Value} (h : Blk w g t cs) (hB : g < B) (hx : cs.toList = xs) : Seg w B (some ⟨g, 0, none⟩) xs :=
  .inr ⟨g, 0, rfl, hB, fun j u hu => by rw [Nat.zero_add, h.cell j]; rw [← hx] at hu; simpa using hu⟩
set_option maxRecDepth 100000 in
theorem live_any (w : World) : Calls Tryz.prog 7 #[] w fun e w' => e = .returned (.bool true) ∧ Below w.heap.size w w' := by
  go_enter Tryz.func7, Tryz.ntmps7
  go_wp2_with fail
  refine (bit_any _).mono ?_
  rintro e w1 ⟨rfl, hb1⟩
  go_wp2_with fail
  refine (glu_any _).mono ?_
  rintro e w2 ⟨rfl, hb2⟩
  go_wp2_with fail
  refine (bit_any _).mono ?_
  rintro e w3 ⟨rfl, hb3⟩
  have hl3 : Below w.heap.size w w3 := andThen (andThen hb1 hb2) hb3
  clear hb1 hb2 hb3
  go_wp2_with (first | (refine wpList_ex (o := ⟨some 12, _, _, _, _, _⟩) (v := .slice (some ⟨w3.heap.size, 0, none⟩) 3 3) (w' := w3.alloc (.cells (l3.flatMap ncs).toArray 40)) rfl (by kernel_rfl) ?_))
  refine (live_hpack (some ⟨w3.heap.size, 0, none⟩) 3 _ (by omega) (l3_seg rfl)).mono ?_
  rintro e w4 ⟨va, vb, rfl, ho, hb4⟩
  have HL4 := Lib.hid (andThen (andAlloc hl3 (.cells (l3.flatMap ncs).toArray 40)) hb4)
  obtain ⟨Aa, ca, e0, hca, _, hsa⟩ := Seg.of_own ho.one
  simp only at e0
  subst e0
  clear hb4 hl3 ho
  simp only
  go_wp2_with fail
  refine (live_places Aa ca w4 hca hsa).mono ?_
  rintro e w5 ⟨v5, rfl, ho5, hb5⟩
  obtain ⟨A5, c5, e5, hc5, _, hs5⟩ := Seg.of_own ho5
  subst e5
  have HL5 := Lib.hid (andThen HL4.out hb5)
  clear hb5 ho5 hsa
  go_wp2_with (go_at_call 9; refine (num6_any _ _).mono ?_; rintro e w' ⟨rfl, rfl⟩)
  have hb6 : Below w5.heap.size w5 (w5.alloc (.cells #[.int .i64 0, .int .i64 327680, .int .i64 524288] 3)) := andAlloc (Below.refl _ _) _
  refine (Si.same_ints A5 (some ⟨w5.heap.size, 0, none⟩) [0, 327680, 524288] [0, 327680, 524288] c5 3 _ (by decide) (by decide) (Seg.belowW hs5 hb6) (blk_seg (Blk.new' rfl) (by simp) rfl)).mono ?_
  rintro e w6 ⟨rfl, hb7⟩
  go_wp2_with fail
  go_ret
  exact ⟨rfl, andThen (andThen HL5.out hb6) hb7⟩
end Go.Proofs.YtoboecenlangmaaGreatDoor.Pk
end
section
namespace Go.Proofs.YtoboecenlangmaaGreatDoor.Pk
open Go.ChangeShapes Go.WideShapes Go.ChangeAt Go.RowKit
open Me Sc Ss
set_option linter.unusedVariables false
set_option linter.unusedSimpArgs false

theorem enc1 {n : Nat} (h : n ≤ 9) : Utf8.encode (48 + (n : Int)) = d1T n := by
  have : ∀ k : Fin 10, Utf8.encode (48 + ((k.val : Nat) : Int)) = d1T k.val := by decide +kernel
  exact this ⟨n, by omega⟩
@[irreducible] def encT (n : Nat) : ByteArray := Utf8.encode (48 + (n : Int))
theorem encT_eq {n : Nat} (h : n ≤ 9) : encT n = d1T n := by unfold encT; exact enc1 h
theorem convD (n : Nat) (w : World) : (convert 21 9 (.int .i32 (48 + (n : Int)))).run Tryz.prog w = .ok (.string (encT n)) w := by
  unfold encT
  exact run_convert_int_string w _ _ _ _ (by kernel_rfl) Tryz.underlying9
attribute [local go_sem ↓] convD
set_option maxRecDepth 100000 in
theorem pnum_lt (n : Nat) (hn : n < 10) (w : World) : Calls Tryz.prog 41 #[.int .i64 n] w fun e w' => e = .returned (.string (numT n)) ∧ w' = w := by
  have HD := Lib.hid (show d1T n = numT n by unfold numT; rw [Lib.decDigits, dif_pos hn]; rfl)
  have HC := Lib.hid (encT_eq (n := n) (by omega))
  have e1 : IntKind.i64.wrap (48 + (n : Int)) = 48 + n := IntWalk.i64_in _ (by omega)
  have e2 : IntKind.i32.wrap (48 + (n : Int)) = 48 + n := IntWalk.i32_in _ (by omega)
  go_enter Tryz.func41, Tryz.ntmps41
  go_wp2_with fail
  go_ret
  exact ⟨ret_strM (HC.out.trans HD.out), rfl⟩
set_option maxHeartbeats 1000000 in
set_option maxRecDepth 100000 in
theorem pnum_all : ∀ (m n : Nat) (w : World), n ≤ m → n ≤ 9223372036854775807 → Calls Tryz.prog 41 #[.int .i64 n] w fun e w' => e = .returned (.string (numT n)) ∧ w' = w := by
  intro m
  induction m with
  | zero => exact fun n w h _ => pnum_lt n (by omega) w
  | succ m ih =>
    intro n w h hb
    by_cases hn : n < 10
    · exact pnum_lt n hn w
    · obtain ⟨Q, hQ⟩ : ∃ Q, Q = n / 10 := ⟨_, rfl⟩
      obtain ⟨R, hR⟩ : ∃ R, R = n % 10 := ⟨_, rfl⟩
      have HQ := Lib.hid fun w => ih Q w (by omega) (by omega)
      have r1 : R ≤ 9 := by omega
      have e1 : (n : Int).tdiv 10 = Q := by rw [Int.tdiv_eq_ediv_of_nonneg (by omega)]; omega
      have e2 : (n : Int).tmod 10 = R := by rw [Int.tmod_eq_emod_of_nonneg (by omega)]; omega
      have e3 : IntKind.i64.wrap (Q : Int) = Q := IntWalk.i64_in _ (by omega)
      have e4 : IntKind.i64.wrap (R : Int) = R := IntWalk.i64_in _ (by omega)
      have e5 : IntKind.i64.wrap (48 + (R : Int)) = 48 + R := IntWalk.i64_in _ (by omega)
      have e6 : IntKind.i32.wrap (48 + (R : Int)) = 48 + R := IntWalk.i32_in _ (by omega)
      have HC := Lib.hid (encT_eq r1)
      have hge : (10 : Int) ≤ n := by omega
      have hz1 : (numT Q).size ≤ 20 := numT_size (by omega)
      have hz2 : (encT R).size ≤ 1 := by rw [encT_eq r1]; exact Nat.le_refl _
      have HH := Lib.hid (And.intro hQ hR)
      clear ih hQ hR
      go_enter Tryz.func41, Tryz.ntmps41
      go_wp2_with fail
      refine (HQ.out _).mono ?_
      rintro e w1 ⟨rfl, rfl⟩
      go_wp2_with fail
      go_ret
      exact ⟨ret_strM ((congrArg _ HC.out).trans (numT_step hn HH.out.1 HH.out.2)), rfl⟩
theorem pnum (n : Nat) (w : World) (h : n ≤ 9223372036854775807) : Calls Tryz.prog 41 #[.int .i64 n] w fun e w' => e = .returned (.string (numT n)) ∧ w' = w := pnum_all n n w (Nat.le_refl _) h
/-- A whole number as a text. -/
def whT (z : Int) : ByteArray := if z < 0 then ⟨#[45]⟩ ++ numT (-z).toNat else numT z.toNat
theorem whT_size {z : Int} (h0 : -9223372036854775807 ≤ z) (h1 : z ≤ 9223372036854775807) : (whT z).size ≤ 21 := by
  unfold whT
  split
  · have := numT_size (n := (-z).toNat) (by omega)
    rw [ByteArray.size_append]
    show 1 + _ ≤ 21
    omega
  · have := numT_size (n := z.toNat) (by omega)
    omega
theorem whole_any (z : Int) (w : World) (h0 : -9223372036854775807 ≤ z) (h1 : z ≤ 9223372036854775807) : Calls Tryz.prog 15 #[.int .i64 z] w fun e w' => e = .returned (.string (whT z)) ∧ w' = w := by
  by_cases hn : z < 0
  · obtain ⟨n, hz⟩ : ∃ n : Nat, z = -(n : Int) := ⟨(-z).toNat, by omega⟩
    subst hz
    have HW := Lib.hid (show whT (-(n : Int)) = ⟨#[45]⟩ ++ numT n by unfold whT; rw [if_pos hn]; simp)
    have e1 : IntKind.i64.wrap (n : Int) = n := IntWalk.i64_in _ (by omega)
    have hp : (0 : Int) < n := by omega
    have hsz : (numT n).size ≤ 20 := numT_size (by omega)
    have HN := Lib.hid (pnum n w (by omega))
    clear hn
    go_enter Tryz.func15, Tryz.ntmps15
    go_wp2_with fail
    refine HN.out.mono ?_
    rintro e w1 ⟨rfl, rfl⟩
    go_wp2_with fail
    go_ret
    exact ⟨ret_strM HW.out.symm, rfl⟩
  · obtain ⟨n, hz⟩ : ∃ n : Nat, z = (n : Int) := ⟨z.toNat, by omega⟩
    subst hz
    have HW := Lib.hid (show whT (n : Int) = numT n by unfold whT; rw [if_neg hn]; simp)
    have HN := Lib.hid (pnum n w (by omega))
    go_enter Tryz.func15, Tryz.ntmps15
    go_wp2_with fail
    refine HN.out.mono ?_
    rintro e w1 ⟨rfl, rfl⟩
    go_wp2_with fail
    go_ret
    exact ⟨ret_strM HW.out.symm, rfl⟩
/-- How far the document's whole has come: so much is left, so much stands. -/
def WhP (tgt : ByteArray) (k : Nat) (q : ByteArray) : Prop := q.size ≤ 20 ∧ ((k = 0 ∧ q = tgt) ∨ (0 < k ∧ numT k ++ q = tgt))
theorem d1T_lt {k : Nat} (h : k < 10) : numT k = d1T k := by unfold numT; rw [Lib.decDigits, dif_pos h]; rfl
theorem WhP.step {tgt : ByteArray} {k Q R : Nat} {q : ByteArray} (h : WhP tgt k q) (hk : 0 < k) (hQ : Q = k / 10) (hR : R = k % 10) (ht : tgt.size ≤ 20) : WhP tgt Q (d1T R ++ q) := by
  rcases h.2 with ⟨h0, _⟩ | ⟨_, h2⟩
  · omega
  · have hz := congrArg ByteArray.size h2
    rw [ByteArray.size_append] at hz
    by_cases h10 : k < 10
    · have hR' : R = k := by omega
      subst hR'
      rw [d1T_lt h10] at h2 hz
      refine ⟨by rw [h2]; exact ht, .inl ⟨by omega, h2⟩⟩
    · have hs := numT_step h10 hQ hR
      have hz2 := congrArg ByteArray.size hs
      rw [ByteArray.size_append] at hz2
      refine ⟨by rw [ByteArray.size_append]; omega, .inr ⟨by omega, ?_⟩⟩
      rw [← ByteArray.append_assoc, hs]
      exact h2
set_option maxHeartbeats 4000000 in
set_option maxRecDepth 100000 in
theorem rwhole_pos (n : Nat) (w : World) (hp : 0 < n) (h1 : n ≤ 9223372036854775807) : Calls Tryz.prog 17 #[.int .i64 (n : Int)] w fun e w' => e = .returned (.string (whT (n : Int))) ∧ Below w.heap.size w w' := by
  obtain ⟨tgt, htg⟩ : ∃ t, t = numT n := ⟨_, rfl⟩
  have hts : tgt.size ≤ 20 := by rw [htg]; exact numT_size h1
  have HW := Lib.hid (show whT (n : Int) = tgt by rw [htg]; unfold whT; rw [if_neg (by omega)]; simp)
  have HS := Lib.hid (show WhP tgt n ⟨#[]⟩ from ⟨by show 0 ≤ 20; omega, .inr ⟨hp, by rw [htg]; exact ByteArray.append_empty⟩⟩)
  have hpi : (0 : Int) < n := by omega
  clear htg
  go_enter Tryz.func17, Tryz.ntmps17
  go_wp2_with fail
  go_loopw [0, 4] (fun v o wr => ∃ (k : Nat) (q : ByteArray), k ≤ n ∧ v = .int .i64 (k : Int) ∧ o = .string q ∧ WhP tgt k q ∧ Below w.heap.size w wr) (fun v _ _ => (intOf v).natAbs)
  case atStart => exact ⟨n, _, Nat.le_refl _, rfl, rfl, HS.out, Below.refl _ _⟩
  case round =>
    obtain ⟨k, q, hkn, rfl, rfl, hP, hb⟩ := hrel
    have HP := Lib.hid hP
    have hqs := hP.1
    clear hP
    by_cases hk0 : k = 0
    · subst hk0
      have HQ := Lib.hid (show q = tgt by rcases HP.out.2 with ⟨_, h⟩ | ⟨h, _⟩; exact h; omega)
      go_wp2_with fail
      go_ret
      exact ⟨ret_strM (by rw [HW.out, HQ.out]), hb⟩
    · obtain ⟨Q, hQ⟩ : ∃ Q, Q = k / 10 := ⟨_, rfl⟩
      obtain ⟨R, hR⟩ : ∃ R, R = k % 10 := ⟨_, rfl⟩
      have HN := Lib.hid (HP.out.step (by omega) hQ hR hts)
      have r1 : R ≤ 9 := by omega
      have q1 : Q < k := by omega
      have e1 : (k : Int).tdiv 10 = Q := by rw [Int.tdiv_eq_ediv_of_nonneg (by omega)]; omega
      have e2 : (k : Int).tmod 10 = R := by rw [Int.tmod_eq_emod_of_nonneg (by omega)]; omega
      have e3 : IntKind.i64.wrap (Q : Int) = Q := IntWalk.i64_in _ (by omega)
      have e4 : IntKind.i64.wrap (R : Int) = R := IntWalk.i64_in _ (by omega)
      have e4' : IntKind.i64.wrap (R : Int) = R := IntWalk.i64_in _ (by omega)
      have e5 : IntKind.i64.wrap (48 + (R : Int)) = 48 + R := IntWalk.i64_in _ (by omega)
      have e6 : IntKind.u8.wrap (48 + (R : Int)) = 48 + R := IntWalk.u8_in _ (by omega)
      have hz2 : (d1T R).size ≤ 1 := Nat.le_refl _
      have hk1 : (0 : Int) < k := by omega
      have hcv : (convert 68 9 (.slice (some ⟨wr.heap.size, 0, none⟩) 1 1)).run Tryz.prog (wr.alloc (.cells #[.int .u8 (48 + (R : Int))] 5)) = .ok (.string (d1T R)) (wr.alloc (.cells #[.int .u8 (48 + (R : Int))] 5)) := conv1 _ _ (48 + R) (by omega) (by rw [(Blk.new' rfl).cell 0]; simp)
      clear hQ hR HP
      go_wp2_with fail
      go_roundw
      case rel => exact ⟨Q, _, by omega, rfl, rfl, HN.out, andAlloc hb _⟩
      case measure => simp [intOf]; omega
set_option maxHeartbeats 4000000 in
set_option maxRecDepth 100000 in
theorem rwhole_neg (n : Nat) (w : World) (hp : 0 < n) (h1 : n ≤ 9223372036854775807) : Calls Tryz.prog 17 #[.int .i64 (-(n : Int))] w fun e w' => e = .returned (.string (whT (-(n : Int)))) ∧ Below w.heap.size w w' := by
  obtain ⟨tgt, htg⟩ : ∃ t, t = numT n := ⟨_, rfl⟩
  have hts : tgt.size ≤ 20 := by rw [htg]; exact numT_size h1
  have HW := Lib.hid (show whT (-(n : Int)) = ⟨#[45]⟩ ++ tgt by rw [htg]; unfold whT; rw [if_pos (by omega)]; simp)
  have HS := Lib.hid (show WhP tgt n ⟨#[]⟩ from ⟨by show 0 ≤ 20; omega, .inr ⟨hp, by rw [htg]; exact ByteArray.append_empty⟩⟩)
  have hpi : (0 : Int) < n := by omega
  clear htg
  go_enter Tryz.func17, Tryz.ntmps17
  go_wp2_with fail
  go_loopw [0, 4] (fun v o wr => ∃ (k : Nat) (q : ByteArray), k ≤ n ∧ v = .int .i64 (-(k : Int)) ∧ o = .string q ∧ WhP tgt k q ∧ Below w.heap.size w wr) (fun v _ _ => (intOf v).natAbs)
  case atStart => exact ⟨n, _, Nat.le_refl _, rfl, rfl, HS.out, Below.refl _ _⟩
  case round =>
    obtain ⟨k, q, hkn, rfl, rfl, hP, hb⟩ := hrel
    have HP := Lib.hid hP
    have hqs := hP.1
    clear hP
    by_cases hk0 : k = 0
    · subst hk0
      have HQ := Lib.hid (show q = tgt by rcases HP.out.2 with ⟨_, h⟩ | ⟨h, _⟩; exact h; omega)
      go_wp2_with fail
      go_ret
      exact ⟨ret_strM (by rw [HW.out, HQ.out]), hb⟩
    · obtain ⟨Q, hQ⟩ : ∃ Q, Q = k / 10 := ⟨_, rfl⟩
      obtain ⟨R, hR⟩ : ∃ R, R = k % 10 := ⟨_, rfl⟩
      have HN := Lib.hid (HP.out.step (by omega) hQ hR hts)
      have r1 : R ≤ 9 := by omega
      have q1 : Q < k := by omega
      have e1 : (-(k : Int)).tdiv 10 = -(Q : Int) := by rw [Int.neg_tdiv, Int.tdiv_eq_ediv_of_nonneg (by omega)]; omega
      have e2 : (-(k : Int)).tmod 10 = -(R : Int) := by rw [Int.neg_tmod, Int.tmod_eq_emod_of_nonneg (by omega)]; omega
      have e3 : IntKind.i64.wrap (-(Q : Int)) = -(Q : Int) := IntWalk.i64_in _ (by omega)
      have e4 : IntKind.i64.wrap (-(R : Int)) = -(R : Int) := IntWalk.i64_in _ (by omega)
      have e4' : IntKind.i64.wrap (R : Int) = R := IntWalk.i64_in _ (by omega)
      have e5 : IntKind.i64.wrap (48 + (R : Int)) = 48 + R := IntWalk.i64_in _ (by omega)
      have e6 : IntKind.u8.wrap (48 + (R : Int)) = 48 + R := IntWalk.u8_in _ (by omega)
      have hz2 : (d1T R).size ≤ 1 := Nat.le_refl _
      have hk1 : (0 : Int) < k := by omega
      have hcv : (convert 68 9 (.slice (some ⟨wr.heap.size, 0, none⟩) 1 1)).run Tryz.prog (wr.alloc (.cells #[.int .u8 (48 + (R : Int))] 5)) = .ok (.string (d1T R)) (wr.alloc (.cells #[.int .u8 (48 + (R : Int))] 5)) := conv1 _ _ (48 + R) (by omega) (by rw [(Blk.new' rfl).cell 0]; simp)
      clear hQ hR HP
      by_cases hR0 : R = 0
      · have hR1 : (R : Int) ≤ 0 := by omega
        have HRR := Lib.hid (show -(R : Int) = R by omega)
        have e5' : IntKind.i64.wrap (48 + (-(R : Int))) = 48 + (-(R : Int)) := IntWalk.i64_in _ (by omega)
        have e6' : IntKind.u8.wrap (48 + (-(R : Int))) = 48 + (-(R : Int)) := IntWalk.u8_in _ (by omega)
        have hcv' : (convert 68 9 (.slice (some ⟨wr.heap.size, 0, none⟩) 1 1)).run Tryz.prog (wr.alloc (.cells #[.int .u8 (48 + (-(R : Int)))] 5)) = .ok (.string (d1T R)) (wr.alloc (.cells #[.int .u8 (48 + (-(R : Int)))] 5)) := by rw [HRR.out]; exact hcv
        clear hcv hR0
        go_wp2_with fail
        go_roundw
        case rel => exact ⟨Q, _, by omega, rfl, rfl, HN.out, andAlloc hb _⟩
        case measure => simp [intOf]; omega
      · have hR1 : (0 : Int) < R := by omega
        go_wp2_with fail
        go_roundw
        case rel => exact ⟨Q, _, by omega, rfl, rfl, HN.out, andAlloc hb _⟩
        case measure => simp [intOf]; omega
theorem rwhole_zero (w : World) : Calls Tryz.prog 17 #[.int .i64 0] w fun e w' => e = .returned (.string (whT 0)) ∧ Below w.heap.size w w' := by
  have HW := Lib.hid (show (⟨#[48]⟩ : ByteArray) = whT 0 by unfold whT; rw [if_neg (by omega)]; show _ = numT 0; rw [d1T_lt (by omega)]; rfl)
  go_enter Tryz.func17, Tryz.ntmps17
  go_wp2_with fail
  go_ret
  exact ⟨ret_strM HW.out, Below.refl _ _⟩
theorem rwhole_any (z : Int) (w : World) (h0 : -9223372036854775807 ≤ z) (h1 : z ≤ 9223372036854775807) : Calls Tryz.prog 17 #[.int .i64 z] w fun e w' => e = .returned (.string (whT z)) ∧ Below w.heap.size w w' := by
  by_cases hz : z = 0
  · subst hz; exact rwhole_zero w
  · by_cases hn : z < 0
    · obtain ⟨n, rfl⟩ : ∃ n : Nat, z = -(n : Int) := ⟨(-z).toNat, by omega⟩
      exact rwhole_neg n w (by omega) (by omega)
    · obtain ⟨n, rfl⟩ : ∃ n : Nat, z = (n : Int) := ⟨z.toNat, by omega⟩
      exact rwhole_pos n w (by omega) (by omega)
/-- What there is to say: P a number's text in points, b a badness's. -/
def nmT (down : Bool) : ByteArray := if down then ⟨#[118, 98, 111, 120]⟩ else ⟨#[104, 98, 111, 120]⟩
def wyT (down : Bool) : ByteArray := if down then ⟨#[104, 105, 103, 104]⟩ else ⟨#[119, 105, 100, 101]⟩
def overT (down : Bool) (P : ByteArray) : ByteArray := (⟨#[79, 118, 101, 114, 102, 117, 108, 108, 32]⟩ ++ nmT down) ++ ⟨#[32, 40]⟩ ++ P ++ ⟨#[112, 116, 32, 116, 111, 111, 32]⟩ ++ wyT down ++ ⟨#[41]⟩
def badT (down : Bool) (k b : ByteArray) : ByteArray := (k ++ nmT down) ++ ⟨#[32, 40, 98, 97, 100, 110, 101, 115, 115, 32]⟩ ++ b ++ ⟨#[41]⟩
def repT (down : Bool) (sign bad over limit fuzz : Int) : ByteArray :=
  if (sign = 2 ∨ sign = 0) ∧ 0 < over ∧ (fuzz < over ∨ limit < 100) then overT down (prS over)
  else if over ≤ 0 ∧ limit < bad then
    (if sign = 1 ∨ sign = 0 then (if bad ≤ 100 then badT down ⟨#[76, 111, 111, 115, 101, 32]⟩ (whT bad) else badT down ⟨#[85, 110, 100, 101, 114, 102, 117, 108, 108, 32]⟩ (whT bad))
     else if sign = 2 then badT down ⟨#[84, 105, 103, 104, 116, 32]⟩ (whT bad) else ⟨#[]⟩)
  else ⟨#[]⟩
theorem prA_len {n : Nat} (h : n ≤ 2147483647) : (prA n).length ≤ 40 := by
  have h1 := dec_len (q := n / 65536) (by omega)
  have h2 := frac_len 5 (10 * (n % 65536) + 5) 10
  unfold prA
  simp only [List.length_append, List.length_cons]
  omega
theorem prS_size (s : Int) : (prS s).size ≤ 60 := by
  show (S (prT s)).size ≤ 60
  rw [S_size]
  unfold prT
  split
  · simp
  · rename_i h
    have hf := farB_no (by simpa using h : farB s = false)
    have := prA_len (n := s.natAbs) (by omega)
    split
    · simp only [List.length_cons]; omega
    · omega
set_option maxHeartbeats 8000000 in
set_option maxRecDepth 100000 in
theorem report_any (down : Bool) (sign bad over limit fuzz : Int) (w : World) (htab : Tab w) (hl : -9223372036854775808 ≤ limit) (hb : bad ≤ 9223372036854775807) : Calls Tryz.prog 5 #[.bool down, .int .i64 sign, .int .i64 bad, .int .i64 over, .int .i64 limit, .int .i64 fuzz] w fun e w' => e = .returned (.string (repT down sign bad over limit fuzz)) ∧ Below w.heap.size w w' := by
  have HT := Lib.hid htab
  clear htab
  have hps := prS_size over
  have HWZ := Lib.hid (fun h0 : limit < bad => whT_size (z := bad) (by omega) hb)
  have HHB := Lib.hid (And.intro hl hb)
  clear hl hb
  by_cases h0 : sign = 0
  · subst h0
    by_cases h3 : 0 < over
    · have h3' : ¬ over ≤ 0 := by omega
      by_cases h4 : fuzz < over
      · have HR := Lib.hid (show repT down 0 bad over limit fuzz = overT down (prS over) by unfold repT; simp [h3, h4])
        cases down
        · go_enter Tryz.func5, Tryz.ntmps5
          go_wp2_with fail
          refine (print_any over _ HT.out).mono ?_
          rintro e w1 ⟨rfl, hb1⟩
          generalize prS over = P at *
          go_wp2_with fail
          go_ret
          exact ⟨ret_strM (by rw [HR.out]; rfl), hb1⟩
        · go_enter Tryz.func5, Tryz.ntmps5
          go_wp2_with fail
          refine (print_any over _ HT.out).mono ?_
          rintro e w1 ⟨rfl, hb1⟩
          generalize prS over = P at *
          go_wp2_with fail
          go_ret
          exact ⟨ret_strM (by rw [HR.out]; rfl), hb1⟩
      · have h4' : over ≤ fuzz := by omega
        by_cases h6 : limit < 100
        · have HR := Lib.hid (show repT down 0 bad over limit fuzz = overT down (prS over) by unfold repT; simp [h3, h4, h6])
          cases down
          · go_enter Tryz.func5, Tryz.ntmps5
            go_wp2_with fail
            refine (print_any over _ HT.out).mono ?_
            rintro e w1 ⟨rfl, hb1⟩
            generalize prS over = P at *
            go_wp2_with fail
            go_ret
            exact ⟨ret_strM (by rw [HR.out]; rfl), hb1⟩
          · go_enter Tryz.func5, Tryz.ntmps5
            go_wp2_with fail
            refine (print_any over _ HT.out).mono ?_
            rintro e w1 ⟨rfl, hb1⟩
            generalize prS over = P at *
            go_wp2_with fail
            go_ret
            exact ⟨ret_strM (by rw [HR.out]; rfl), hb1⟩
        · have h6' : 100 ≤ limit := by omega
          have HR := Lib.hid (show repT down 0 bad over limit fuzz = ⟨#[]⟩ by unfold repT; simp [h3, h3', h4, h6])
          cases down
          · go_enter Tryz.func5, Tryz.ntmps5
            go_wp2_with fail
            all_goals
              go_ret
              exact ⟨ret_strM (by rw [HR.out]), Below.refl _ _⟩
          · go_enter Tryz.func5, Tryz.ntmps5
            go_wp2_with fail
            all_goals
              go_ret
              exact ⟨ret_strM (by rw [HR.out]), Below.refl _ _⟩
    · have h3' : over ≤ 0 := by omega
      by_cases h5 : limit < bad
      · by_cases h7 : bad ≤ 100
        · have HR := Lib.hid (show repT down 0 bad over limit fuzz = badT down ⟨#[76, 111, 111, 115, 101, 32]⟩ (whT bad) by unfold repT; simp [h3, h3', h5, h7])
          cases down
          · go_enter Tryz.func5, Tryz.ntmps5
            go_wp2_with fail
            all_goals
              refine (whole_any bad _ (by have := HHB.out.1; omega) HHB.out.2).mono ?_
              rintro e w1 ⟨rfl, rfl⟩
              have hws := HWZ.out h5
              generalize whT bad = P at *
              go_wp2_with fail
              go_ret
              exact ⟨ret_strM (by rw [HR.out]; rfl), Below.refl _ _⟩
          · go_enter Tryz.func5, Tryz.ntmps5
            go_wp2_with fail
            all_goals
              refine (whole_any bad _ (by have := HHB.out.1; omega) HHB.out.2).mono ?_
              rintro e w1 ⟨rfl, rfl⟩
              have hws := HWZ.out h5
              generalize whT bad = P at *
              go_wp2_with fail
              go_ret
              exact ⟨ret_strM (by rw [HR.out]; rfl), Below.refl _ _⟩
        · have h7' : 100 < bad := by omega
          have HR := Lib.hid (show repT down 0 bad over limit fuzz = badT down ⟨#[85, 110, 100, 101, 114, 102, 117, 108, 108, 32]⟩ (whT bad) by unfold repT; simp [h3, h3', h5, h7])
          cases down
          · go_enter Tryz.func5, Tryz.ntmps5
            go_wp2_with fail
            all_goals
              refine (whole_any bad _ (by have := HHB.out.1; omega) HHB.out.2).mono ?_
              rintro e w1 ⟨rfl, rfl⟩
              have hws := HWZ.out h5
              generalize whT bad = P at *
              go_wp2_with fail
              go_ret
              exact ⟨ret_strM (by rw [HR.out]; rfl), Below.refl _ _⟩
          · go_enter Tryz.func5, Tryz.ntmps5
            go_wp2_with fail
            all_goals
              refine (whole_any bad _ (by have := HHB.out.1; omega) HHB.out.2).mono ?_
              rintro e w1 ⟨rfl, rfl⟩
              have hws := HWZ.out h5
              generalize whT bad = P at *
              go_wp2_with fail
              go_ret
              exact ⟨ret_strM (by rw [HR.out]; rfl), Below.refl _ _⟩
      · have h5' : bad ≤ limit := by omega
        have HR := Lib.hid (show repT down 0 bad over limit fuzz = ⟨#[]⟩ by unfold repT; simp [h3, h3', h5])
        cases down
        · go_enter Tryz.func5, Tryz.ntmps5
          go_wp2_with fail
          all_goals
            go_ret
            exact ⟨ret_strM (by rw [HR.out]), Below.refl _ _⟩
        · go_enter Tryz.func5, Tryz.ntmps5
          go_wp2_with fail
          all_goals
            go_ret
            exact ⟨ret_strM (by rw [HR.out]), Below.refl _ _⟩
  by_cases h1 : sign = 1
  · subst h1
    by_cases h3 : 0 < over
    · have h3' : ¬ over ≤ 0 := by omega
      have HR := Lib.hid (show repT down 1 bad over limit fuzz = ⟨#[]⟩ by unfold repT; simp [h3, h3'])
      cases down
      · go_enter Tryz.func5, Tryz.ntmps5
        go_wp2_with fail
        all_goals
          go_ret
          exact ⟨ret_strM (by rw [HR.out]), Below.refl _ _⟩
      · go_enter Tryz.func5, Tryz.ntmps5
        go_wp2_with fail
        all_goals
          go_ret
          exact ⟨ret_strM (by rw [HR.out]), Below.refl _ _⟩
    · have h3' : over ≤ 0 := by omega
      by_cases h5 : limit < bad
      · by_cases h7 : bad ≤ 100
        · have HR := Lib.hid (show repT down 1 bad over limit fuzz = badT down ⟨#[76, 111, 111, 115, 101, 32]⟩ (whT bad) by unfold repT; simp [h3, h3', h5, h7])
          cases down
          · go_enter Tryz.func5, Tryz.ntmps5
            go_wp2_with fail
            all_goals
              refine (whole_any bad _ (by have := HHB.out.1; omega) HHB.out.2).mono ?_
              rintro e w1 ⟨rfl, rfl⟩
              have hws := HWZ.out h5
              generalize whT bad = P at *
              go_wp2_with fail
              go_ret
              exact ⟨ret_strM (by rw [HR.out]; rfl), Below.refl _ _⟩
          · go_enter Tryz.func5, Tryz.ntmps5
            go_wp2_with fail
            all_goals
              refine (whole_any bad _ (by have := HHB.out.1; omega) HHB.out.2).mono ?_
              rintro e w1 ⟨rfl, rfl⟩
              have hws := HWZ.out h5
              generalize whT bad = P at *
              go_wp2_with fail
              go_ret
              exact ⟨ret_strM (by rw [HR.out]; rfl), Below.refl _ _⟩
        · have h7' : 100 < bad := by omega
          have HR := Lib.hid (show repT down 1 bad over limit fuzz = badT down ⟨#[85, 110, 100, 101, 114, 102, 117, 108, 108, 32]⟩ (whT bad) by unfold repT; simp [h3, h3', h5, h7])
          cases down
          · go_enter Tryz.func5, Tryz.ntmps5
            go_wp2_with fail
            all_goals
              refine (whole_any bad _ (by have := HHB.out.1; omega) HHB.out.2).mono ?_
              rintro e w1 ⟨rfl, rfl⟩
              have hws := HWZ.out h5
              generalize whT bad = P at *
              go_wp2_with fail
              go_ret
              exact ⟨ret_strM (by rw [HR.out]; rfl), Below.refl _ _⟩
          · go_enter Tryz.func5, Tryz.ntmps5
            go_wp2_with fail
            all_goals
              refine (whole_any bad _ (by have := HHB.out.1; omega) HHB.out.2).mono ?_
              rintro e w1 ⟨rfl, rfl⟩
              have hws := HWZ.out h5
              generalize whT bad = P at *
              go_wp2_with fail
              go_ret
              exact ⟨ret_strM (by rw [HR.out]; rfl), Below.refl _ _⟩
      · have h5' : bad ≤ limit := by omega
        have HR := Lib.hid (show repT down 1 bad over limit fuzz = ⟨#[]⟩ by unfold repT; simp [h3, h3', h5])
        cases down
        · go_enter Tryz.func5, Tryz.ntmps5
          go_wp2_with fail
          all_goals
            go_ret
            exact ⟨ret_strM (by rw [HR.out]), Below.refl _ _⟩
        · go_enter Tryz.func5, Tryz.ntmps5
          go_wp2_with fail
          all_goals
            go_ret
            exact ⟨ret_strM (by rw [HR.out]), Below.refl _ _⟩
  by_cases h2 : sign = 2
  · subst h2
    by_cases h3 : 0 < over
    · have h3' : ¬ over ≤ 0 := by omega
      by_cases h4 : fuzz < over
      · have HR := Lib.hid (show repT down 2 bad over limit fuzz = overT down (prS over) by unfold repT; simp [h3, h4])
        cases down
        · go_enter Tryz.func5, Tryz.ntmps5
          go_wp2_with fail
          refine (print_any over _ HT.out).mono ?_
          rintro e w1 ⟨rfl, hb1⟩
          generalize prS over = P at *
          go_wp2_with fail
          go_ret
          exact ⟨ret_strM (by rw [HR.out]; rfl), hb1⟩
        · go_enter Tryz.func5, Tryz.ntmps5
          go_wp2_with fail
          refine (print_any over _ HT.out).mono ?_
          rintro e w1 ⟨rfl, hb1⟩
          generalize prS over = P at *
          go_wp2_with fail
          go_ret
          exact ⟨ret_strM (by rw [HR.out]; rfl), hb1⟩
      · have h4' : over ≤ fuzz := by omega
        by_cases h6 : limit < 100
        · have HR := Lib.hid (show repT down 2 bad over limit fuzz = overT down (prS over) by unfold repT; simp [h3, h4, h6])
          cases down
          · go_enter Tryz.func5, Tryz.ntmps5
            go_wp2_with fail
            refine (print_any over _ HT.out).mono ?_
            rintro e w1 ⟨rfl, hb1⟩
            generalize prS over = P at *
            go_wp2_with fail
            go_ret
            exact ⟨ret_strM (by rw [HR.out]; rfl), hb1⟩
          · go_enter Tryz.func5, Tryz.ntmps5
            go_wp2_with fail
            refine (print_any over _ HT.out).mono ?_
            rintro e w1 ⟨rfl, hb1⟩
            generalize prS over = P at *
            go_wp2_with fail
            go_ret
            exact ⟨ret_strM (by rw [HR.out]; rfl), hb1⟩
        · have h6' : 100 ≤ limit := by omega
          have HR := Lib.hid (show repT down 2 bad over limit fuzz = ⟨#[]⟩ by unfold repT; simp [h3, h3', h4, h6])
          cases down
          · go_enter Tryz.func5, Tryz.ntmps5
            go_wp2_with fail
            all_goals
              go_ret
              exact ⟨ret_strM (by rw [HR.out]), Below.refl _ _⟩
          · go_enter Tryz.func5, Tryz.ntmps5
            go_wp2_with fail
            all_goals
              go_ret
              exact ⟨ret_strM (by rw [HR.out]), Below.refl _ _⟩
    · have h3' : over ≤ 0 := by omega
      by_cases h5 : limit < bad
      · have HR := Lib.hid (show repT down 2 bad over limit fuzz = badT down ⟨#[84, 105, 103, 104, 116, 32]⟩ (whT bad) by unfold repT; simp [h3, h3', h5])
        cases down
        · go_enter Tryz.func5, Tryz.ntmps5
          go_wp2_with fail
          all_goals
            refine (whole_any bad _ (by have := HHB.out.1; omega) HHB.out.2).mono ?_
            rintro e w1 ⟨rfl, rfl⟩
            have hws := HWZ.out h5
            generalize whT bad = P at *
            go_wp2_with fail
            go_ret
            exact ⟨ret_strM (by rw [HR.out]; rfl), Below.refl _ _⟩
        · go_enter Tryz.func5, Tryz.ntmps5
          go_wp2_with fail
          all_goals
            refine (whole_any bad _ (by have := HHB.out.1; omega) HHB.out.2).mono ?_
            rintro e w1 ⟨rfl, rfl⟩
            have hws := HWZ.out h5
            generalize whT bad = P at *
            go_wp2_with fail
            go_ret
            exact ⟨ret_strM (by rw [HR.out]; rfl), Below.refl _ _⟩
      · have h5' : bad ≤ limit := by omega
        have HR := Lib.hid (show repT down 2 bad over limit fuzz = ⟨#[]⟩ by unfold repT; simp [h3, h3', h5])
        cases down
        · go_enter Tryz.func5, Tryz.ntmps5
          go_wp2_with fail
          all_goals
            go_ret
            exact ⟨ret_strM (by rw [HR.out]), Below.refl _ _⟩
        · go_enter Tryz.func5, Tryz.ntmps5
          go_wp2_with fail
          all_goals
            go_ret
            exact ⟨ret_strM (by rw [HR.out]), Below.refl _ _⟩
  have s0 : (sign == 0) = false := by simp [h0]
  have s1 : (sign != 1) = true := by simp [h1]
  have s1' : (sign == 1) = false := by simp [h1]
  have s2 : (sign == 2) = false := by simp [h2]
  by_cases h3 : 0 < over
  · have h3' : ¬ over ≤ 0 := by omega
    have HR := Lib.hid (show repT down sign bad over limit fuzz = ⟨#[]⟩ by unfold repT; simp [h0, h1, h2, h3, h3'])
    cases down
    · go_enter Tryz.func5, Tryz.ntmps5
      go_wp2_with fail
      all_goals
        go_ret
        exact ⟨ret_strM (by rw [HR.out]), Below.refl _ _⟩
    · go_enter Tryz.func5, Tryz.ntmps5
      go_wp2_with fail
      all_goals
        go_ret
        exact ⟨ret_strM (by rw [HR.out]), Below.refl _ _⟩
  · have h3' : over ≤ 0 := by omega
    by_cases h5 : limit < bad
    · have HR := Lib.hid (show repT down sign bad over limit fuzz = ⟨#[]⟩ by unfold repT; simp [h0, h1, h2, h3, h3', h5])
      cases down
      · go_enter Tryz.func5, Tryz.ntmps5
        go_wp2_with fail
        all_goals
          go_ret
          exact ⟨ret_strM (by rw [HR.out]), Below.refl _ _⟩
      · go_enter Tryz.func5, Tryz.ntmps5
        go_wp2_with fail
        all_goals
          go_ret
          exact ⟨ret_strM (by rw [HR.out]), Below.refl _ _⟩
    · have h5' : bad ≤ limit := by omega
      have HR := Lib.hid (show repT down sign bad over limit fuzz = ⟨#[]⟩ by unfold repT; simp [h0, h1, h2, h3, h3', h5])
      cases down
      · go_enter Tryz.func5, Tryz.ntmps5
        go_wp2_with fail
        all_goals
          go_ret
          exact ⟨ret_strM (by rw [HR.out]), Below.refl _ _⟩
      · go_enter Tryz.func5, Tryz.ntmps5
        go_wp2_with fail
        all_goals
          go_ret
          exact ⟨ret_strM (by rw [HR.out]), Below.refl _ _⟩
set_option maxHeartbeats 8000000 in
set_option maxRecDepth 100000 in
theorem rreport_any (down : Bool) (sign bad over limit fuzz : Int) (w : World) (htab : Tab w) (hl : -9223372036854775808 ≤ limit) (hb : bad ≤ 9223372036854775807) : Calls Tryz.prog 6 #[.bool down, .int .i64 sign, .int .i64 bad, .int .i64 over, .int .i64 limit, .int .i64 fuzz] w fun e w' => e = .returned (.string (repT down sign bad over limit fuzz)) ∧ Below w.heap.size w w' := by
  have HT := Lib.hid htab
  clear htab
  have hps := prS_size over
  have HWZ := Lib.hid (fun h0 : limit < bad => whT_size (z := bad) (by omega) hb)
  have HHB := Lib.hid (And.intro hl hb)
  clear hl hb
  by_cases h0 : sign = 0
  · subst h0
    by_cases h3 : 0 < over
    · have h3' : ¬ over ≤ 0 := by omega
      by_cases h4 : fuzz < over
      · have HR := Lib.hid (show repT down 0 bad over limit fuzz = overT down (prS over) by unfold repT; simp [h3, h4])
        cases down
        · go_enter Tryz.func6, Tryz.ntmps6
          go_wp2_with fail
          refine (refPrint over _).mono ?_
          rintro e w1 ⟨rfl, hb1⟩
          generalize prS over = P at *
          go_wp2_with fail
          go_ret
          exact ⟨ret_strM (by rw [HR.out]; rfl), hb1⟩
        · go_enter Tryz.func6, Tryz.ntmps6
          go_wp2_with fail
          refine (refPrint over _).mono ?_
          rintro e w1 ⟨rfl, hb1⟩
          generalize prS over = P at *
          go_wp2_with fail
          go_ret
          exact ⟨ret_strM (by rw [HR.out]; rfl), hb1⟩
      · have h4' : over ≤ fuzz := by omega
        by_cases h6 : limit < 100
        · have HR := Lib.hid (show repT down 0 bad over limit fuzz = overT down (prS over) by unfold repT; simp [h3, h4, h6])
          cases down
          · go_enter Tryz.func6, Tryz.ntmps6
            go_wp2_with fail
            refine (refPrint over _).mono ?_
            rintro e w1 ⟨rfl, hb1⟩
            generalize prS over = P at *
            go_wp2_with fail
            go_ret
            exact ⟨ret_strM (by rw [HR.out]; rfl), hb1⟩
          · go_enter Tryz.func6, Tryz.ntmps6
            go_wp2_with fail
            refine (refPrint over _).mono ?_
            rintro e w1 ⟨rfl, hb1⟩
            generalize prS over = P at *
            go_wp2_with fail
            go_ret
            exact ⟨ret_strM (by rw [HR.out]; rfl), hb1⟩
        · have h6' : 100 ≤ limit := by omega
          have HR := Lib.hid (show repT down 0 bad over limit fuzz = ⟨#[]⟩ by unfold repT; simp [h3, h3', h4, h6])
          cases down
          · go_enter Tryz.func6, Tryz.ntmps6
            go_wp2_with fail
            all_goals
              go_ret
              exact ⟨ret_strM (by rw [HR.out]), Below.refl _ _⟩
          · go_enter Tryz.func6, Tryz.ntmps6
            go_wp2_with fail
            all_goals
              go_ret
              exact ⟨ret_strM (by rw [HR.out]), Below.refl _ _⟩
    · have h3' : over ≤ 0 := by omega
      by_cases h5 : limit < bad
      · by_cases h7 : bad ≤ 100
        · have HR := Lib.hid (show repT down 0 bad over limit fuzz = badT down ⟨#[76, 111, 111, 115, 101, 32]⟩ (whT bad) by unfold repT; simp [h3, h3', h5, h7])
          cases down
          · go_enter Tryz.func6, Tryz.ntmps6
            go_wp2_with fail
            refine (rwhole_any bad _ (by have := HHB.out.1; omega) HHB.out.2).mono ?_
            rintro e w1 ⟨rfl, hb1⟩
            have hws := HWZ.out h5
            generalize whT bad = P at *
            go_wp2_with fail
            go_ret
            exact ⟨ret_strM (by rw [HR.out]; rfl), hb1⟩
          · go_enter Tryz.func6, Tryz.ntmps6
            go_wp2_with fail
            refine (rwhole_any bad _ (by have := HHB.out.1; omega) HHB.out.2).mono ?_
            rintro e w1 ⟨rfl, hb1⟩
            have hws := HWZ.out h5
            generalize whT bad = P at *
            go_wp2_with fail
            go_ret
            exact ⟨ret_strM (by rw [HR.out]; rfl), hb1⟩
        · have h7' : 100 < bad := by omega
          have HR := Lib.hid (show repT down 0 bad over limit fuzz = badT down ⟨#[85, 110, 100, 101, 114, 102, 117, 108, 108, 32]⟩ (whT bad) by unfold repT; simp [h3, h3', h5, h7])
          cases down
          · go_enter Tryz.func6, Tryz.ntmps6
            go_wp2_with fail
            refine (rwhole_any bad _ (by have := HHB.out.1; omega) HHB.out.2).mono ?_
            rintro e w1 ⟨rfl, hb1⟩
            have hws := HWZ.out h5
            generalize whT bad = P at *
            go_wp2_with fail
            go_ret
            exact ⟨ret_strM (by rw [HR.out]; rfl), hb1⟩
          · go_enter Tryz.func6, Tryz.ntmps6
            go_wp2_with fail
            refine (rwhole_any bad _ (by have := HHB.out.1; omega) HHB.out.2).mono ?_
            rintro e w1 ⟨rfl, hb1⟩
            have hws := HWZ.out h5
            generalize whT bad = P at *
            go_wp2_with fail
            go_ret
            exact ⟨ret_strM (by rw [HR.out]; rfl), hb1⟩
      · have h5' : bad ≤ limit := by omega
        have HR := Lib.hid (show repT down 0 bad over limit fuzz = ⟨#[]⟩ by unfold repT; simp [h3, h3', h5])
        cases down
        · go_enter Tryz.func6, Tryz.ntmps6
          go_wp2_with fail
          all_goals
            go_ret
            exact ⟨ret_strM (by rw [HR.out]), Below.refl _ _⟩
        · go_enter Tryz.func6, Tryz.ntmps6
          go_wp2_with fail
          all_goals
            go_ret
            exact ⟨ret_strM (by rw [HR.out]), Below.refl _ _⟩
  by_cases h1 : sign = 1
  · subst h1
    by_cases h3 : 0 < over
    · have h3' : ¬ over ≤ 0 := by omega
      have HR := Lib.hid (show repT down 1 bad over limit fuzz = ⟨#[]⟩ by unfold repT; simp [h3, h3'])
      cases down
      · go_enter Tryz.func6, Tryz.ntmps6
        go_wp2_with fail
        all_goals
          go_ret
          exact ⟨ret_strM (by rw [HR.out]), Below.refl _ _⟩
      · go_enter Tryz.func6, Tryz.ntmps6
        go_wp2_with fail
        all_goals
          go_ret
          exact ⟨ret_strM (by rw [HR.out]), Below.refl _ _⟩
    · have h3' : over ≤ 0 := by omega
      by_cases h5 : limit < bad
      · by_cases h7 : bad ≤ 100
        · have HR := Lib.hid (show repT down 1 bad over limit fuzz = badT down ⟨#[76, 111, 111, 115, 101, 32]⟩ (whT bad) by unfold repT; simp [h3, h3', h5, h7])
          cases down
          · go_enter Tryz.func6, Tryz.ntmps6
            go_wp2_with fail
            refine (rwhole_any bad _ (by have := HHB.out.1; omega) HHB.out.2).mono ?_
            rintro e w1 ⟨rfl, hb1⟩
            have hws := HWZ.out h5
            generalize whT bad = P at *
            go_wp2_with fail
            go_ret
            exact ⟨ret_strM (by rw [HR.out]; rfl), hb1⟩
          · go_enter Tryz.func6, Tryz.ntmps6
            go_wp2_with fail
            refine (rwhole_any bad _ (by have := HHB.out.1; omega) HHB.out.2).mono ?_
            rintro e w1 ⟨rfl, hb1⟩
            have hws := HWZ.out h5
            generalize whT bad = P at *
            go_wp2_with fail
            go_ret
            exact ⟨ret_strM (by rw [HR.out]; rfl), hb1⟩
        · have h7' : 100 < bad := by omega
          have HR := Lib.hid (show repT down 1 bad over limit fuzz = badT down ⟨#[85, 110, 100, 101, 114, 102, 117, 108, 108, 32]⟩ (whT bad) by unfold repT; simp [h3, h3', h5, h7])
          cases down
          · go_enter Tryz.func6, Tryz.ntmps6
            go_wp2_with fail
            refine (rwhole_any bad _ (by have := HHB.out.1; omega) HHB.out.2).mono ?_
            rintro e w1 ⟨rfl, hb1⟩
            have hws := HWZ.out h5
            generalize whT bad = P at *
            go_wp2_with fail
            go_ret
            exact ⟨ret_strM (by rw [HR.out]; rfl), hb1⟩
          · go_enter Tryz.func6, Tryz.ntmps6
            go_wp2_with fail
            refine (rwhole_any bad _ (by have := HHB.out.1; omega) HHB.out.2).mono ?_
            rintro e w1 ⟨rfl, hb1⟩
            have hws := HWZ.out h5
            generalize whT bad = P at *
            go_wp2_with fail
            go_ret
            exact ⟨ret_strM (by rw [HR.out]; rfl), hb1⟩
      · have h5' : bad ≤ limit := by omega
        have HR := Lib.hid (show repT down 1 bad over limit fuzz = ⟨#[]⟩ by unfold repT; simp [h3, h3', h5])
        cases down
        · go_enter Tryz.func6, Tryz.ntmps6
          go_wp2_with fail
          all_goals
            go_ret
            exact ⟨ret_strM (by rw [HR.out]), Below.refl _ _⟩
        · go_enter Tryz.func6, Tryz.ntmps6
          go_wp2_with fail
          all_goals
            go_ret
            exact ⟨ret_strM (by rw [HR.out]), Below.refl _ _⟩
  by_cases h2 : sign = 2
  · subst h2
    by_cases h3 : 0 < over
    · have h3' : ¬ over ≤ 0 := by omega
      by_cases h4 : fuzz < over
      · have HR := Lib.hid (show repT down 2 bad over limit fuzz = overT down (prS over) by unfold repT; simp [h3, h4])
        cases down
        · go_enter Tryz.func6, Tryz.ntmps6
          go_wp2_with fail
          refine (refPrint over _).mono ?_
          rintro e w1 ⟨rfl, hb1⟩
          generalize prS over = P at *
          go_wp2_with fail
          go_ret
          exact ⟨ret_strM (by rw [HR.out]; rfl), hb1⟩
        · go_enter Tryz.func6, Tryz.ntmps6
          go_wp2_with fail
          refine (refPrint over _).mono ?_
          rintro e w1 ⟨rfl, hb1⟩
          generalize prS over = P at *
          go_wp2_with fail
          go_ret
          exact ⟨ret_strM (by rw [HR.out]; rfl), hb1⟩
      · have h4' : over ≤ fuzz := by omega
        by_cases h6 : limit < 100
        · have HR := Lib.hid (show repT down 2 bad over limit fuzz = overT down (prS over) by unfold repT; simp [h3, h4, h6])
          cases down
          · go_enter Tryz.func6, Tryz.ntmps6
            go_wp2_with fail
            refine (refPrint over _).mono ?_
            rintro e w1 ⟨rfl, hb1⟩
            generalize prS over = P at *
            go_wp2_with fail
            go_ret
            exact ⟨ret_strM (by rw [HR.out]; rfl), hb1⟩
          · go_enter Tryz.func6, Tryz.ntmps6
            go_wp2_with fail
            refine (refPrint over _).mono ?_
            rintro e w1 ⟨rfl, hb1⟩
            generalize prS over = P at *
            go_wp2_with fail
            go_ret
            exact ⟨ret_strM (by rw [HR.out]; rfl), hb1⟩
        · have h6' : 100 ≤ limit := by omega
          have HR := Lib.hid (show repT down 2 bad over limit fuzz = ⟨#[]⟩ by unfold repT; simp [h3, h3', h4, h6])
          cases down
          · go_enter Tryz.func6, Tryz.ntmps6
            go_wp2_with fail
            all_goals
              go_ret
              exact ⟨ret_strM (by rw [HR.out]), Below.refl _ _⟩
          · go_enter Tryz.func6, Tryz.ntmps6
            go_wp2_with fail
            all_goals
              go_ret
              exact ⟨ret_strM (by rw [HR.out]), Below.refl _ _⟩
    · have h3' : over ≤ 0 := by omega
      by_cases h5 : limit < bad
      · have HR := Lib.hid (show repT down 2 bad over limit fuzz = badT down ⟨#[84, 105, 103, 104, 116, 32]⟩ (whT bad) by unfold repT; simp [h3, h3', h5])
        cases down
        · go_enter Tryz.func6, Tryz.ntmps6
          go_wp2_with fail
          refine (rwhole_any bad _ (by have := HHB.out.1; omega) HHB.out.2).mono ?_
          rintro e w1 ⟨rfl, hb1⟩
          have hws := HWZ.out h5
          generalize whT bad = P at *
          go_wp2_with fail
          go_ret
          exact ⟨ret_strM (by rw [HR.out]; rfl), hb1⟩
        · go_enter Tryz.func6, Tryz.ntmps6
          go_wp2_with fail
          refine (rwhole_any bad _ (by have := HHB.out.1; omega) HHB.out.2).mono ?_
          rintro e w1 ⟨rfl, hb1⟩
          have hws := HWZ.out h5
          generalize whT bad = P at *
          go_wp2_with fail
          go_ret
          exact ⟨ret_strM (by rw [HR.out]; rfl), hb1⟩
      · have h5' : bad ≤ limit := by omega
        have HR := Lib.hid (show repT down 2 bad over limit fuzz = ⟨#[]⟩ by unfold repT; simp [h3, h3', h5])
        cases down
        · go_enter Tryz.func6, Tryz.ntmps6
          go_wp2_with fail
          all_goals
            go_ret
            exact ⟨ret_strM (by rw [HR.out]), Below.refl _ _⟩
        · go_enter Tryz.func6, Tryz.ntmps6
          go_wp2_with fail
          all_goals
            go_ret
            exact ⟨ret_strM (by rw [HR.out]), Below.refl _ _⟩
  have s0 : (sign == 0) = false := by simp [h0]
  have s1 : (sign != 1) = true := by simp [h1]
  have s1' : (sign == 1) = false := by simp [h1]
  have s2 : (sign == 2) = false := by simp [h2]
  by_cases h3 : 0 < over
  · have h3' : ¬ over ≤ 0 := by omega
    by_cases h4 : fuzz < over
    · have HR := Lib.hid (show repT down sign bad over limit fuzz = ⟨#[]⟩ by unfold repT; simp [h0, h1, h2, h3, h3'])
      cases down
      · go_enter Tryz.func6, Tryz.ntmps6
        go_wp2_with fail
        all_goals
          go_ret
          exact ⟨ret_strM (by rw [HR.out]), Below.refl _ _⟩
      · go_enter Tryz.func6, Tryz.ntmps6
        go_wp2_with fail
        all_goals
          go_ret
          exact ⟨ret_strM (by rw [HR.out]), Below.refl _ _⟩
    · have h4' : over ≤ fuzz := by omega
      by_cases h6 : limit < 100
      · have HR := Lib.hid (show repT down sign bad over limit fuzz = ⟨#[]⟩ by unfold repT; simp [h0, h1, h2, h3, h3'])
        cases down
        · go_enter Tryz.func6, Tryz.ntmps6
          go_wp2_with fail
          all_goals
            go_ret
            exact ⟨ret_strM (by rw [HR.out]), Below.refl _ _⟩
        · go_enter Tryz.func6, Tryz.ntmps6
          go_wp2_with fail
          all_goals
            go_ret
            exact ⟨ret_strM (by rw [HR.out]), Below.refl _ _⟩
      · have h6' : 100 ≤ limit := by omega
        have HR := Lib.hid (show repT down sign bad over limit fuzz = ⟨#[]⟩ by unfold repT; simp [h0, h1, h2, h3, h3'])
        cases down
        · go_enter Tryz.func6, Tryz.ntmps6
          go_wp2_with fail
          all_goals
            go_ret
            exact ⟨ret_strM (by rw [HR.out]), Below.refl _ _⟩
        · go_enter Tryz.func6, Tryz.ntmps6
          go_wp2_with fail
          all_goals
            go_ret
            exact ⟨ret_strM (by rw [HR.out]), Below.refl _ _⟩
  · have h3' : over ≤ 0 := by omega
    by_cases h5 : limit < bad
    · have HR := Lib.hid (show repT down sign bad over limit fuzz = ⟨#[]⟩ by unfold repT; simp [h0, h1, h2, h3, h3', h5])
      cases down
      · go_enter Tryz.func6, Tryz.ntmps6
        go_wp2_with fail
        all_goals
          go_ret
          exact ⟨ret_strM (by rw [HR.out]), Below.refl _ _⟩
      · go_enter Tryz.func6, Tryz.ntmps6
        go_wp2_with fail
        all_goals
          go_ret
          exact ⟨ret_strM (by rw [HR.out]), Below.refl _ _⟩
    · have h5' : bad ≤ limit := by omega
      have HR := Lib.hid (show repT down sign bad over limit fuzz = ⟨#[]⟩ by unfold repT; simp [h0, h1, h2, h3, h3', h5])
      cases down
      · go_enter Tryz.func6, Tryz.ntmps6
        go_wp2_with fail
        all_goals
          go_ret
          exact ⟨ret_strM (by rw [HR.out]), Below.refl _ _⟩
      · go_enter Tryz.func6, Tryz.ntmps6
        go_wp2_with fail
        all_goals
          go_ret
          exact ⟨ret_strM (by rw [HR.out]), Below.refl _ _⟩
theorem wf_bd {n : Int} (h : (Lit.int .i64 n).wf = true) : -9223372036854775808 ≤ n ∧ n ≤ 9223372036854775807 := by
  simpa [Lit.wf, IntKind.min, IntKind.max, IntKind.bits, IntKind.signed] using h
/-- PackReports' walk. -/
theorem reports_walk (down : Bool) (sign bad over limit fuzz : Int) (w : World) (htab : Tab w) (hl0 : (Lit.int .i64 limit).wf = true) (hb0 : (Lit.int .i64 bad).wf = true) :
    Calls Tryz.prog 3 #[.bool down, .int .i64 sign, .int .i64 bad, .int .i64 over, .int .i64 limit, .int .i64 fuzz] w fun e w' => e = .returned (.bool true) ∧ Below w.heap.size w w' := by
  have hl : -9223372036854775808 ≤ limit := (wf_bd hl0).1
  have hb : bad ≤ 9223372036854775807 := (wf_bd hb0).2
  clear hl0 hb0
  have H1 := Lib.hid (report_any down sign bad over limit fuzz w htab hl hb)
  have H2 := Lib.hid (fun w1 (h : Below w.heap.size w w1) => rreport_any down sign bad over limit fuzz w1 (htab.below h) hl hb)
  clear htab hl hb
  generalize repT down sign bad over limit fuzz = r at *
  go_enter Tryz.func3, Tryz.ntmps3
  go_wp2_with fail
  refine H1.out.mono ?_
  rintro e w1 ⟨rfl, hb1⟩
  have HB1 := Lib.hid hb1
  clear hb1
  go_wp2_with fail
  refine (H2.out _ HB1.out).mono ?_
  rintro e w2 ⟨rfl, hb2⟩
  have HB2 := Lib.hid (andThen HB1.out hb2)
  clear hb2
  go_wp2_with fail
  refine (live_any _).mono ?_
  rintro e w3 ⟨rfl, hb3⟩
  have HB3 := Lib.hid (andThen HB2.out hb3)
  clear hb3
  go_wp2_with fail
  go_ret
  exact ⟨rfl, HB3.out⟩
end Go.Proofs.YtoboecenlangmaaGreatDoor.Pk
end
section
namespace Go.Proofs.YtoboecenlangmaaGreatDoor.Li
open Go.ChangeShapes Go.WideShapes Go.ChangeAt Go.RowKit

section
variable {H : Type} {enc : TypeId × Value → H} {P : Program}

theorem trodAll_below (hl : laidOutB P = true) {W W' : World} (hb : Below W.heap.size W W') {sp : Nat → Bool} :
    ∀ {ts : List TypeId} {vs : List Value} {ds : List (DataW H)} {p : List MemPlace}, ts.all (fun t => P.readableRec t && decide (t < P.types.size)) = true → DataW.TrodAll enc P W 0 (fun _ => true) true ts vs ds p →
      (∀ x ∈ p, x.block < W.heap.size) → (∀ x ∈ p, sp x.block = true) → DataW.TrodAll enc P W' 0 sp true ts vs ds p
  | [], _, _, _, _, h, _, _ => by
    obtain ⟨rfl, rfl, rfl⟩ := trodAll_nil h
    exact trodAll_mk0
  | t :: ts, _, _, _, hr, h, hlt, hs => by
    obtain ⟨v, vs1, d, ds1, a, b, rfl, rfl, rfl, h1, h2⟩ := trodAll_cons h
    simp only [List.all_cons, Bool.and_eq_true, decide_eq_true_eq] at hr
    refine trodAll_cons_mk (WideElems.Trod_stays hl hr.1.1 hr.1.2 h1 (fun x hx => hb.same (hlt x (by simp [hx]))) (fun x hx => hs x (by simp [hx]))) ?_
    exact trodAll_below hl hb (by simpa using hr.2) h2 (fun x hx => hlt x (by simp [hx])) (fun x hx => hs x (by simp [hx]))

theorem law_post {f : Func} {s : ChangeSpec} {apart fresh handsOn again : Bool} {W W' : World} {args : Array Value} {ds gs : List (DataW H)} {before : List MemPlace} {tb : TypeId}
    (hl : laidOutB P = true) (hv : s.vars = []) (hW : DataW.Whole enc P f.params.toList s.vars apart W args.toList ds gs before) (hr : f.params.toList.all (fun t => P.readableRec t && decide (t < P.types.size)) = true)
    (hres : (s.fn H (ds ++ gs)).results = [.lit (.bool true)]) (hargs : (s.fn H (ds ++ gs)).args = ds) (hvars : (s.fn H (ds ++ gs)).vars = []) (hrt : f.resultTypes = #[tb]) (htb : P.underlying tb = some .bool)
    (hb : Below W.heap.size W W') : s.post enc P f apart fresh handsOn again W args (.bool true) W' := by
  have hlt0 := hW.lt
  obtain ⟨p, q, hA, hV, he, hfz, hnd⟩ := id hW
  rw [hv] at hV
  obtain ⟨rfl, rfl⟩ := trodVars_none hV
  rw [List.append_nil] at he
  subst he
  have hlt : ∀ x ∈ before, x.block < W.heap.size := fun x hx => hlt0 x hx
  have hR : ∀ (b : Nat) (sp : Nat → Bool) (hd : Bool), DataW.TrodAll enc P W' b sp hd f.resultTypes.toList ((Value.bool true).resultList f.resultTypes.size) (s.fn H (ds ++ [])).results [] := by
    intro b sp hd
    rw [hrt, hres]
    exact trodAll_mk1 (shut_bool htb _)
  have hVW : ∀ sp : Nat → Bool, DataW.TrodVars enc P W' sp s.vars (s.fn H (ds ++ [])).vars [] := by
    intro sp
    rw [hv, hvars]
    rfl
  have hAW : ∀ sp : Nat → Bool, (∀ x ∈ before, sp x.block = true) → DataW.TrodAll enc P W' 0 sp true f.params.toList args.toList (s.fn H (ds ++ [])).args before := by
    intro sp hs
    rw [hargs]
    exact trodAll_below hl hb hr hA hlt hs
  refine ⟨ds, [], before, [], before, [], hW, hR _ _ _, hAW _ (fun x hx => by simpa using hlt x hx), hVW _, World.keptBut_mono (fun x hx => ⟨hx, .inr (.inl hx)⟩) (hb.frame (· ∈ before)), fun _ => ⟨?_, ?_⟩⟩
  · exact ok_one hrt rfl (okWide_bool_mk htb _)
  · refine ⟨_, _, [] ++ before ++ [], ⟨[] ++ before, [], trodAll_append (hAW _ (fun _ _ => rfl)) (hR _ _ _), hVW _, rfl, ?_, ?_⟩, ?_⟩
    · intro b off hx
      have hx' : MemPlace.cell b off ∈ before := by simpa using hx
      rw [hb.frozen (hlt _ hx')]
      exact hfz b off hx'
    · intro ha
      simpa using hnd ha
    · intro x hx _
      simpa using hx
end
end Go.Proofs.YtoboecenlangmaaGreatDoor.Li
end
section
namespace Go.Proofs.YtoboecenlangmaaGreatDoor.Le
open Go.ChangeShapes Go.WideShapes Go.RowKit Go.Deep

/-- The types of a type's cells. -/
def lv (P : Program) : Nat → TypeId → List TypeId
  | 0, t => [t]
  | n + 1, t => match P.underlying t with
    | some (.struct fs) => fs.toList.flatMap fun f => lv P n f.type
    | some (.array k e) => (List.replicate k (lv P n e)).flatten
    | _ => [t]

/-- The cells' types are where the type's own table says. -/
def good (P : Program) : Nat → TypeId → Bool
  | 0, t => P.cellsOf t == 1
  | n + 1, t => match P.underlying t with
    | some (.struct fs) => (P.cellsOf t == (lv P (n + 1) t).length) && fs.toList.all (fun f => good P n f.type) &&
        (List.range (lv P (n + 1) t).length).all fun i => (List.range fs.size).any fun j => match fs[j]? with
          | some f => decide (f.offset ≤ i) && decide (i < f.offset + P.cellsOf f.type) && decide (f.offset + P.cellsOf f.type ≤ P.cellsOf t) && decide ((lv P n f.type)[i - f.offset]? = (lv P (n + 1) t)[i]?)
          | none => false
    | some (.array k e) => (P.cellsOf t == (lv P (n + 1) t).length) && good P n e &&
        (List.range (lv P (n + 1) t).length).all fun i => (List.range k).any fun j => decide (j * P.cellsOf e ≤ i) && decide (i < j * P.cellsOf e + P.cellsOf e) && decide (j * P.cellsOf e + P.cellsOf e ≤ P.cellsOf t) && decide ((lv P n e)[i - j * P.cellsOf e]? = (lv P (n + 1) t)[i]?)
    | _ => P.cellsOf t == 1

section
variable {H : Type} {enc : TypeId × Value → H} {P : Program} {w : World} {base : Nat} {spare : Nat → Bool} {held : Bool}

theorem slice_get {cs : List Value} {o c i : Nat} (h0 : o ≤ i) (h1 : i < o + c) : ((cs.drop o).take c)[i - o]? = cs[i]? := by
  rw [List.getElem?_take, if_pos (by omega), List.getElem?_drop]
  congr 1
  omega

/-- Each cell reads as its leaf's type. -/
theorem leaves : ∀ (n : Nat) {t : TypeId} {fuel : Nat} {cs : List Value} {x : DataW H × List MemPlace}, good P n t = true → cs.length = P.cellsOf t → DataW.trod enc P w base spare held fuel t cs = some x →
    ∀ (i : Nat) (u : TypeId), (lv P n t)[i]? = some u → ∃ (v : Value) (m : Nat) (y : DataW H × List MemPlace), cs[i]? = some v ∧ DataW.trod enc P w base spare held m u [v] = some y
  | 0, t, fuel, cs, x, hg, hl, h, i, u, hu => by
    simp only [lv] at hu
    match i, hu with
    | 0, hu =>
      simp at hu
      subst hu
      unfold good at hg
      rw [beq_iff_eq] at hg
      rw [hg] at hl
      match cs, hl with
      | [v], _ => exact ⟨v, fuel, x, rfl, h⟩
    | i + 1, hu => simp at hu
  | n + 1, t, fuel, cs, x, hg, hl, h, i, u, hu => by
    have hilt : i < (lv P (n + 1) t).length := by
      rcases Nat.lt_or_ge i (lv P (n + 1) t).length with h1 | h1
      · exact h1
      · rw [List.getElem?_eq_none h1] at hu; cases hu
    unfold good at hg
    split at hg
    · rename_i fs hfs
      simp only [Bool.and_eq_true, List.all_eq_true] at hg
      obtain ⟨⟨_, hgf⟩, hcov⟩ := hg
      have hc := hcov i (List.mem_range.2 hilt)
      simp only [List.any_eq_true] at hc
      obtain ⟨j, hj, hc⟩ := hc
      split at hc
      · rename_i f hf
        simp only [Bool.and_eq_true, decide_eq_true_eq] at hc
        obtain ⟨⟨⟨h1, h2⟩, h4⟩, h3⟩ := hc
        obtain ⟨xs, n', _, _, hcl, hxl, hat⟩ := DataW.trod_struct hfs h
        have hjl : j < fs.size := by
          rcases Nat.lt_or_ge j fs.size with hh | hh
          · exact hh
          · rw [Array.getElem?_eq_none hh] at hf; cases hf
        have hxj : xs[j]? = some (xs[j]'(by omega)) := List.getElem?_eq_getElem (by omega)
        have ht := (hat j f hf).trans hxj
        have hmem : f ∈ fs.toList := by
          have := Array.mem_of_getElem? hf
          simpa using this
        have hlen : ((cs.drop f.offset).take (P.cellsOf f.type)).length = P.cellsOf f.type := by
          rw [List.length_take, List.length_drop]
          omega
        obtain ⟨v, m, y, hv, hy⟩ := leaves n (hgf f hmem) hlen ht (i - f.offset) u (by rw [h3]; exact hu)
        exact ⟨v, m, y, by rw [← slice_get h1 h2]; exact hv, hy⟩
      · cases hc
    · rename_i k e he
      simp only [Bool.and_eq_true, List.all_eq_true] at hg
      obtain ⟨⟨_, hge⟩, hcov⟩ := hg
      have hc := hcov i (List.mem_range.2 hilt)
      simp only [List.any_eq_true, List.mem_range, Bool.and_eq_true, decide_eq_true_eq] at hc
      obtain ⟨j, hj, ⟨⟨h1, h2⟩, h4⟩, h3⟩ := hc
      obtain ⟨xs, n', _, _, hcl, hxl, hat⟩ := DataW.trod_array he h
      have hxj : xs[j]? = some (xs[j]'(by omega)) := List.getElem?_eq_getElem (by omega)
      have ht := (hat j hj).trans hxj
      have hlen : ((cs.drop (j * P.cellsOf e)).take (P.cellsOf e)).length = P.cellsOf e := by
        rw [List.length_take, List.length_drop]
        omega
      obtain ⟨v, m, y, hv, hy⟩ := leaves n hge hlen ht (i - j * P.cellsOf e) u (by rw [h3]; exact hu)
      exact ⟨v, m, y, by rw [← slice_get h1 h2]; exact hv, hy⟩
    · rename_i hns hna
      have hlv : lv P (n + 1) t = [t] := by
        unfold lv
        split
        · rename_i fs hfs; exact absurd hfs (hns fs)
        · rename_i k e he; exact absurd he (hna k e)
        · rfl
      rw [hlv] at hu
      match i, hu with
      | 0, hu =>
        simp at hu
        subst hu
        rw [beq_iff_eq] at hg
        rw [hg] at hl
        match cs, hl with
        | [v], _ => exact ⟨v, fuel, x, rfl, h⟩
      | i + 1, hu => simp at hu
end

section
variable {H : Type} {enc : TypeId × Value → H} {P : Program} {w : World} {base : Nat} {spare : Nat → Bool} {held : Bool}

/-- What is known of a row of cells of type t. -/
def Cells (enc : TypeId × Value → H) (P : Program) (w : World) (base : Nat) (spare : Nat → Bool) (held : Bool) (ls : List TypeId) (cs : List Value) : Prop :=
  cs.length = ls.length ∧ ∀ (i : Nat) (u : TypeId), ls[i]? = some u → ∃ (v : Value) (m : Nat) (y : DataW H × List MemPlace), cs[i]? = some v ∧ DataW.trod enc P w base spare held m u [v] = some y

/-- A struct that comes by value. -/
theorem open_flat {r : Reach} {b0 : Nat} {t : TypeId} {fs : Array Field} {v : Value} {d : DataW H} {ps : List MemPlace} (n : Nat) (ls : List TypeId) (hs : P.underlying t = some (.struct fs)) (hg : good P n t = true) (hl : lv P n t = ls) (hc : P.cellsOf t = ls.length)
    (hv : Value.okWide P w r b0 t v) (h : DataW.Trod enc P w base spare held t v d ps) : ∃ cs : List Value, v = .agg cs.toArray ∧ Cells enc P w base spare held ls cs := by
  obtain ⟨cs, rfl, hsz⟩ := okWide_struct hs hv
  obtain ⟨fuel, hf⟩ := h
  refine ⟨cs.toList, by simp, by simp [hsz, hc], fun i u hu => ?_⟩
  exact leaves n hg (by simp [hsz]) (by simpa [Value.cells] using hf) i u (by rw [hl]; exact hu)

/-- A slice that comes in: where it lies, and its elements' cells. -/
theorem open_rows0 {r : Reach} {b0 : Nat} {t e : TypeId} {v : Value} {d : DataW H} {ps : List MemPlace} (n : Nat) (ls : List TypeId) (ht : P.underlying t = some (.slice e)) (hg : good P n e = true) (hl : lv P n e = ls) (hc : P.cellsOf e = ls.length)
    (hv : Value.okWide P w r b0 t v) (h : DataW.Trod enc P w base (fun _ => true) held t v d ps) (hlt : ∀ x ∈ ps, x.block < w.heap.size) :
    ∃ (A : Option Addr) (c : Nat) (rows : List (List Value)), v = .slice A rows.length c ∧ rows.length ≤ c ∧ c ≤ maxLen ∧ (∀ cs ∈ rows, Cells enc P w base (fun _ => true) held ls cs) ∧ Me.Seg w w.heap.size A rows.flatten ∧ (A = none → c = 0) ∧
      (∃ es sp : List (DataW H), (d = .slice es sp ∧ es.length = rows.length ∧ es.length + sp.length = c) ∨ (d = .nil ∧ rows = [] ∧ c = 0)) := by
  obtain ⟨fuel, hf⟩ := h
  obtain ⟨a0, len0, cap0, rfl⟩ := okWide_slice ht hv
  rw [show Value.cells (.slice a0 len0 cap0) = #[.slice a0 len0 cap0] from rfl] at hf
  rcases open_slice ht hf with ⟨h0, hx⟩ | ⟨a, len, cap, m, nn, D, Pl, hcs, _, hlc, hcm, hm, hx, hi⟩
  · simp at h0
    obtain ⟨rfl, rfl, rfl⟩ := h0
    simp only [Prod.mk.injEq] at hx
    exact ⟨none, 0, [], rfl, Nat.le_refl _, by simp [maxLen], by simp, .inl rfl, fun _ => rfl, [], [], .inr ⟨hx.1, rfl, rfl⟩⟩
  · simp at hcs
    obtain ⟨rfl, rfl, rfl⟩ := hcs
    simp only [if_true] at hm
    subst hm
    simp only [Prod.mk.injEq] at hx
    obtain ⟨hd, hps⟩ := hx
    have hrow : ∀ i, i < len0 → ∃ cs, w.cells? base (a.add (i * P.cellsOf e)) (P.cellsOf e) = some cs ∧ Cells enc P w base (fun _ => true) held ls cs := by
      intro i hil
      obtain ⟨cs, h1, h2⟩ := hi i (by omega)
      obtain ⟨_, h3, _⟩ := World.cells?_some h1
      exact ⟨cs, h1, by rw [h3, hc], fun j u hu => leaves n hg h3 h2 j u (by rw [hl]; exact hu)⟩
    let R : Nat → List Value := fun i => (w.cells? base (a.add (i * P.cellsOf e)) (P.cellsOf e)).getD []
    have hR : ∀ i, i < len0 → Cells enc P w base (fun _ => true) held ls (R i) ∧ ∀ j, j < P.cellsOf e → w.cell? ((a.add (i * P.cellsOf e)).add j) = (R i)[j]? := by
      intro i hil
      obtain ⟨cs, h1, h2⟩ := hrow i hil
      have e1 : R i = cs := by simp [R, h1]
      rw [e1]
      exact ⟨h2, (World.cells?_some h1).2.2⟩
    have hlen : ∀ i, i < len0 → (R i).length = P.cellsOf e := fun i hil => by rw [hc]; exact (hR i hil).1.1
    refine ⟨some a, m, (List.range len0).map R, by simp, by simpa using hlc, hcm, ?_, ?_, (by intro hh; cases hh), (List.range len0).map D, (List.range (m - len0)).map fun j => D (len0 + j), .inl ⟨hd, by simp, by simp; omega⟩⟩
    · intro cs hcs
      obtain ⟨i, hi', rfl⟩ := List.mem_map.1 hcs
      exact (hR i (List.mem_range.1 hi')).1
    · by_cases hz : ((List.range len0).map R).flatten = []
      · exact .inl hz
      · have hpos : 0 < len0 * P.cellsOf e := by
          rcases Nat.eq_zero_or_pos (len0 * P.cellsOf e) with h1 | h1
          · exfalso
            apply hz
            rw [List.flatten_eq_nil_iff]
            intro l hl'
            obtain ⟨i, hi', rfl⟩ := List.mem_map.1 hl'
            have hil := List.mem_range.1 hi'
            have h2 := hlen i hil
            rcases Nat.mul_eq_zero.1 h1 with h3 | h3
            · omega
            · rw [h3] at h2; exact List.eq_nil_of_length_eq_zero h2
          · exact h1
        have hlen0 : 0 < len0 := Nat.pos_of_mul_pos_right hpos
        have hce : 0 < P.cellsOf e := Nat.pos_of_mul_pos_left hpos
        have hcell0 : ∃ u, w.cell? a = some u := by
          obtain ⟨h1, h2⟩ := hR 0 hlen0
          have h3 := h2 0 hce
          have h4 : (a.add (0 * P.cellsOf e)).add 0 = a := by simp [Addr.add]
          rw [h4] at h3
          refine ⟨_, h3.trans (List.getElem?_eq_getElem (by rw [hlen 0 hlen0]; exact hce))⟩
        obtain ⟨u0, hu0⟩ := hcell0
        have hspot : a.spot = none := World.cell?_spot hu0
        obtain ⟨b, off, sp⟩ := a
        simp only at hspot
        subst hspot
        refine .inr ⟨b, off, rfl, ?_, ?_⟩
        · have hm0 := Nat.mul_le_mul_right (P.cellsOf e) hlc
          have := hlt (.cell b off) (by rw [hps]; exact List.mem_append_left _ (List.mem_map.2 ⟨0, List.mem_range.2 (by omega), rfl⟩))
          exact this
        · intro j u hu
          have hall : ∀ (k : Nat) (l : List Nat), (∀ i ∈ l, i < len0) → ∀ j u, ((l.map R).flatten)[j]? = some u → ∃ i q, l[i]? ≠ none ∧ j = i * P.cellsOf e + q ∧ q < P.cellsOf e ∧ ∃ z, l[i]? = some z ∧ (R z)[q]? = some u := by
            intro k l
            induction l with
            | nil => intro _ j u h; simp at h
            | cons z l ih =>
              intro hl' j u h
              simp only [List.map_cons, List.flatten_cons] at h
              have hz1 := hlen z (hl' z (by simp))
              rcases Nat.lt_or_ge j (P.cellsOf e) with hj | hj
              · rw [List.getElem?_append_left (by omega)] at h
                exact ⟨0, j, by simp, by omega, hj, z, by simp, h⟩
              · rw [List.getElem?_append_right (by omega), hz1] at h
                obtain ⟨i, q, h1, h2, h3, y, h4, h5⟩ := ih (fun i hi' => hl' i (by simp [hi'])) _ _ h
                refine ⟨i + 1, q, by simpa using h1, ?_, h3, y, by simpa using h4, h5⟩
                rw [Nat.add_mul]; omega
          obtain ⟨i, q, _, hj, hq, z, hz1, hz2⟩ := hall 0 (List.range len0) (fun i hi' => List.mem_range.1 hi') j u hu
          have hzi : z = i ∧ i < len0 := by
            have hil : i < len0 := by
              rcases Nat.lt_or_ge i len0 with h1 | h1
              · exact h1
              · rw [List.getElem?_eq_none (by simpa using h1)] at hz1; cases hz1
            rw [List.getElem?_range hil] at hz1
            injection hz1 with hz1
            exact ⟨hz1.symm, hil⟩
          obtain ⟨rfl, hil⟩ := hzi
          have h6 := (hR z hil).2 q hq
          rw [hz2] at h6
          rw [← h6, hj]
          congr 1
          unfold Addr.add
          by_cases h7 : z * P.cellsOf e = 0 <;> by_cases h8 : q = 0 <;> simp [h7, h8, Nat.add_assoc]
theorem open_rows {r : Reach} {b0 : Nat} {t e : TypeId} {v : Value} {d : DataW H} {ps : List MemPlace} (n : Nat) (ls : List TypeId) (ht : P.underlying t = some (.slice e)) (hg : good P n e = true) (hl : lv P n e = ls) (hc : P.cellsOf e = ls.length)
    (hv : Value.okWide P w r b0 t v) (h : DataW.Trod enc P w base (fun _ => true) held t v d ps) (hlt : ∀ x ∈ ps, x.block < w.heap.size) :
    ∃ (A : Option Addr) (c : Nat) (rows : List (List Value)), v = .slice A rows.length c ∧ rows.length ≤ c ∧ c ≤ maxLen ∧ (∀ cs ∈ rows, Cells enc P w base (fun _ => true) held ls cs) ∧ Me.Seg w w.heap.size A rows.flatten ∧
      (∃ es sp : List (DataW H), (d = .slice es sp ∧ es.length = rows.length ∧ es.length + sp.length = c) ∨ (d = .nil ∧ rows = [] ∧ c = 0)) := by
  obtain ⟨A, c, rows, h1, h2, h3, h4, h5, _, h6⟩ := open_rows0 n ls ht hg hl hc hv h hlt
  exact ⟨A, c, rows, h1, h2, h3, h4, h5, h6⟩
end

section
variable {H : Type} {enc : TypeId × Value → H} {P : Program} {w : World} {base : Nat} {spare : Nat → Bool} {held : Bool}
/-- Cells that are all integers of one kind. -/
theorem cells_ints {ti : TypeId} {k : IntKind} (hu : P.underlying ti = some (.int k)) : ∀ {n : Nat} {cs : List Value}, Cells enc P w base spare held (List.replicate n ti) cs →
    ∃ zs : List Int, zs.length = n ∧ cs = zs.map (Value.int k) ∧ ∀ z ∈ zs, (Lit.int k z).wf = true
  | 0, cs, h => ⟨[], rfl, by simpa using h.1, by simp⟩
  | n + 1, cs, h => by
    obtain ⟨hl, hc⟩ := h
    match cs, hl with
    | c :: cs, hl =>
      obtain ⟨v, m, y, hv, hy⟩ := hc 0 ti (by simp [List.replicate_succ])
      simp at hv
      subst hv
      obtain ⟨z, hz, _, hw⟩ := DataW.trod_int hu hy
      simp at hz
      subst hz
      obtain ⟨zs, h1, h2, h3⟩ := cells_ints hu (n := n) (cs := cs) ⟨by simpa [List.replicate_succ] using hl, fun i u hi => by
        obtain ⟨v, m, y, hv, hy⟩ := hc (i + 1) u (by simpa [List.replicate_succ] using hi)
        exact ⟨v, m, y, by simpa using hv, hy⟩⟩
      exact ⟨z :: zs, by simp [h1], by simp [h2], by
        intro x hx
        rcases List.mem_cons.1 hx with rfl | hx
        · exact hw
        · exact h3 x hx⟩
theorem wf_bd {z : Int} (h : (Lit.int .i64 z).wf = true) : -9223372036854775808 ≤ z ∧ z ≤ 9223372036854775807 := by
  simp [Lit.wf, IntKind.min, IntKind.max, IntKind.signed, IntKind.bits] at h
  omega
end
end Go.Proofs.YtoboecenlangmaaGreatDoor.Le
end
section
namespace Go.Proofs.YtoboecenlangmaaGreatDoor.PackReports
open Go.ChangeShapes Go.WideShapes Go.ChangeAt Go.RowKit
set_option linter.unusedVariables false
set_option linter.unusedSimpArgs false

set_option maxRecDepth 100000 in
theorem lifted (os : Os) (started : os.Started) (H : Type) (enc : TypeId × Value → H) :
    ReturnsInHanded {} Tryz.checked os 3 .any (fun w args => (Rows.packReportsSpec.pre enc Tryz.prog Tryz.f3 [] false w args ∧ laidMetH Tryz.prog Ca.laid w) ∧ sizedMet enc Tryz.prog Tryz.f3 (OpenSpec.ofChange Rows.packReportsSpec) false w args)
      (Rows.packReportsSpec.post enc Tryz.prog Tryz.f3 false true false false) := by
  refine returnsInHanded_of_change_and (C := Tryz.checked) (X := fun w _ => laidMetH Tryz.prog Ca.laid w) (fun _ _ _ hh h => h.of_heap hh) Ca.own started (by kernel_rfl) Tryz.func3
    (ChangeSpec.witness_shaped (enc := enc) (C := Tryz.checked) (os := os) (X := fun w _ => laidMetH Tryz.prog Ca.laid w) false (World.doorLaid Tryz.prog 400 os) #[.bool false, .int .i64 0, .int .i64 0, .int .i64 0, .int .i64 0, .int .i64 0] 8 rfl (World.shaped_of_RefB (by kernel_rfl) (by kernel_rfl)) (by kernel_rfl) (by kernel_rfl) (by kernel_rfl) (Ca.door_met os _)) ?_
  intro W base args ds gs before hval0 hW _ hsz0 hL _
  have hval : ∀ (j : Nat) t v, Tryz.f3.params[j]? = some t → args[j]? = some v → Value.okWide Tryz.prog W .any base t v := hval0
  have hW' := hW
  have hlt0 := hW.lt
  have htab := Ca.tab_of_laid hL
  obtain ⟨p, q, hA0, hV, he, hfz, hnd⟩ := hW
  have hA : DataW.TrodAll enc Tryz.prog W 0 (fun _ => true) true Tryz.f3.params.toList args.toList ds p := hA0
  rw [Tryz.params3] at hA hval
  obtain ⟨rfl, rfl⟩ := trodVars_none hV
  rw [List.append_nil] at he
  subst he
  obtain ⟨v0, vs0, d0, ds0, p0, q0, hargs, rfl, rfl, h0, r0⟩ := trodAll_cons hA
  obtain ⟨v1, vs1, d1, ds1, p1, q1, rfl, rfl, rfl, h1, r1⟩ := trodAll_cons r0
  obtain ⟨v2, vs2, d2, ds2, p2, q2, rfl, rfl, rfl, h2, r2⟩ := trodAll_cons r1
  obtain ⟨v3, vs3, d3, ds3, p3, q3, rfl, rfl, rfl, h3, r3⟩ := trodAll_cons r2
  obtain ⟨v4, vs4, d4, ds4, p4, q4, rfl, rfl, rfl, h4, r4⟩ := trodAll_cons r3
  obtain ⟨v5, vs5, d5, ds5, p5, q5, rfl, rfl, rfl, h5, r5⟩ := trodAll_cons r4
  obtain ⟨rfl, rfl, rfl⟩ := trodAll_nil r5
  obtain rfl : args = #[v0, v1, v2, v3, v4, v5] := by cases args; simp_all
  have k0 : ∀ x ∈ p0, x.block < W.heap.size := fun x hx => hlt0 x (by simp [hx])
  have k1 : ∀ x ∈ p1, x.block < W.heap.size := fun x hx => hlt0 x (by simp [hx])
  have k2 : ∀ x ∈ p2, x.block < W.heap.size := fun x hx => hlt0 x (by simp [hx])
  have k3 : ∀ x ∈ p3, x.block < W.heap.size := fun x hx => hlt0 x (by simp [hx])
  have k4 : ∀ x ∈ p4, x.block < W.heap.size := fun x hx => hlt0 x (by simp [hx])
  have k5 : ∀ x ∈ p5, x.block < W.heap.size := fun x hx => hlt0 x (by simp [hx])
  obtain ⟨a0, rfl, rfl, rfl⟩ := open_bool Tryz.underlying4 (hval 0 4 v0 rfl rfl) h0
  obtain ⟨a1, rfl, rfl, rfl, w1⟩ := open_int Tryz.underlying3 (hval 1 3 v1 rfl rfl) h1
  obtain ⟨a2, rfl, rfl, rfl, w2⟩ := open_int Tryz.underlying3 (hval 2 3 v2 rfl rfl) h2
  obtain ⟨a3, rfl, rfl, rfl, w3⟩ := open_int Tryz.underlying3 (hval 3 3 v3 rfl rfl) h3
  obtain ⟨a4, rfl, rfl, rfl, w4⟩ := open_int Tryz.underlying3 (hval 4 3 v4 rfl rfl) h4
  obtain ⟨a5, rfl, rfl, rfl, w5⟩ := open_int Tryz.underlying3 (hval 5 3 v5 rfl rfl) h5
  clear hA0 hval0
  refine (Pk.reports_walk a0 a1 a2 a3 a4 a5 W htab w4 w2).mono fun e W' ⟨he, hb⟩ => ?_
  subst he
  exact ⟨_, rfl, Li.law_post Ca.laidOut rfl hW' (by kernel_rfl) rfl rfl rfl rfl Tryz.underlying4 hb⟩

theorem over : Rows.packReportsRow.holds Tryz.pinned (OpenSpec.ofChange Rows.packReportsSpec) :=
  OpenClaim.holds_of_wide 3 Tryz.f3 rfl rfl rfl rfl rfl rfl rfl ⟨rfl, rfl, rfl, rfl, rfl⟩ rfl rfl rfl rfl rfl (by kernel_rfl) Tryz.func3 (by kernel_rfl)
    (of_decide_eq_true (by kernel_rfl)) (by unfold Func.isWrapper; first | (rw [if_pos (by decide +kernel)]; kernel_rfl) | (rw [if_neg (by decide +kernel)]; exact ⟨rfl, rfl⟩))
    (fun os started H enc _ => lifted os started H enc)

theorem proved : Rows.PackReportsCardSaid :=
  Claim7.holds_tied_plain_at .later [] [.data, .data, .data] true (true, "86deae04023b167fcf87ed73cdc91d95afbdda1d8b3192896f8d5ab10f017ccf") false
    over (fun _ h => by cases h) (by kernel_rfl) (fun _ h => by cases h) packReports_row_tie rfl ⟨rfl, rfl⟩ (by kernel_rfl) rfl
    (fun f fn hf hfn => by
      obtain rfl : f = 3 := Option.some.inj ((show Tryz.prog.funcNamed "galley/galleylaw06.PackReports" = some 3 by kernel_rfl).symm.trans hf) |>.symm
      obtain rfl : fn = Tryz.f3 := (Option.some.inj (Tryz.func3.symm.trans hfn)).symm
      exact ⟨by kernel_rfl, fun j t ht => by
        rw [Tryz.params3] at ht
        have hm : t ∈ [4, 3, 3, 3, 3, 3] := by simpa using Array.mem_of_getElem? ht
        have hall : ([4, 3, 3, 3, 3, 3].all fun u => !Tryz.prog.wantsStandIn u) = true := by kernel_rfl
        exact (show Tryz.prog.wantsStandIn t = false by simpa using List.all_eq_true.1 hall t hm)⟩)
    (by kernel_rfl)
#print axioms proved
end Go.Proofs.YtoboecenlangmaaGreatDoor.PackReports
end

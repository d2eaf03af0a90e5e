import Derived.Test.YtoboecenlangmaaMh4
import Derived.Test.YtoboecenlangmaaMh1
import Derived.Test.YtoboecenlangmaaGlueI
import Derived.Test.YtoboecenlangmaaRows
import Derived.Test.YtoboecenlangmaaMem
import Derived.WalkKit
import Derived.ProofKit
import Derived.OpenShut
import Derived.WalkSpells
import Derived.WalkLawsBesides
import Derived.Outline
import Derived.Lib.Hide
import Derived.Deep.DeepCutAuto
import Derived.Deep.QuietTactic
import Derived.BigQuiet
import Derived.Handy
import Derived.Test.YtoboecenlangmaaMh2
import Derived.Test.YtoboecenlangmaaNr
import Derived.Test.YtoboecenlangmaaNodeF
import Derived.Deep.RegionHeld3
/- Merged texts. Conditions: those that each theorem names. -/
section
namespace Go.Proofs.Ytoboecenlangmaa.Pk
open Go.ChangeShapes Go.WideShapes Go.ChangeAt Go.RowKit
open Me Np No
set_option linter.unusedVariables false
set_option linter.unusedSimpArgs false

/-- How long a node is that is neither a Disc nor a Skip. -/
def szP (n : Nd) (down : Bool) : Int := if n.kind = 7 then 0 else alongP n down

theorem size_kern_true (A : Option Addr) (ns : List Nd) (c k : Nat) (n : Nd) (w : World) (hl : ns.length ≤ 9223372036854775806) (hseg : Seg w w.heap.size A (ns.flatMap ncs)) (hk : ns[k]? = some n) (hn : n.kind = 8) :
    Calls Try.prog 51 #[.slice A ns.length c, .int .i64 (k : Int), .bool true] w fun e w' => e = .returned (.int .i64 (szP n true)) ∧ Below w.heap.size w w' := by
  obtain ⟨b, off, rfl, hb, hnode⟩ := seg_node hseg hk
  have hkl : k < ns.length := (List.getElem?_eq_some_iff.1 hk).1
  clear hseg hk
  have hv : szP n true = n.wd := by simp [szP, alongP, hn]
  have HV := Lib.hid hv
  clear hv
  generalize ns.length = len at *
  go_enter Try.func51, Try.ntmps51
  go_wp2_with (first | (refine wpList_load_node rfl _ rfl _ _ rfl _ (by repeat (first | apply NodeAt.row | (apply Blk.new'; first | rfl | (simp; done)) | (apply Blk.node; apply Blk.new'; first | rfl | (simp; done)) | assumption | apply NodeAt.alloc)) ?_) | (refine wpList_alloc_node rfl rfl ?_) | (refine wpList_store_node rfl _ _ rfl _ _ _ rfl rfl _ (by repeat (first | (apply Blk.new'; first | rfl | (simp; done)) | assumption | apply Blk.alloc)) ?_))
  (go_ret; exact ⟨ret_int (by rw [HV.out]), (by repeat (first | exact Below.refl _ _ | (refine below_setRow ?_ _ _ ?_; rotate_left; focus (simp; done)) | refine andAlloc ?_ _))⟩)

theorem size_b3_true (A : Option Addr) (ns : List Nd) (c k : Nat) (n : Nd) (w : World) (hl : ns.length ≤ 9223372036854775806) (hseg : Seg w w.heap.size A (ns.flatMap ncs)) (hk : ns[k]? = some n) (hn : n.kind = 3) (hr : right n = true) :
    Calls Try.prog 51 #[.slice A ns.length c, .int .i64 (k : Int), .bool true] w fun e w' => e = .returned (.int .i64 (szP n true)) ∧ Below w.heap.size w w' := by
  obtain ⟨b, off, rfl, hb, hnode⟩ := seg_node hseg hk
  have hkl : k < ns.length := (List.getElem?_eq_some_iff.1 hk).1
  clear hseg hk
  have hd := right_hd hr (by omega)
  unfold dm at hd
  obtain ⟨⟨d0, d1⟩, d2, d3⟩ := hd
  clear hr
  have hv : szP n true = n.ht + n.dp := by simp [szP, alongP, hn]
  have HV := Lib.hid hv
  clear hv
  generalize ns.length = len at *
  go_enter Try.func51, Try.ntmps51
  go_wp2_with (first | (refine wpList_load_node rfl _ rfl _ _ rfl _ (by repeat (first | apply NodeAt.row | (apply Blk.new'; first | rfl | (simp; done)) | (apply Blk.node; apply Blk.new'; first | rfl | (simp; done)) | assumption | apply NodeAt.alloc)) ?_) | (refine wpList_alloc_node rfl rfl ?_) | (refine wpList_store_node rfl _ _ rfl _ _ _ rfl rfl _ (by repeat (first | (apply Blk.new'; first | rfl | (simp; done)) | assumption | apply Blk.alloc)) ?_))
  (go_ret; exact ⟨ret_int (by rw [HV.out]), (by repeat (first | exact Below.refl _ _ | (refine below_setRow ?_ _ _ ?_; rotate_left; focus (simp; done)) | refine andAlloc ?_ _))⟩)

theorem size_b4_true (A : Option Addr) (ns : List Nd) (c k : Nat) (n : Nd) (w : World) (hl : ns.length ≤ 9223372036854775806) (hseg : Seg w w.heap.size A (ns.flatMap ncs)) (hk : ns[k]? = some n) (hn : n.kind = 4) (hr : right n = true) :
    Calls Try.prog 51 #[.slice A ns.length c, .int .i64 (k : Int), .bool true] w fun e w' => e = .returned (.int .i64 (szP n true)) ∧ Below w.heap.size w w' := by
  obtain ⟨b, off, rfl, hb, hnode⟩ := seg_node hseg hk
  have hkl : k < ns.length := (List.getElem?_eq_some_iff.1 hk).1
  clear hseg hk
  have hd := right_hd hr (by omega)
  unfold dm at hd
  obtain ⟨⟨d0, d1⟩, d2, d3⟩ := hd
  clear hr
  have hv : szP n true = n.ht + n.dp := by simp [szP, alongP, hn]
  have HV := Lib.hid hv
  clear hv
  generalize ns.length = len at *
  go_enter Try.func51, Try.ntmps51
  go_wp2_with (first | (refine wpList_load_node rfl _ rfl _ _ rfl _ (by repeat (first | apply NodeAt.row | (apply Blk.new'; first | rfl | (simp; done)) | (apply Blk.node; apply Blk.new'; first | rfl | (simp; done)) | assumption | apply NodeAt.alloc)) ?_) | (refine wpList_alloc_node rfl rfl ?_) | (refine wpList_store_node rfl _ _ rfl _ _ _ rfl rfl _ (by repeat (first | (apply Blk.new'; first | rfl | (simp; done)) | assumption | apply Blk.alloc)) ?_))
  (go_ret; exact ⟨ret_int (by rw [HV.out]), (by repeat (first | exact Below.refl _ _ | (refine below_setRow ?_ _ _ ?_; rotate_left; focus (simp; done)) | refine andAlloc ?_ _))⟩)

theorem size_b5_true (A : Option Addr) (ns : List Nd) (c k : Nat) (n : Nd) (w : World) (hl : ns.length ≤ 9223372036854775806) (hseg : Seg w w.heap.size A (ns.flatMap ncs)) (hk : ns[k]? = some n) (hn : n.kind = 5) (hr : right n = true) :
    Calls Try.prog 51 #[.slice A ns.length c, .int .i64 (k : Int), .bool true] w fun e w' => e = .returned (.int .i64 (szP n true)) ∧ Below w.heap.size w w' := by
  obtain ⟨b, off, rfl, hb, hnode⟩ := seg_node hseg hk
  have hkl : k < ns.length := (List.getElem?_eq_some_iff.1 hk).1
  clear hseg hk
  have hd := right_hd hr (by omega)
  unfold dm at hd
  obtain ⟨⟨d0, d1⟩, d2, d3⟩ := hd
  clear hr
  have hv : szP n true = n.ht + n.dp := by simp [szP, alongP, hn]
  have HV := Lib.hid hv
  clear hv
  generalize ns.length = len at *
  go_enter Try.func51, Try.ntmps51
  go_wp2_with (first | (refine wpList_load_node rfl _ rfl _ _ rfl _ (by repeat (first | apply NodeAt.row | (apply Blk.new'; first | rfl | (simp; done)) | (apply Blk.node; apply Blk.new'; first | rfl | (simp; done)) | assumption | apply NodeAt.alloc)) ?_) | (refine wpList_alloc_node rfl rfl ?_) | (refine wpList_store_node rfl _ _ rfl _ _ _ rfl rfl _ (by repeat (first | (apply Blk.new'; first | rfl | (simp; done)) | assumption | apply Blk.alloc)) ?_))
  (go_ret; exact ⟨ret_int (by rw [HV.out]), (by repeat (first | exact Below.refl _ _ | (refine below_setRow ?_ _ _ ?_; rotate_left; focus (simp; done)) | refine andAlloc ?_ _))⟩)

theorem size_b1_true (A : Option Addr) (ns : List Nd) (c k : Nat) (n : Nd) (w : World) (hl : ns.length ≤ 9223372036854775806) (hseg : Seg w w.heap.size A (ns.flatMap ncs)) (hk : ns[k]? = some n) (hn : n.kind = 1) :
    Calls Try.prog 51 #[.slice A ns.length c, .int .i64 (k : Int), .bool true] w fun e w' => e = .returned (.int .i64 (szP n true)) ∧ Below w.heap.size w w' := by
  obtain ⟨b, off, rfl, hb, hnode⟩ := seg_node hseg hk
  have hkl : k < ns.length := (List.getElem?_eq_some_iff.1 hk).1
  clear hseg hk
  have hv : szP n true = 0 := by simp [szP, alongP, hn]
  have HV := Lib.hid hv
  clear hv
  generalize ns.length = len at *
  go_enter Try.func51, Try.ntmps51
  go_wp2_with (first | (refine wpList_load_node rfl _ rfl _ _ rfl _ (by repeat (first | apply NodeAt.row | (apply Blk.new'; first | rfl | (simp; done)) | (apply Blk.node; apply Blk.new'; first | rfl | (simp; done)) | assumption | apply NodeAt.alloc)) ?_) | (refine wpList_alloc_node rfl rfl ?_) | (refine wpList_store_node rfl _ _ rfl _ _ _ rfl rfl _ (by repeat (first | (apply Blk.new'; first | rfl | (simp; done)) | assumption | apply Blk.alloc)) ?_))
  (go_ret; exact ⟨ret_int (by rw [HV.out]), (by repeat (first | exact Below.refl _ _ | (refine below_setRow ?_ _ _ ?_; rotate_left; focus (simp; done)) | refine andAlloc ?_ _))⟩)

theorem size_b2_true (A : Option Addr) (ns : List Nd) (c k : Nat) (n : Nd) (w : World) (hl : ns.length ≤ 9223372036854775806) (hseg : Seg w w.heap.size A (ns.flatMap ncs)) (hk : ns[k]? = some n) (hn : n.kind = 2) :
    Calls Try.prog 51 #[.slice A ns.length c, .int .i64 (k : Int), .bool true] w fun e w' => e = .returned (.int .i64 (szP n true)) ∧ Below w.heap.size w w' := by
  obtain ⟨b, off, rfl, hb, hnode⟩ := seg_node hseg hk
  have hkl : k < ns.length := (List.getElem?_eq_some_iff.1 hk).1
  clear hseg hk
  have hv : szP n true = 0 := by simp [szP, alongP, hn]
  have HV := Lib.hid hv
  clear hv
  generalize ns.length = len at *
  go_enter Try.func51, Try.ntmps51
  go_wp2_with (first | (refine wpList_load_node rfl _ rfl _ _ rfl _ (by repeat (first | apply NodeAt.row | (apply Blk.new'; first | rfl | (simp; done)) | (apply Blk.node; apply Blk.new'; first | rfl | (simp; done)) | assumption | apply NodeAt.alloc)) ?_) | (refine wpList_alloc_node rfl rfl ?_) | (refine wpList_store_node rfl _ _ rfl _ _ _ rfl rfl _ (by repeat (first | (apply Blk.new'; first | rfl | (simp; done)) | assumption | apply Blk.alloc)) ?_))
  (go_ret; exact ⟨ret_int (by rw [HV.out]), (by repeat (first | exact Below.refl _ _ | (refine below_setRow ?_ _ _ ?_; rotate_left; focus (simp; done)) | refine andAlloc ?_ _))⟩)

theorem size_b15_true (A : Option Addr) (ns : List Nd) (c k : Nat) (n : Nd) (w : World) (hl : ns.length ≤ 9223372036854775806) (hseg : Seg w w.heap.size A (ns.flatMap ncs)) (hk : ns[k]? = some n) (hn : n.kind = 15) :
    Calls Try.prog 51 #[.slice A ns.length c, .int .i64 (k : Int), .bool true] w fun e w' => e = .returned (.int .i64 (szP n true)) ∧ Below w.heap.size w w' := by
  obtain ⟨b, off, rfl, hb, hnode⟩ := seg_node hseg hk
  have hkl : k < ns.length := (List.getElem?_eq_some_iff.1 hk).1
  clear hseg hk
  have hv : szP n true = 0 := by simp [szP, alongP, hn]
  have HV := Lib.hid hv
  clear hv
  generalize ns.length = len at *
  go_enter Try.func51, Try.ntmps51
  go_wp2_with (first | (refine wpList_load_node rfl _ rfl _ _ rfl _ (by repeat (first | apply NodeAt.row | (apply Blk.new'; first | rfl | (simp; done)) | (apply Blk.node; apply Blk.new'; first | rfl | (simp; done)) | assumption | apply NodeAt.alloc)) ?_) | (refine wpList_alloc_node rfl rfl ?_) | (refine wpList_store_node rfl _ _ rfl _ _ _ rfl rfl _ (by repeat (first | (apply Blk.new'; first | rfl | (simp; done)) | assumption | apply Blk.alloc)) ?_))
  (go_ret; exact ⟨ret_int (by rw [HV.out]), (by repeat (first | exact Below.refl _ _ | (refine below_setRow ?_ _ _ ?_; rotate_left; focus (simp; done)) | refine andAlloc ?_ _))⟩)

theorem size_b16_true (A : Option Addr) (ns : List Nd) (c k : Nat) (n : Nd) (w : World) (hl : ns.length ≤ 9223372036854775806) (hseg : Seg w w.heap.size A (ns.flatMap ncs)) (hk : ns[k]? = some n) (hn : n.kind = 16) :
    Calls Try.prog 51 #[.slice A ns.length c, .int .i64 (k : Int), .bool true] w fun e w' => e = .returned (.int .i64 (szP n true)) ∧ Below w.heap.size w w' := by
  obtain ⟨b, off, rfl, hb, hnode⟩ := seg_node hseg hk
  have hkl : k < ns.length := (List.getElem?_eq_some_iff.1 hk).1
  clear hseg hk
  have hv : szP n true = 0 := by simp [szP, alongP, hn]
  have HV := Lib.hid hv
  clear hv
  generalize ns.length = len at *
  go_enter Try.func51, Try.ntmps51
  go_wp2_with (first | (refine wpList_load_node rfl _ rfl _ _ rfl _ (by repeat (first | apply NodeAt.row | (apply Blk.new'; first | rfl | (simp; done)) | (apply Blk.node; apply Blk.new'; first | rfl | (simp; done)) | assumption | apply NodeAt.alloc)) ?_) | (refine wpList_alloc_node rfl rfl ?_) | (refine wpList_store_node rfl _ _ rfl _ _ _ rfl rfl _ (by repeat (first | (apply Blk.new'; first | rfl | (simp; done)) | assumption | apply Blk.alloc)) ?_))
  (go_ret; exact ⟨ret_int (by rw [HV.out]), (by repeat (first | exact Below.refl _ _ | (refine below_setRow ?_ _ _ ?_; rotate_left; focus (simp; done)) | refine andAlloc ?_ _))⟩)

theorem size_disc_true (A : Option Addr) (ns : List Nd) (c k : Nat) (n : Nd) (w : World) (hl : ns.length ≤ 9223372036854775806) (hseg : Seg w w.heap.size A (ns.flatMap ncs)) (hk : ns[k]? = some n) (hn : n.kind = 10) :
    Calls Try.prog 51 #[.slice A ns.length c, .int .i64 (k : Int), .bool true] w fun e w' => e = .returned (.int .i64 (szP n true)) ∧ Below w.heap.size w w' := by
  obtain ⟨b, off, rfl, hb, hnode⟩ := seg_node hseg hk
  have hkl : k < ns.length := (List.getElem?_eq_some_iff.1 hk).1
  clear hseg hk
  have hv : szP n true = 0 := by simp [szP, alongP, hn]
  have HV := Lib.hid hv
  clear hv
  generalize ns.length = len at *
  go_enter Try.func51, Try.ntmps51
  go_wp2_with (first | (refine wpList_load_node rfl _ rfl _ _ rfl _ (by repeat (first | apply NodeAt.row | (apply Blk.new'; first | rfl | (simp; done)) | (apply Blk.node; apply Blk.new'; first | rfl | (simp; done)) | assumption | apply NodeAt.alloc)) ?_) | (refine wpList_alloc_node rfl rfl ?_) | (refine wpList_store_node rfl _ _ rfl _ _ _ rfl rfl _ (by repeat (first | (apply Blk.new'; first | rfl | (simp; done)) | assumption | apply Blk.alloc)) ?_))
  (go_ret; exact ⟨ret_int (by rw [HV.out]), (by repeat (first | exact Below.refl _ _ | (refine below_setRow ?_ _ _ ?_; rotate_left; focus (simp; done)) | refine andAlloc ?_ _))⟩)

theorem size_other_true (A : Option Addr) (ns : List Nd) (c k : Nat) (n : Nd) (w : World) (hl : ns.length ≤ 9223372036854775806) (hseg : Seg w w.heap.size A (ns.flatMap ncs)) (hk : ns[k]? = some n) (h8 : ¬ n.kind = 8) (h3 : ¬ n.kind = 3) (h4 : ¬ n.kind = 4) (h5 : ¬ n.kind = 5) (h1 : ¬ n.kind = 1) (h2 : ¬ n.kind = 2) (h15 : ¬ n.kind = 15) (h16 : ¬ n.kind = 16) (h10 : ¬ n.kind = 10) :
    Calls Try.prog 51 #[.slice A ns.length c, .int .i64 (k : Int), .bool true] w fun e w' => e = .returned (.int .i64 (szP n true)) ∧ Below w.heap.size w w' := by
  obtain ⟨b, off, rfl, hb, hnode⟩ := seg_node hseg hk
  have hkl : k < ns.length := (List.getElem?_eq_some_iff.1 hk).1
  clear hseg hk
  have hv : szP n true = 0 := by
    unfold szP
    split
    · rfl
    · rename_i h7
      simp [alongP, h7, h8, h3, h4, h5, h1, h2, h15, h16]
  have HV := Lib.hid hv
  clear hv
  have e8 : (n.kind == 8) = false := by simp [h8]
  have e3 : (n.kind == 3) = false := by simp [h3]
  have e4 : (n.kind == 4) = false := by simp [h4]
  have e5 : (n.kind == 5) = false := by simp [h5]
  have e1 : (n.kind == 1) = false := by simp [h1]
  have e2 : (n.kind == 2) = false := by simp [h2]
  have e15 : (n.kind == 15) = false := by simp [h15]
  have e16 : (n.kind == 16) = false := by simp [h16]
  have e10 : (n.kind == 10) = false := by simp [h10]
  clear h8 h3 h4 h5 h1 h2 h15 h16 h10
  generalize ns.length = len at *
  go_enter Try.func51, Try.ntmps51
  go_wp2_with (first | (refine wpList_load_node rfl _ rfl _ _ rfl _ (by repeat (first | apply NodeAt.row | (apply Blk.new'; first | rfl | (simp; done)) | (apply Blk.node; apply Blk.new'; first | rfl | (simp; done)) | assumption | apply NodeAt.alloc)) ?_) | (refine wpList_alloc_node rfl rfl ?_) | (refine wpList_store_node rfl _ _ rfl _ _ _ rfl rfl _ (by repeat (first | (apply Blk.new'; first | rfl | (simp; done)) | assumption | apply Blk.alloc)) ?_))
  (go_ret; exact ⟨ret_int (by rw [HV.out]), (by repeat (first | exact Below.refl _ _ | (refine below_setRow ?_ _ _ ?_; rotate_left; focus (simp; done)) | refine andAlloc ?_ _))⟩)

theorem size_kern_false (A : Option Addr) (ns : List Nd) (c k : Nat) (n : Nd) (w : World) (hl : ns.length ≤ 9223372036854775806) (hseg : Seg w w.heap.size A (ns.flatMap ncs)) (hk : ns[k]? = some n) (hn : n.kind = 8) :
    Calls Try.prog 51 #[.slice A ns.length c, .int .i64 (k : Int), .bool false] w fun e w' => e = .returned (.int .i64 (szP n false)) ∧ Below w.heap.size w w' := by
  obtain ⟨b, off, rfl, hb, hnode⟩ := seg_node hseg hk
  have hkl : k < ns.length := (List.getElem?_eq_some_iff.1 hk).1
  clear hseg hk
  have hv : szP n false = n.wd := by simp [szP, alongP, hn]
  have HV := Lib.hid hv
  clear hv
  generalize ns.length = len at *
  go_enter Try.func51, Try.ntmps51
  go_wp2_with (first | (refine wpList_load_node rfl _ rfl _ _ rfl _ (by repeat (first | apply NodeAt.row | (apply Blk.new'; first | rfl | (simp; done)) | (apply Blk.node; apply Blk.new'; first | rfl | (simp; done)) | assumption | apply NodeAt.alloc)) ?_) | (refine wpList_alloc_node rfl rfl ?_) | (refine wpList_store_node rfl _ _ rfl _ _ _ rfl rfl _ (by repeat (first | (apply Blk.new'; first | rfl | (simp; done)) | assumption | apply Blk.alloc)) ?_))
  (go_ret; exact ⟨ret_int (by rw [HV.out]), (by repeat (first | exact Below.refl _ _ | (refine below_setRow ?_ _ _ ?_; rotate_left; focus (simp; done)) | refine andAlloc ?_ _))⟩)

theorem size_b3_false (A : Option Addr) (ns : List Nd) (c k : Nat) (n : Nd) (w : World) (hl : ns.length ≤ 9223372036854775806) (hseg : Seg w w.heap.size A (ns.flatMap ncs)) (hk : ns[k]? = some n) (hn : n.kind = 3) (hr : right n = true) :
    Calls Try.prog 51 #[.slice A ns.length c, .int .i64 (k : Int), .bool false] w fun e w' => e = .returned (.int .i64 (szP n false)) ∧ Below w.heap.size w w' := by
  obtain ⟨b, off, rfl, hb, hnode⟩ := seg_node hseg hk
  have hkl : k < ns.length := (List.getElem?_eq_some_iff.1 hk).1
  clear hseg hk
  have hd := right_hd hr (by omega)
  unfold dm at hd
  obtain ⟨⟨d0, d1⟩, d2, d3⟩ := hd
  clear hr
  have hv : szP n false = n.wd := by simp [szP, alongP, hn]
  have HV := Lib.hid hv
  clear hv
  generalize ns.length = len at *
  go_enter Try.func51, Try.ntmps51
  go_wp2_with (first | (refine wpList_load_node rfl _ rfl _ _ rfl _ (by repeat (first | apply NodeAt.row | (apply Blk.new'; first | rfl | (simp; done)) | (apply Blk.node; apply Blk.new'; first | rfl | (simp; done)) | assumption | apply NodeAt.alloc)) ?_) | (refine wpList_alloc_node rfl rfl ?_) | (refine wpList_store_node rfl _ _ rfl _ _ _ rfl rfl _ (by repeat (first | (apply Blk.new'; first | rfl | (simp; done)) | assumption | apply Blk.alloc)) ?_))
  (go_ret; exact ⟨ret_int (by rw [HV.out]), (by repeat (first | exact Below.refl _ _ | (refine below_setRow ?_ _ _ ?_; rotate_left; focus (simp; done)) | refine andAlloc ?_ _))⟩)

theorem size_b4_false (A : Option Addr) (ns : List Nd) (c k : Nat) (n : Nd) (w : World) (hl : ns.length ≤ 9223372036854775806) (hseg : Seg w w.heap.size A (ns.flatMap ncs)) (hk : ns[k]? = some n) (hn : n.kind = 4) (hr : right n = true) :
    Calls Try.prog 51 #[.slice A ns.length c, .int .i64 (k : Int), .bool false] w fun e w' => e = .returned (.int .i64 (szP n false)) ∧ Below w.heap.size w w' := by
  obtain ⟨b, off, rfl, hb, hnode⟩ := seg_node hseg hk
  have hkl : k < ns.length := (List.getElem?_eq_some_iff.1 hk).1
  clear hseg hk
  have hd := right_hd hr (by omega)
  unfold dm at hd
  obtain ⟨⟨d0, d1⟩, d2, d3⟩ := hd
  clear hr
  have hv : szP n false = n.wd := by simp [szP, alongP, hn]
  have HV := Lib.hid hv
  clear hv
  generalize ns.length = len at *
  go_enter Try.func51, Try.ntmps51
  go_wp2_with (first | (refine wpList_load_node rfl _ rfl _ _ rfl _ (by repeat (first | apply NodeAt.row | (apply Blk.new'; first | rfl | (simp; done)) | (apply Blk.node; apply Blk.new'; first | rfl | (simp; done)) | assumption | apply NodeAt.alloc)) ?_) | (refine wpList_alloc_node rfl rfl ?_) | (refine wpList_store_node rfl _ _ rfl _ _ _ rfl rfl _ (by repeat (first | (apply Blk.new'; first | rfl | (simp; done)) | assumption | apply Blk.alloc)) ?_))
  (go_ret; exact ⟨ret_int (by rw [HV.out]), (by repeat (first | exact Below.refl _ _ | (refine below_setRow ?_ _ _ ?_; rotate_left; focus (simp; done)) | refine andAlloc ?_ _))⟩)

theorem size_b5_false (A : Option Addr) (ns : List Nd) (c k : Nat) (n : Nd) (w : World) (hl : ns.length ≤ 9223372036854775806) (hseg : Seg w w.heap.size A (ns.flatMap ncs)) (hk : ns[k]? = some n) (hn : n.kind = 5) (hr : right n = true) :
    Calls Try.prog 51 #[.slice A ns.length c, .int .i64 (k : Int), .bool false] w fun e w' => e = .returned (.int .i64 (szP n false)) ∧ Below w.heap.size w w' := by
  obtain ⟨b, off, rfl, hb, hnode⟩ := seg_node hseg hk
  have hkl : k < ns.length := (List.getElem?_eq_some_iff.1 hk).1
  clear hseg hk
  have hd := right_hd hr (by omega)
  unfold dm at hd
  obtain ⟨⟨d0, d1⟩, d2, d3⟩ := hd
  clear hr
  have hv : szP n false = n.wd := by simp [szP, alongP, hn]
  have HV := Lib.hid hv
  clear hv
  generalize ns.length = len at *
  go_enter Try.func51, Try.ntmps51
  go_wp2_with (first | (refine wpList_load_node rfl _ rfl _ _ rfl _ (by repeat (first | apply NodeAt.row | (apply Blk.new'; first | rfl | (simp; done)) | (apply Blk.node; apply Blk.new'; first | rfl | (simp; done)) | assumption | apply NodeAt.alloc)) ?_) | (refine wpList_alloc_node rfl rfl ?_) | (refine wpList_store_node rfl _ _ rfl _ _ _ rfl rfl _ (by repeat (first | (apply Blk.new'; first | rfl | (simp; done)) | assumption | apply Blk.alloc)) ?_))
  (go_ret; exact ⟨ret_int (by rw [HV.out]), (by repeat (first | exact Below.refl _ _ | (refine below_setRow ?_ _ _ ?_; rotate_left; focus (simp; done)) | refine andAlloc ?_ _))⟩)

theorem size_b1_false (A : Option Addr) (ns : List Nd) (c k : Nat) (n : Nd) (w : World) (hl : ns.length ≤ 9223372036854775806) (hseg : Seg w w.heap.size A (ns.flatMap ncs)) (hk : ns[k]? = some n) (hn : n.kind = 1) :
    Calls Try.prog 51 #[.slice A ns.length c, .int .i64 (k : Int), .bool false] w fun e w' => e = .returned (.int .i64 (szP n false)) ∧ Below w.heap.size w w' := by
  obtain ⟨b, off, rfl, hb, hnode⟩ := seg_node hseg hk
  have hkl : k < ns.length := (List.getElem?_eq_some_iff.1 hk).1
  clear hseg hk
  have hv : szP n false = n.wd := by simp [szP, alongP, hn]
  have HV := Lib.hid hv
  clear hv
  generalize ns.length = len at *
  go_enter Try.func51, Try.ntmps51
  go_wp2_with (first | (refine wpList_load_node rfl _ rfl _ _ rfl _ (by repeat (first | apply NodeAt.row | (apply Blk.new'; first | rfl | (simp; done)) | (apply Blk.node; apply Blk.new'; first | rfl | (simp; done)) | assumption | apply NodeAt.alloc)) ?_) | (refine wpList_alloc_node rfl rfl ?_) | (refine wpList_store_node rfl _ _ rfl _ _ _ rfl rfl _ (by repeat (first | (apply Blk.new'; first | rfl | (simp; done)) | assumption | apply Blk.alloc)) ?_))
  (go_ret; exact ⟨ret_int (by rw [HV.out]), (by repeat (first | exact Below.refl _ _ | (refine below_setRow ?_ _ _ ?_; rotate_left; focus (simp; done)) | refine andAlloc ?_ _))⟩)

theorem size_b2_false (A : Option Addr) (ns : List Nd) (c k : Nat) (n : Nd) (w : World) (hl : ns.length ≤ 9223372036854775806) (hseg : Seg w w.heap.size A (ns.flatMap ncs)) (hk : ns[k]? = some n) (hn : n.kind = 2) :
    Calls Try.prog 51 #[.slice A ns.length c, .int .i64 (k : Int), .bool false] w fun e w' => e = .returned (.int .i64 (szP n false)) ∧ Below w.heap.size w w' := by
  obtain ⟨b, off, rfl, hb, hnode⟩ := seg_node hseg hk
  have hkl : k < ns.length := (List.getElem?_eq_some_iff.1 hk).1
  clear hseg hk
  have hv : szP n false = n.wd := by simp [szP, alongP, hn]
  have HV := Lib.hid hv
  clear hv
  generalize ns.length = len at *
  go_enter Try.func51, Try.ntmps51
  go_wp2_with (first | (refine wpList_load_node rfl _ rfl _ _ rfl _ (by repeat (first | apply NodeAt.row | (apply Blk.new'; first | rfl | (simp; done)) | (apply Blk.node; apply Blk.new'; first | rfl | (simp; done)) | assumption | apply NodeAt.alloc)) ?_) | (refine wpList_alloc_node rfl rfl ?_) | (refine wpList_store_node rfl _ _ rfl _ _ _ rfl rfl _ (by repeat (first | (apply Blk.new'; first | rfl | (simp; done)) | assumption | apply Blk.alloc)) ?_))
  (go_ret; exact ⟨ret_int (by rw [HV.out]), (by repeat (first | exact Below.refl _ _ | (refine below_setRow ?_ _ _ ?_; rotate_left; focus (simp; done)) | refine andAlloc ?_ _))⟩)

theorem size_b15_false (A : Option Addr) (ns : List Nd) (c k : Nat) (n : Nd) (w : World) (hl : ns.length ≤ 9223372036854775806) (hseg : Seg w w.heap.size A (ns.flatMap ncs)) (hk : ns[k]? = some n) (hn : n.kind = 15) :
    Calls Try.prog 51 #[.slice A ns.length c, .int .i64 (k : Int), .bool false] w fun e w' => e = .returned (.int .i64 (szP n false)) ∧ Below w.heap.size w w' := by
  obtain ⟨b, off, rfl, hb, hnode⟩ := seg_node hseg hk
  have hkl : k < ns.length := (List.getElem?_eq_some_iff.1 hk).1
  clear hseg hk
  have hv : szP n false = n.wd := by simp [szP, alongP, hn]
  have HV := Lib.hid hv
  clear hv
  generalize ns.length = len at *
  go_enter Try.func51, Try.ntmps51
  go_wp2_with (first | (refine wpList_load_node rfl _ rfl _ _ rfl _ (by repeat (first | apply NodeAt.row | (apply Blk.new'; first | rfl | (simp; done)) | (apply Blk.node; apply Blk.new'; first | rfl | (simp; done)) | assumption | apply NodeAt.alloc)) ?_) | (refine wpList_alloc_node rfl rfl ?_) | (refine wpList_store_node rfl _ _ rfl _ _ _ rfl rfl _ (by repeat (first | (apply Blk.new'; first | rfl | (simp; done)) | assumption | apply Blk.alloc)) ?_))
  (go_ret; exact ⟨ret_int (by rw [HV.out]), (by repeat (first | exact Below.refl _ _ | (refine below_setRow ?_ _ _ ?_; rotate_left; focus (simp; done)) | refine andAlloc ?_ _))⟩)

theorem size_b16_false (A : Option Addr) (ns : List Nd) (c k : Nat) (n : Nd) (w : World) (hl : ns.length ≤ 9223372036854775806) (hseg : Seg w w.heap.size A (ns.flatMap ncs)) (hk : ns[k]? = some n) (hn : n.kind = 16) :
    Calls Try.prog 51 #[.slice A ns.length c, .int .i64 (k : Int), .bool false] w fun e w' => e = .returned (.int .i64 (szP n false)) ∧ Below w.heap.size w w' := by
  obtain ⟨b, off, rfl, hb, hnode⟩ := seg_node hseg hk
  have hkl : k < ns.length := (List.getElem?_eq_some_iff.1 hk).1
  clear hseg hk
  have hv : szP n false = n.wd := by simp [szP, alongP, hn]
  have HV := Lib.hid hv
  clear hv
  generalize ns.length = len at *
  go_enter Try.func51, Try.ntmps51
  go_wp2_with (first | (refine wpList_load_node rfl _ rfl _ _ rfl _ (by repeat (first | apply NodeAt.row | (apply Blk.new'; first | rfl | (simp; done)) | (apply Blk.node; apply Blk.new'; first | rfl | (simp; done)) | assumption | apply NodeAt.alloc)) ?_) | (refine wpList_alloc_node rfl rfl ?_) | (refine wpList_store_node rfl _ _ rfl _ _ _ rfl rfl _ (by repeat (first | (apply Blk.new'; first | rfl | (simp; done)) | assumption | apply Blk.alloc)) ?_))
  (go_ret; exact ⟨ret_int (by rw [HV.out]), (by repeat (first | exact Below.refl _ _ | (refine below_setRow ?_ _ _ ?_; rotate_left; focus (simp; done)) | refine andAlloc ?_ _))⟩)

theorem size_other_false (A : Option Addr) (ns : List Nd) (c k : Nat) (n : Nd) (w : World) (hl : ns.length ≤ 9223372036854775806) (hseg : Seg w w.heap.size A (ns.flatMap ncs)) (hk : ns[k]? = some n) (h8 : ¬ n.kind = 8) (h3 : ¬ n.kind = 3) (h4 : ¬ n.kind = 4) (h5 : ¬ n.kind = 5) (h1 : ¬ n.kind = 1) (h2 : ¬ n.kind = 2) (h15 : ¬ n.kind = 15) (h16 : ¬ n.kind = 16) (h10 : ¬ n.kind = 10) :
    Calls Try.prog 51 #[.slice A ns.length c, .int .i64 (k : Int), .bool false] w fun e w' => e = .returned (.int .i64 (szP n false)) ∧ Below w.heap.size w w' := by
  obtain ⟨b, off, rfl, hb, hnode⟩ := seg_node hseg hk
  have hkl : k < ns.length := (List.getElem?_eq_some_iff.1 hk).1
  clear hseg hk
  have hv : szP n false = 0 := by
    unfold szP
    split
    · rfl
    · rename_i h7
      simp [alongP, h7, h8, h3, h4, h5, h1, h2, h15, h16]
  have HV := Lib.hid hv
  clear hv
  have e8 : (n.kind == 8) = false := by simp [h8]
  have e3 : (n.kind == 3) = false := by simp [h3]
  have e4 : (n.kind == 4) = false := by simp [h4]
  have e5 : (n.kind == 5) = false := by simp [h5]
  have e1 : (n.kind == 1) = false := by simp [h1]
  have e2 : (n.kind == 2) = false := by simp [h2]
  have e15 : (n.kind == 15) = false := by simp [h15]
  have e16 : (n.kind == 16) = false := by simp [h16]
  have e10 : (n.kind == 10) = false := by simp [h10]
  clear h8 h3 h4 h5 h1 h2 h15 h16 h10
  generalize ns.length = len at *
  go_enter Try.func51, Try.ntmps51
  go_wp2_with (first | (refine wpList_load_node rfl _ rfl _ _ rfl _ (by repeat (first | apply NodeAt.row | (apply Blk.new'; first | rfl | (simp; done)) | (apply Blk.node; apply Blk.new'; first | rfl | (simp; done)) | assumption | apply NodeAt.alloc)) ?_) | (refine wpList_alloc_node rfl rfl ?_) | (refine wpList_store_node rfl _ _ rfl _ _ _ rfl rfl _ (by repeat (first | (apply Blk.new'; first | rfl | (simp; done)) | assumption | apply Blk.alloc)) ?_))
  (go_ret; exact ⟨ret_int (by rw [HV.out]), (by repeat (first | exact Below.refl _ _ | (refine below_setRow ?_ _ _ ?_; rotate_left; focus (simp; done)) | refine andAlloc ?_ _))⟩)

theorem size_any (A : Option Addr) (ns : List Nd) (c k : Nat) (n : Nd) (down : Bool) (w : World) (hl : ns.length ≤ 9223372036854775806) (hseg : Seg w w.heap.size A (ns.flatMap ncs)) (hk : ns[k]? = some n) (hr : right n = true) (hd : down = true ∨ ¬ n.kind = 10) :
    Calls Try.prog 51 #[.slice A ns.length c, .int .i64 (k : Int), .bool down] w fun e w' => e = .returned (.int .i64 (szP n down)) ∧ Below w.heap.size w w' := by
  cases down
  · have hd : ¬ n.kind = 10 := by
      rcases hd with h | h
      · cases h
      · exact h
    by_cases h8 : n.kind = 8
    · exact size_kern_false A ns c k n w hl hseg hk h8
    by_cases h3 : n.kind = 3
    · exact size_b3_false A ns c k n w hl hseg hk h3 hr
    by_cases h4 : n.kind = 4
    · exact size_b4_false A ns c k n w hl hseg hk h4 hr
    by_cases h5 : n.kind = 5
    · exact size_b5_false A ns c k n w hl hseg hk h5 hr
    by_cases h1 : n.kind = 1
    · exact size_b1_false A ns c k n w hl hseg hk h1
    by_cases h2 : n.kind = 2
    · exact size_b2_false A ns c k n w hl hseg hk h2
    by_cases h15 : n.kind = 15
    · exact size_b15_false A ns c k n w hl hseg hk h15
    by_cases h16 : n.kind = 16
    · exact size_b16_false A ns c k n w hl hseg hk h16
    exact size_other_false A ns c k n w hl hseg hk h8 h3 h4 h5 h1 h2 h15 h16 hd
  · by_cases h10 : n.kind = 10
    · exact size_disc_true A ns c k n w hl hseg hk h10
    by_cases h8 : n.kind = 8
    · exact size_kern_true A ns c k n w hl hseg hk h8
    by_cases h3 : n.kind = 3
    · exact size_b3_true A ns c k n w hl hseg hk h3 hr
    by_cases h4 : n.kind = 4
    · exact size_b4_true A ns c k n w hl hseg hk h4 hr
    by_cases h5 : n.kind = 5
    · exact size_b5_true A ns c k n w hl hseg hk h5 hr
    by_cases h1 : n.kind = 1
    · exact size_b1_true A ns c k n w hl hseg hk h1
    by_cases h2 : n.kind = 2
    · exact size_b2_true A ns c k n w hl hseg hk h2
    by_cases h15 : n.kind = 15
    · exact size_b15_true A ns c k n w hl hseg hk h15
    by_cases h16 : n.kind = 16
    · exact size_b16_true A ns c k n w hl hseg hk h16
    exact size_other_true A ns c k n w hl hseg hk h8 h3 h4 h5 h1 h2 h15 h16 h10
set_option maxHeartbeats 2000000 in
set_option maxRecDepth 100000 in
/-- A Disc: what its third list comes to, if that is a dimension. -/
theorem size_disc (A : Option Addr) (ns : List Nd) (c k m : Nat) (ss : List Nat) (n : Nd) (v : Int) (w : World) (hc : chk ns = 0) (hcap : ns.length ≤ c) (hseg : Seg w w.heap.size A (ns.flatMap ncs)) (hk : ns[k]? = some n) (hb : begB ns k = true) (hm : endc (ns.drop k) 0 = some m) (hm2 : 2 ≤ m) (hd : D3 ss (ns.drop (k + 1)) 0 (m - 2)) (hn : n.kind = 10)
    (a b c' d p q r s e1 : Int) (htot : ∀ w1 A1 c1, (thr ss (ns.drop (k + 1)) 0 2).length ≤ c1 → Seg w1 w1.heap.size A1 ((thr ss (ns.drop (k + 1)) 0 2).flatMap ncs) → Calls Try.prog 31 #[.slice A1 (thr ss (ns.drop (k + 1)) 0 2).length c1, .bool false] w1 fun e w' => e = .returned (.tuple #[.agg #[.int .i64 v, .int .i64 a, .int .i64 b, .int .i64 c', .int .i64 d, .int .i64 p, .int .i64 q, .int .i64 r, .int .i64 s], .int .i64 e1]) ∧ Below w1.heap.size w1 w') :
    Calls Try.prog 51 #[.slice A ns.length c, .int .i64 (k : Int), .bool false] w fun e w' => e = .returned (.int .i64 v) ∧ Below w.heap.size w w' := by
  have hl := (chk_run hc).1
  have HT := Lib.hid fun w1 (h : Below w.heap.size w w1) => parts_ok A ns c k m n ss w1 hcap (Seg.belowW hseg h) hc hb hk hn hm hd hm2
  have HS := Lib.hid htot
  obtain ⟨b, off, rfl, hb, hnode⟩ := seg_node hseg hk
  have hkl : k < ns.length := (List.getElem?_eq_some_iff.1 hk).1
  clear hseg hk htot hm hd hc
  generalize thr ss (ns.drop (k + 1)) 0 = F at *
  generalize ns.length = len at *
  go_enter Try.func51, Try.ntmps51
  go_wp2_with (first | (refine wpList_load_node rfl _ rfl _ _ rfl _ (by repeat (first | apply NodeAt.row | (apply Blk.new'; first | rfl | (simp; done)) | (apply Blk.node; apply Blk.new'; first | rfl | (simp; done)) | assumption | apply NodeAt.alloc)) ?_) | (refine wpList_alloc_node rfl rfl ?_) | (refine wpList_store_node rfl _ _ rfl _ _ _ rfl rfl _ (by repeat (first | (apply Blk.new'; first | rfl | (simp; done)) | assumption | apply Blk.alloc)) ?_))
  refine (HT.out _ (andAlloc (Below.refl _ _) _)).mono ?_
  rintro e w1 ⟨vs, rfl, ho, hb1⟩
  obtain ⟨A2, c2, h2, hc2, _, hs2⟩ := Seg.of_own (ho.own 2 (by omega))
  have hl1 : Below w.heap.size w w1 := andThen (andAlloc (Below.refl _ _) _) hb1
  rw [h2]
  go_wp2_with fail
  refine (HS.out _ _ _ hc2 hs2).mono ?_
  rintro e w2 ⟨rfl, hb2⟩
  go_wp2_with fail
  go_ret
  exact ⟨rfl, andAlloc (andThen hl1 hb2) _⟩
theorem tot_case (l : List Nd) (hl : l.length ≤ 879609302220) : ∃ x a b c d p q r s e1, (-1073741823 ≤ x ∧ x ≤ 1073741823) ∧ ∀ (A : Option Addr) (k : Nat) (w : World), l.length ≤ k → Seg w w.heap.size A (l.flatMap ncs) → Calls Try.prog 31 #[.slice A l.length k, .bool false] w fun e w' => e = .returned (.tuple #[.agg #[.int .i64 x, .int .i64 a, .int .i64 b, .int .i64 c, .int .i64 d, .int .i64 p, .int .i64 q, .int .i64 r, .int .i64 s], .int .i64 e1]) ∧ Below w.heap.size w w' := by
  by_cases hc : chk l = 0
  · obtain ⟨xs, hx⟩ := its_of_chk hc
    have hT := totR_len l false xs
    have hn : -1073741823 ≤ (totR l false xs).nat ∧ (totR l false xs).nat ≤ 1073741823 := by
      unfold totR
      split
      · rename_i h
        simpa [dimB] using h
      · simp [tz]
    obtain ⟨⟨x, st, sh⟩, hTe⟩ : ∃ T, totR l false xs = T := ⟨_, rfl⟩
    rw [hTe] at hT hn
    match st, sh, hT.1, hT.2 with
    | [a, b, c, d], [p, q, r, s], _, _ =>
    have ht := fun A k w h hs => totals_any A l k xs false w hc h hs hx
    simp only [hTe] at ht
    exact ⟨x, a, b, c, d, p, q, r, s, _, hn, ht⟩
  · exact ⟨0, 0, 0, 0, 0, 0, 0, 0, 0, chk l, by omega, fun A k w h hs => totals_bad A l k false w (by omega) hs hc⟩
/-- Each item of a list has a size. -/
theorem size_case (ns : List Nd) (down : Bool) (hc : chk ns = 0) : ∃ f : Nat → Int, (∀ k, -281474976710656 ≤ f k ∧ f k ≤ 281474976710656) ∧ (∀ (k : Nat) (n : Nd), ns[k]? = some n → (down = true ∨ ¬ n.kind = 10) → f k = szP n down) ∧
    ∀ (k : Nat) (n : Nd), ns[k]? = some n → ¬ n.kind = 6 → ¬ n.kind = 11 → ∀ (A : Option Addr) (c : Nat) (w : World), ns.length ≤ c → Seg w w.heap.size A (ns.flatMap ncs) → Calls Try.prog 51 #[.slice A ns.length c, .int .i64 (k : Int), .bool down] w fun e w' => e = .returned (.int .i64 (f k)) ∧ Below w.heap.size w w' := by
  have hl := (chk_run hc).1
  have hr := chk_right hc
  have hex : ∀ k : Nat, ∃ v : Int, (-281474976710656 ≤ v ∧ v ≤ 281474976710656) ∧ (∀ (n : Nd), ns[k]? = some n → (down = true ∨ ¬ n.kind = 10) → v = szP n down) ∧
      ∀ (n : Nd), ns[k]? = some n → ¬ n.kind = 6 → ¬ n.kind = 11 → ∀ (A : Option Addr) (c : Nat) (w : World), ns.length ≤ c → Seg w w.heap.size A (ns.flatMap ncs) → Calls Try.prog 51 #[.slice A ns.length c, .int .i64 (k : Int), .bool down] w fun e w' => e = .returned (.int .i64 v) ∧ Below w.heap.size w w' := by
    intro k
    cases hk : ns[k]? with
    | none => exact ⟨0, by omega, fun n h => by (cases h), fun n h => by (cases h)⟩
    | some n =>
      have hrn := hr n (List.mem_of_getElem? hk)
      by_cases hd : down = true ∨ ¬ n.kind = 10
      · refine ⟨szP n down, ?_, fun n' h _ => by (injection h with h; rw [h]), fun n' h _ _ A c w hcap hs => by (injection h with h; subst h; exact size_any A ns c k n down w (by omega) hs hk hrn hd)⟩
        unfold szP
        split
        · omega
        · have := along_bd hrn down
          omega
      · have hdn : down = false := by
          cases down
          · rfl
          · exact absurd (.inl rfl) hd
        have h10 : n.kind = 10 := by
          by_cases h : n.kind = 10
          · exact h
          · exact absurd (.inr h) hd
        subst hdn
        obtain ⟨m, hm⟩ := item_ends hc hk (by omega) (by omega)
        obtain ⟨hm2, ss, hss⟩ := disc_steps hc hk h10 hm
        have hlen : (thr ss (ns.drop (k + 1)) 0 2).length ≤ 2000 := by
          have h1 := thr_len (j := 2) hss
          have h2 := hss.le
          rw [List.length_drop] at h2
          omega
        obtain ⟨x, a, b, c', d, p, q, r, s, e1, hx, ht⟩ := tot_case (thr ss (ns.drop (k + 1)) 0 2) (by omega)
        refine ⟨x, by omega, fun n' h h' => by (injection h with h; subst h; exact absurd h' hd), fun n' h _ _ A c w hcap hs => by (injection h with h; subst h; exact size_disc A ns c k m ss n x w hc hcap hs hk (beg_of hk (by omega) (by omega)) hm hm2 hss h10 a b c' d p q r s e1 fun w1 A1 c1 h1 h2 => ht A1 c1 w1 h1 h2)⟩
  exact ⟨fun k => (hex k).choose, fun k => (hex k).choose_spec.1, fun k n h h' => (hex k).choose_spec.2.1 n h h', fun k n h h6 h11 => (hex k).choose_spec.2.2 n h h6 h11⟩
end Go.Proofs.Ytoboecenlangmaa.Pk
end
section
namespace Go.Proofs.Ytoboecenlangmaa.Gl
open Go.ChangeShapes Go.WideShapes Go.ChangeAt Go.RowKit
open Me

theorem sizes_any (A : Option Addr) (l : List G) (c : Nat) (sign order N D : Int) (w : World) (h63 : l.length ≤ maxLen) (hrow : Row w A l) :
    Calls Try.prog 49 #[.slice A l.length c, .int .i64 sign, .int .i64 order, .int .i64 N, .int .i64 D] w (SzOut l sign order N D w) := by
  by_cases hr : rowE l = 0
  · cases ha : argOk sign order
    · refine (sizes_bad A l c sign order N D w h63 hrow (.inr (.inl ha))).mono fun e w' h => ?_
      unfold SzOut
      rw [if_neg (by rw [szE_arg hr ha]; omega)]
      exact h
    · cases hg : rngOk sign N D
      · refine (sizes_bad A l c sign order N D w h63 hrow (.inr (.inr hg))).mono fun e w' h => ?_
        unfold SzOut
        rw [if_neg (by rw [szE_rng hr ha hg]; omega)]
        exact h
      · obtain ⟨a0, a1, -, -⟩ := argOk_iff.1 ha
        rcases (show sign = 0 ∨ sign = 1 ∨ sign = 2 by omega) with rfl | rfl | rfl
        · exact sizes_still A l c order N D w hrow hr ha hg
        · exact sizes_stretch A l c order N D w hrow hr ha hg
        · exact sizes_shrink A l c order N D w hrow hr ha hg
  · refine (sizes_bad A l c sign order N D w h63 hrow (.inl hr)).mono fun e w' h => ?_
    unfold SzOut
    rw [if_neg (by rw [szE_row hr]; exact hr)]
    exact h
end Go.Proofs.Ytoboecenlangmaa.Gl
end
section
namespace Go.Proofs.Ytoboecenlangmaa.Pk
open Go.ChangeShapes Go.WideShapes Go.ChangeAt Go.RowKit
open Me Np No
set_option linter.unusedVariables false
set_option linter.unusedSimpArgs false

theorem info_int : (Try.prog.info? 3).map (fun i => (i.zero, i.size, i.bytes)) = some (some (.int .i64 0), 1, 8) := by kernel_rfl
theorem info_glue : (Try.prog.info? 40).map (fun i => (i.zero, i.size, i.bytes)) = some (some (.agg #[.int .i64 0, .int .i64 0, .int .i64 0, .int .i64 0, .int .i64 0]), 5, 40) := by kernel_rfl
/-- What Places answers. -/
def PlOut (P : List Int) (E : Int) (w : World) (e : Ending) (w' : World) : Prop := ∃ v, e = .returned (.tuple #[v, .int .i64 E]) ∧ w'.ownsRow w.heap.size 3 1 v P.length (P.map (Value.int .i64)) ∧ Below w.heap.size w w'
theorem PlOut.no {w w' : World} (hb : Below w.heap.size w w') (E : Int) : PlOut [] E w (.returned (.tuple #[.slice none 0 0, .int .i64 E])) w' := ⟨_, rfl, World.ownsRow_nil _ _ _ _, hb⟩
/-- What the second loop of Places holds in memory: how far it has come, the places so far. -/
structure MP (W : World) (gx : Nat) (x : Int) (v : Value) (o : List Int) (wr : World) : Prop where
  blk : Blk wr gx 3 #[.int .i64 x]
  own : wr.ownsRow (gx + 1) 3 1 v o.length (o.map (Value.int .i64))
  low : Below W.heap.size W wr
  gl : W.heap.size ≤ gx
theorem MP.below {W : World} {gx : Nat} {x : Int} {v : Value} {o : List Int} {wr w' : World} (h : MP W gx x v o wr) (hb : Below wr.heap.size wr w') : MP W gx x v o w' := ⟨h.blk.below hb h.blk.lt, own_below h.own hb, andThen h.low hb, h.gl⟩
theorem MP.push {W : World} {gx : Nat} {x z : Int} {v v' : Value} {o : List Int} {wr w' : World} (h : MP W gx x v o wr) (ho : w'.ownsRow (gx + 1) 3 1 v' (o.length + 1) (o.map (Value.int .i64) ++ [.int .i64 z])) (hg : wr.grownBy w' v.ownBlock) : MP W gx x v' (o ++ [z]) w' :=
  ⟨h.blk.grown hg (by intro e; have := (h.own.lt gx e.symm).1; omega), by simpa using ho, below_grown (Nat.le_refl _) h.low hg (fun q hq => by have := (h.own.lt q hq).1; have := h.gl; omega), h.gl⟩
theorem MP.turn {W : World} {gx : Nat} {x y : Int} {v : Value} {o : List Int} {wr w' : World} (h : MP W gx x v o wr) (hb : Blk w' gx 3 #[.int .i64 y]) (hg : wr.grownBy w' (some gx)) : MP W gx y v o w' := by
  refine ⟨hb, h.own.kept hg ?_, below_grown (Nat.le_refl _) h.low hg (fun q hq => by injection hq with hq; have := h.gl; omega), h.gl⟩
  cases hv : v.ownBlock with
  | none => exact .inl rfl
  | some q =>
    refine .inr ?_
    intro e
    injection e with e
    have := (h.own.lt q hv).1
    omega
theorem grow_any (gx : Nat) (x z : Int) (w : World) (hb : Blk w gx 3 #[.int .i64 x]) (h0 : -2305843009213693952 ≤ x) (h1 : x ≤ 2305843009213693952) (h2 : -2305843009213693952 ≤ z) (h3 : z ≤ 2305843009213693952) :
    Calls Try.prog 50 #[.int .i64 z, .pointer (some ⟨gx, 0, none⟩)] w fun e w' => e = .returned (.tuple #[]) ∧ Blk w' gx 3 #[.int .i64 (x + z)] ∧ w.grownBy w' (some gx) := by
  have hc : w.cell? ⟨gx, 0, none⟩ = some (.int .i64 x) := Blk.cell hb 0
  have hf := Blk.free hb 0
  have HB := Lib.hid hb
  clear hb
  go_enter Try.func50, Try.ntmps50
  go_wp2_with fail
  go_returns
  exact ⟨rfl, Blk.set HB.out 0 (.int .i64 (x + z)), grown_set _ _ _ _⟩
/-- What Places comes to. -/
noncomputable def plcR (x : Nd) (l : List Nd) (f : Nat → Int) (xs : List Nat) : List Int × Int :=
  if Gl.szE (skF l xs []) x.sign x.order x.num x.den = 0 then ((plF l f xs ⟨0, Gl.szL (skF l xs []) x.sign x.order x.num x.den, []⟩).out, 0) else ([], Gl.szE (skF l xs []) x.sign x.order x.num x.den)
theorem places_no (A : Option Addr) (ns L : List Nd) (c : Nat) (a E : Int) (w : World) (hE : ¬ E = 0) (hI : Calls Try.prog 24 #[.slice A ns.length c, .int .i64 a] w fun e' w' => ∃ v, e' = .returned (.tuple #[v, .int .i64 E]) ∧ w'.ownsRow w.heap.size 54 19 v L.length (L.flatMap ncs) ∧ Below w.heap.size w w') :
    Calls Try.prog 23 #[.slice A ns.length c, .int .i64 a] w (PlOut [] E w) := by
  have e0 : (E != 0) = true := by simp [hE]
  have HI := Lib.hid hI
  clear hI
  generalize ns.length = len at *
  go_enter Try.func23, Try.ntmps23
  go_wp2_with fail
  refine HI.out.mono ?_
  rintro e w1 ⟨v, rfl, ho, hb1⟩
  clear ho
  go_wp2_with fail
  go_ret2
  exact PlOut.no hb1 _
set_option maxRecDepth 100000 in
theorem places_kind (A : Option Addr) (ns L : List Nd) (c k : Nat) (x : Nd) (w : World) (hcap : ns.length ≤ c) (hl : ns.length ≤ 2000) (hseg : Seg w w.heap.size A (ns.flatMap ncs)) (hx : ns[k]? = some x) (h4 : ¬ x.kind = 4) (h5 : ¬ x.kind = 5) (hI : Calls Try.prog 24 #[.slice A ns.length c, .int .i64 (k : Int)] w fun e' w' => ∃ v, e' = .returned (.tuple #[v, .int .i64 0]) ∧ w'.ownsRow w.heap.size 54 19 v L.length (L.flatMap ncs) ∧ Below w.heap.size w w') :
    Calls Try.prog 23 #[.slice A ns.length c, .int .i64 (k : Int)] w (PlOut [] 3 w) := by
  have e4 : (x.kind != 4) = true := by simp [h4]
  have e5 : (x.kind != 5) = true := by simp [h5]
  have HI := Lib.hid hI
  obtain ⟨b, off, rfl, hb, hnode⟩ := seg_node hseg hx
  have hkl : k < ns.length := (List.getElem?_eq_some_iff.1 hx).1
  clear hI hseg hx h4 h5
  generalize ns.length = len at *
  go_enter Try.func23, Try.ntmps23
  go_wp2_with fail
  refine HI.out.mono ?_
  rintro e w1 ⟨v, rfl, ho, hb1⟩
  have hnode := hnode.below hb1 hb
  clear ho
  go_wp2_with (first | (refine wpList_load_node rfl _ rfl _ _ rfl _ (by repeat (first | apply NodeAt.row | (apply Blk.new'; first | rfl | (simp; done)) | (apply Blk.node; apply Blk.new'; first | rfl | (simp; done)) | assumption | apply NodeAt.alloc)) ?_) | (refine wpList_alloc_node rfl rfl ?_) | (refine wpList_store_node rfl _ _ rfl _ _ _ rfl rfl _ (by repeat (first | (apply Blk.new'; first | rfl | (simp; done)) | assumption | apply Blk.alloc)) ?_))
  go_ret2
  exact PlOut.no (andAlloc hb1 _) _
end Go.Proofs.Ytoboecenlangmaa.Pk
end
section
namespace Go.Proofs.Ytoboecenlangmaa.Si
open Go.ChangeShapes Go.WideShapes Go.ChangeAt Go.RowKit
open Me
set_option linter.unusedVariables false
set_option linter.unusedSimpArgs false

theorem ret_b {a b : Bool} (h : a = b) : Ending.returned (.bool a) = .returned (.bool b) := by rw [h]
theorem get_some {α : Type} {l : List α} {k : Nat} (h : k < l.length) : ∃ x, l[k]? = some x := ⟨l[k], List.getElem?_eq_getElem h⟩
theorem seg_get {w : World} {B : Nat} {A : Option Addr} {xs : List Value} (h : Seg w B A xs) {k : Nat} {u : Value} (hk : xs[k]? = some u) : ∃ b off : Nat, A = some ⟨b, off, none⟩ ∧ b < B ∧ w.cell? ⟨b, off + k, none⟩ = some u := by
  obtain ⟨b, off, hA, hb, hc⟩ := h.open_ (by intro e; rw [e] at hk; simp at hk)
  exact ⟨b, off, hA, hb, hc k u hk⟩
set_option maxRecDepth 100000 in
theorem same_ints (A1 A2 : Option Addr) (l1 l2 : List Int) (c1 c2 : Nat) (w : World) (h1 : l1.length ≤ 2097152) (h2 : l2.length ≤ 2097152) (hs1 : Seg w w.heap.size A1 (l1.map (Value.int .i64))) (hs2 : Seg w w.heap.size A2 (l2.map (Value.int .i64))) :
    Calls Try.prog 16 #[.slice A1 l1.length c1, .slice A2 l2.length c2] w fun e w' => e = .returned (.bool (decide (l1 = l2))) ∧ Below w.heap.size w w' := by
  by_cases hl : (l1.length : Int) = l2.length
  · have hl' : l1.length = l2.length := by omega
    have HS := Lib.hid (And.intro hs1 hs2)
    have HL := Lib.hid hl'
    rw [← hl']
    clear hs1 hs2 hl hl'
    go_enter Try.func16, Try.ntmps16
    go_wp2_with fail
    go_loopw [5] (fun v5 wr => ∃ k nq : Nat, k ≤ l1.length ∧ v5 = .int .i64 (k : Int) ∧ l1.take k = l2.take k ∧ wr = w.drewN nq) (fun v5 _ => l1.length - (intOf v5).toNat)
    case atStart => exact ⟨0, 0, by omega, rfl, by simp, rfl⟩
    case round =>
      obtain ⟨k, nq, hk, rfl, heq, hwr⟩ := hrel
      have HWR := Lib.hid hwr
      have HEQ := Lib.hid heq
      by_cases hlt : k < l1.length
      · obtain ⟨x, hx⟩ := get_some hlt
        obtain ⟨y, hy⟩ := get_some (l := l2) (k := k) (by rw [← HL.out]; exact hlt)
        obtain ⟨b1, o1, rfl, hb1, hc1⟩ := seg_get HS.out.1 (k := k) (u := Value.int .i64 x) (by rw [List.getElem?_map, hx]; rfl)
        obtain ⟨b2, o2, rfl, hb2, hc2⟩ := seg_get HS.out.2 (k := k) (u := Value.int .i64 y) (by rw [List.getElem?_map, hy]; rfl)
        have hc1' : wr.cell? ⟨b1, o1 + k, none⟩ = some (.int .i64 x) := by rw [hwr]; exact hc1
        have hc2' : wr.cell? ⟨b2, o2 + k, none⟩ = some (.int .i64 y) := by rw [hwr]; exact hc2
        have HXY := Lib.hid (And.intro hx hy)
        have hlti : (k : Int) < (l1.length : Int) := by omega
        clear hc1 hc2 hwr heq hx hy
        by_cases hxy : x = y
        · subst hxy
          go_wp2_with fail
          go_quiet (fail)
          go_wp2_with fail
          go_roundw
          case rel =>
            refine ⟨k + 1, _, by omega, by go_num, ?_, by rw [HWR.out, World.drewN_drewN]⟩
            rw [List.take_add_one, List.take_add_one, HEQ.out, HXY.out.1, HXY.out.2]
          case measure => simp [intOf]; omega
        · have HN := Lib.hid hxy
          go_wp2_with fail
          go_quiet (fail)
          go_wp2_with fail
          go_ret
          refine ⟨?_, by rw [HWR.out, World.drewN_drewN]; exact below_drewN (Below.refl _ _) _⟩
          refine ret_b (decide_eq_false fun e => HN.out ?_).symm
          have := HXY.out.1
          rw [e, HXY.out.2] at this
          injection this with this
          exact this.symm
      · obtain rfl : k = l1.length := by omega
        go_wp2_with fail
        go_ret
        refine ⟨?_, below_drewN (Below.refl _ _) _⟩
        refine ret_b (decide_eq_true ?_).symm
        have := HEQ.out
        rw [List.take_length, HL.out, List.take_length] at this
        exact this
  · have HL := Lib.hid hl
    clear hs1 hs2
    go_enter Try.func16, Try.ntmps16
    go_wp2_with fail
    go_ret
    refine ⟨ret_b (decide_eq_false fun e => HL.out (by rw [e])).symm, Below.refl _ _⟩
end Go.Proofs.Ytoboecenlangmaa.Si
end
section
namespace Go.Proofs.Ytoboecenlangmaa.Pk
open Go.ChangeShapes Go.WideShapes Go.ChangeAt Go.RowKit
open Me Np No
set_option linter.unusedVariables false
set_option linter.unusedSimpArgs false

/-- What the first loop of Places holds: the glue so far. -/
structure InvK (l : List Nd) (W : World) (R : List Gl.G) (a : Nat) (v : Value) (wr : World) : Prop where
  rest : ∃ ys s, Stand l a ys ∧ skF l ys s = R ∧ s.length ≤ a ∧ wr.ownsRow W.heap.size 40 5 v s.length (s.flatMap Gl.G.vals)
  low : Below W.heap.size W wr
/-- What the second one holds. -/
structure InvL (l : List Nd) (f : Nat → Int) (W : World) (gx : Nat) (R : Plc) (a : Nat) (v u : Value) (wr : World) : Prop where
  rest : ∃ ys s A c, v = .slice A s.sz.length c ∧ s.sz.length ≤ c ∧ Seg W W.heap.size A (s.sz.map (Value.int .i64)) ∧ Stand l a ys ∧ plF l f ys s = R ∧ PlIn l f s ys s.out.length ∧ s.out.length ≤ a ∧ MP W gx s.x u s.out wr
theorem cells5 {W wr : World} {b o : Nat} {y : Nd} (h : NodeAt W b o y) (hl : Below W.heap.size W wr) (hb : b < W.heap.size) : wr.cell? ⟨b, o, none⟩ = some (.int .i64 y.kind) ∧ wr.cell? ⟨b, o + 7, none⟩ = some (.int .i64 y.gn) ∧ wr.cell? ⟨b, o + 8, none⟩ = some (.int .i64 y.gs) ∧ wr.cell? ⟨b, o + 9, none⟩ = some (.int .i64 y.gh) ∧ wr.cell? ⟨b, o + 10, none⟩ = some (.int .i64 y.ga) ∧ wr.cell? ⟨b, o + 11, none⟩ = some (.int .i64 y.gb) :=
  ⟨(h.below hl hb) 0 _ rfl, (h.below hl hb) 7 _ rfl, (h.below hl hb) 8 _ rfl, (h.below hl hb) 9 _ rfl, (h.below hl hb) 10 _ rfl, (h.below hl hb) 11 _ rfl⟩
set_option maxHeartbeats 4000000 in
set_option maxRecDepth 100000 in
theorem places_ok (A : Option Addr) (ns l : List Nd) (c k : Nat) (x : Nd) (xs : List Nat) (f : Nat → Int) (w : World) (hcap : ns.length ≤ c) (hl0 : ns.length ≤ 2000) (hseg : Seg w w.heap.size A (ns.flatMap ncs)) (hx : ns[k]? = some x) (h45 : x.kind = 4 ∨ x.kind = 5)
    (hI : Calls Try.prog 24 #[.slice A ns.length c, .int .i64 (k : Int)] w fun e' w' => ∃ v, e' = .returned (.tuple #[v, .int .i64 0]) ∧ w'.ownsRow w.heap.size 54 19 v l.length (l.flatMap ncs) ∧ Below w.heap.size w w')
    (hc : chk l = 0) (hxs : Its xs l 0) (hf : ∀ k, -281474976710656 ≤ f k ∧ f k ≤ 281474976710656)
    (hsz : ∀ (k : Nat) (n : Nd), l[k]? = some n → ¬ n.kind = 6 → ¬ n.kind = 11 → ∀ (A : Option Addr) (c : Nat) (w : World), l.length ≤ c → Seg w w.heap.size A (l.flatMap ncs) → Calls Try.prog 51 #[.slice A l.length c, .int .i64 (k : Int), .bool (x.kind == 5)] w fun e w' => e = .returned (.int .i64 (f k)) ∧ Below w.heap.size w w') :
    Calls Try.prog 23 #[.slice A ns.length c, .int .i64 (k : Int)] w (PlOut (plcR x l f xs).1 (plcR x l f xs).2 w) := by
  have hl := (chk_run hc).1
  have HI := Lib.hid hI
  have HF := Lib.hid hf
  have HIT := Lib.hid (fun (A : Option Addr) (c a m : Nat) (w1 : World) (hs : Seg w1 w1.heap.size A (l.flatMap ncs)) hb hm => item_ok A l c a m w1 (by omega) hs hc hb hm)
  have HST := Lib.hid (stand0 hc hxs)
  have HSL : (skF l xs []).length ≤ 2000 := by
    have h1 := skF_len l xs []
    have h2 := hxs.len
    simp only [List.length_nil] at h1
    omega
  have HSS := Lib.hid (fun (A : Option Addr) (c : Nat) (w1 : World) (hr : Gl.Row w1 A (skF l xs [])) => Gl.sizes_any A (skF l xs []) c x.sign x.order x.num x.den w1 (by unfold maxLen; omega) hr)
  obtain ⟨G, hG⟩ : ∃ G, skF l xs [] = G := ⟨_, rfl⟩
  rw [hG] at HSS HSL
  have HG := Lib.hid hG
  obtain ⟨PR, hPR⟩ : ∃ PR, plcR x l f xs = PR := ⟨_, rfl⟩
  rw [hPR]
  have HPR := Lib.hid hPR
  obtain ⟨dn, hdn⟩ : ∃ dn, (x.kind == 5) = dn := ⟨_, rfl⟩
  rw [hdn] at hsz
  have HSZ := Lib.hid hsz
  have e4 : (x.kind != 4) = dn := by
    rw [← hdn]
    rcases h45 with h | h <;> simp [h]
  have e5 : (x.kind != 5) = !dn := by
    rw [← hdn]
    rcases h45 with h | h <;> simp [h]
  obtain ⟨b0, off0, rfl, hb0, hnode⟩ := seg_node hseg hx
  have hkl : k < ns.length := (List.getElem?_eq_some_iff.1 hx).1
  clear hseg hx hc hxs hsz hI hf hG hPR h45
  generalize hlen : l.length = len at *
  have HL := Lib.hid hlen
  clear hlen
  generalize ns.length = lns at *
  cases dn
  all_goals
    simp only [Bool.not_false, Bool.not_true] at e5
    go_enter Try.func23, Try.ntmps23
    go_wp2_with fail
    refine HI.out.mono ?_
    rintro e w1 ⟨v, rfl, ho, hb1⟩
    have hnode1 := hnode.below hb1 hb0
    have ho2 := ho
    rw [← HL.out] at ho2
    obtain ⟨Ai, ci, hvi, hci, _, hsi⟩ := Seg.of_own ho2
    rw [HL.out] at hvi hci
    subst hvi
    clear ho ho2
    go_wp2_with (first | (refine wpList_load_node rfl _ rfl _ _ rfl _ (by repeat (first | apply NodeAt.row | (apply Blk.new'; first | rfl | (simp; done)) | (apply Blk.node; apply Blk.new'; first | rfl | (simp; done)) | assumption | apply NodeAt.alloc)) ?_) | (refine wpList_alloc_node rfl rfl ?_) | (refine wpList_store_node rfl _ _ rfl _ _ _ rfl rfl _ (by repeat (first | (apply Blk.new'; first | rfl | (simp; done)) | assumption | apply Blk.alloc)) ?_))
    have hW0 : Below w.heap.size w (w1.alloc (.cells (nc x) 54)) := andAlloc hb1 _
    have hBL : Blk (w1.alloc (.cells (nc x) 54)) w1.heap.size 54 (nc x) := Blk.new' rfl
    have hSG : Seg (w1.alloc (.cells (nc x) 54)) (w1.alloc (.cells (nc x) 54)).heap.size Ai (l.flatMap ncs) := Seg.belowW hsi (andAlloc (Below.refl _ _) _)
    clear hb1 hnode1 hsi
    generalize w1.alloc (.cells (nc x) 54) = W at hW0 hBL hSG ⊢
    generalize w1.heap.size = g8 at hBL ⊢
    have HW0 := Lib.hid hW0
    have HBL := Lib.hid hBL
    have HSG := Lib.hid hSG
    clear hW0 hBL hSG
    go_loopw [9, 10] (fun v9 v10 wr => ∃ a : Nat, v10 = .int .i64 (a : Int) ∧ InvK l W G a v9 wr) (fun _ v10 _ => len - (intOf v10).toNat)
    case atStart => exact ⟨0, rfl, ⟨xs, [], HST.out, HG.out, by simp, World.ownsRow_nil _ _ _ _⟩, Below.refl _ _⟩
    case round =>
      obtain ⟨a, rfl, hK⟩ := hrel
      obtain ⟨ys, s, hst, hR, h1, hO⟩ := hK.rest
      have HLOW := Lib.hid hK.low
      have hal := hst.le
      rw [HL.out] at hal
      by_cases hlt : a < len
      · obtain ⟨m, zs, y, rfl, hm, hm1, ham, hst', _, hy, h6, h11⟩ := hst.step (by rw [HL.out]; exact hl) (by rw [HL.out]; exact hlt)
        rw [HL.out] at ham
        obtain ⟨b, off, rfl, hb, hnd⟩ := seg_node HSG.out hy
        obtain ⟨c0, c7, c8, c9, c10, c11⟩ := cells5 hnd HLOW.out hb
        have HS := Lib.hid (And.intro hst' (And.intro hR hO))
        have HX := Lib.hid (And.intro hy hm)
        have HB := Lib.hid (beg_of hy h6 h11)
        have HH := Lib.hid h1
        have hal1 : (a : Int) + m ≤ len := by omega
        clear hst' hR hO hy hm hnd hK hst h1 h6 h11
        by_cases k7 : y.kind = 7
        · have e7 : (y.kind == 7) = true := by simp [k7]
          have HK := Lib.hid (skstep_yes (s := s) HX.out.1 k7)
          clear k7
          go_wp2_with (first
            | (refine wpList_ex (o := ⟨some 53, _, _, _, _, _⟩) (v := .slice (some ⟨wr.heap.size, 0, none⟩) 1 1) (w' := wr.alloc (.cells #[.int .i64 y.gn, .int .i64 y.gs, .int .i64 y.gh, .int .i64 y.ga, .int .i64 y.gb] 40)) rfl (by kernel_rfl) ?_)
            | (at_builtin; refine wpList_push rfl (.tmp 47) (.tmp 53) 22 rfl W.heap.size 40 _ 5 40 Try.underlying22 info_glue rfl (by decide) (by decide) _ _ _ rfl HS.out.2.2 HLOW.out.size #[.int .i64 y.gn, .int .i64 y.gs, .int .i64 y.gh, .int .i64 y.ga, .int .i64 y.gb] rfl rfl rfl rfl (by have := HH.out; omega) ?_; intro v3 W3 hown3 hg3 hnn3; have HO3 := Lib.hid hown3; have HL3 := Lib.hid (below_grown (Nat.le_refl _) (andAlloc HLOW.out _) hg3 (fun q hq => (HS.out.2.2.lt q hq).1)); clear hown3 hg3 hnn3)
            | (go_at_call 48; refine (HIT.out _ ci a m _ (Seg.belowW HSG.out HL3.out) HB.out HX.out.2).mono ?_; rintro e w5 ⟨rfl, hb5⟩; have HB5 := Lib.hid hb5; clear hb5))
          go_roundw
          case rel =>
            refine ⟨a + m, by go_num, ⟨zs, _, HS.out.1, HS.out.2.1, ?_, ?_⟩, andThen HL3.out HB5.out⟩
            · rw [HK.out]; have := HH.out; simp only [List.length_append, List.length_cons, List.length_nil]; omega
            · rw [HK.out]
              have h := own_below HO3.out HB5.out
              simpa [List.flatMap_append, gOf, Gl.G.vals] using h
          case measure => simp [intOf]; omega
        · have e7 : (y.kind == 7) = false := by simp [k7]
          have HK := Lib.hid (skstep_no (s := s) HX.out.1 k7)
          clear k7
          go_wp2_with (go_at_call 48; refine (HIT.out _ ci a m _ (Seg.belowW HSG.out HLOW.out) HB.out HX.out.2).mono ?_; rintro e w5 ⟨rfl, hb5⟩; have HB5 := Lib.hid hb5; clear hb5)
          go_roundw
          case rel =>
            refine ⟨a + m, by go_num, ⟨zs, _, HS.out.1, HS.out.2.1, ?_, ?_⟩, andThen HLOW.out HB5.out⟩
            · rw [HK.out]; have := HH.out; omega
            · rw [HK.out]; exact own_below HS.out.2.2 HB5.out
          case measure => simp [intOf]; omega
      · obtain rfl : a = len := by omega
        have he : ys = [] := (show Stand l l.length ys from HL.out ▸ hst).done
        subst he
        have hsG : s = G := hR
        subst hsG
        obtain ⟨AG, cG, hvG, hcG, _, hsG⟩ := Seg.of_own hO
        subst hvG
        have HRW := Lib.hid (show Gl.Row wr AG s from hsG)
        have hnx : NodeAt wr g8 0 x := (Blk.node HBL.out).below HLOW.out HBL.out.lt
        clear hst hR hO hsG h1 hK hal
        have hlw1 := HLOW.out
        have c12 : wr.cell? ⟨g8, 12, none⟩ = some (.int .i64 x.sign) := Blk.cell (HBL.out.below hlw1 HBL.out.lt) 12
        have c13 : wr.cell? ⟨g8, 13, none⟩ = some (.int .i64 x.order) := Blk.cell (HBL.out.below hlw1 HBL.out.lt) 13
        have c14 : wr.cell? ⟨g8, 14, none⟩ = some (.int .i64 x.num) := Blk.cell (HBL.out.below hlw1 HBL.out.lt) 14
        have c15 : wr.cell? ⟨g8, 15, none⟩ = some (.int .i64 x.den) := Blk.cell (HBL.out.below hlw1 HBL.out.lt) 15
        clear hlw1
        have HSZO := Lib.hid (HSS.out AG cG wr HRW.out)
        by_cases hE : Gl.szE s x.sign x.order x.num x.den = 0
        · have hpr : PR = ((plF l f xs ⟨0, Gl.szL s x.sign x.order x.num x.den, []⟩).out, 0) := by
            rw [← HPR.out]
            unfold plcR
            rw [HG.out, if_pos hE]
          have HPP := Lib.hid hpr
          have hszi := Gl.szL_in hE
          have HSI := Lib.hid hszi
          have HE := Lib.hid hE
          clear hpr hszi hE HPR
          go_wp2_with fail
          refine HSZO.out.mono ?_
          rintro e w5 ⟨hs5, hb5⟩
          rw [if_pos HE.out] at hs5
          obtain ⟨v5, rfl, own5⟩ := hs5
          have own5' := own5
          rw [← HSI.out.1] at own5'
          obtain ⟨As, cs, hvs, hcs, _, hss⟩ := Seg.of_own own5'
          subst hvs
          have HB5 := Lib.hid (andThen HLOW.out hb5)
          have HSS5 := Lib.hid hss
          clear own5 own5' hb5 hss c12 c13 c14 c15 HSZO
          generalize hZ : Gl.szL s x.sign x.order x.num x.den = Z at *
          generalize hPF : plF l f xs ⟨0, Z, []⟩ = PF at *
          have HPF := Lib.hid hPF
          clear hPF hZ hnx hnode hb0 hkl
          obtain ⟨gx, hgx⟩ : ∃ gx, w5.heap.size = gx := ⟨_, rfl⟩
          go_wp2_with fail
          go_loopw [11, 14, 15] (fun v11 v14 v15 wr2 => ∃ j : Nat, v15 = .int .i64 (j : Int) ∧ InvL l f w5 w5.heap.size PF j v11 v14 wr2) (fun _ _ v15 _ => a - (intOf v15).toNat)
          case atStart => exact ⟨0, rfl, xs, ⟨0, Z, []⟩, As, cs, rfl, hcs, HSS5.out, HST.out, HPF.out, ⟨by rw [HG.out]; exact HSI.out.1, HSI.out.2, by simp, rfl⟩, Nat.zero_le _, Blk.new' rfl, World.ownsRow_nil _ _ _ _, andAlloc (Below.refl _ _) _, Nat.le_refl _⟩
          case round =>
            obtain ⟨j, rfl, hL⟩ := hrel
            obtain ⟨ys, ⟨x2, sz2, out2⟩, A2, c2, rfl, hc2, hsg2, hst, hR, hP, hlen2, hM⟩ := hL.rest
            rw [hgx] at hM ⊢
            simp only at hc2 hsg2 hR hP hlen2 hM ⊢
            have hx0 : wr.cell? ⟨gx, 0, none⟩ = some (.int .i64 x2) := Blk.cell hM.blk 0
            have HMP := Lib.hid hM
            have hxb := hP.x
            simp only at hxb
            have hal := hst.le
            rw [HL.out] at hal
            by_cases hlt2 : j < a
            · obtain ⟨m, zs, y, rfl, hm, hm1, ham, hst', _, hy, h6, h11⟩ := hst.step (by rw [HL.out]; exact hl) (by rw [HL.out]; exact hlt2)
              rw [HL.out] at ham
              obtain ⟨b, off, rfl, hb, hnd⟩ := seg_node HSG.out hy
              have HND := Lib.hid (fun w' (h : Below w5.heap.size w5 w') => show w'.cell? ⟨b, off + j * 19, none⟩ = some (.int .i64 y.kind) from (cells5 hnd (andThen HB5.out h) hb).1)
              have HS := Lib.hid (And.intro hst' hR)
              have HX := Lib.hid (And.intro hy hm)
              have HB := Lib.hid (beg_of hy h6 h11)
              have hal1 : (j : Int) + m ≤ a := by omega
              by_cases k7 : y.kind = 7
              · have e7 : (y.kind == 7) = true := by simp [k7]
                obtain ⟨z, r, hz, hzb, hst1, hin1⟩ := hP.skip hy k7
                simp only at hz
                subst hz
                obtain ⟨b2, off2, rfl, hb2, hz2⟩ := Si.seg_get hsg2 (k := 0) (u := .int .i64 z) rfl
                have HZ2 := Lib.hid (fun w' (h : Below w5.heap.size w5 w') => show w'.cell? ⟨b2, off2, none⟩ = some (.int .i64 z) from (h.cell (p := ⟨b2, off2, none⟩) hb2).trans hz2)
                have HST1 := Lib.hid (And.intro hst1 hin1)
                have HSG2 := Lib.hid (And.intro hb2 hsg2)
                have hx1 : -2305843009213693952 ≤ x2 := by omega
                have hx3 : x2 ≤ 2305843009213693952 := by omega
                have hz1 : -2305843009213693952 ≤ z := by omega
                have hz3 : z ≤ 2305843009213693952 := by omega
                simp only [List.length_cons] at hc2 ⊢
                have HLE := Lib.hid hlen2
                clear hM hst' hR hy hm hnd hL hst hP h6 h11 k7 hz2 hst1 hin1 hsg2 hlen2 hxb hzb hb2
                go_wp2_with (first
                  | (at_builtin; refine wpList_push rfl (.tmp 82) (.tmp 84) 26 rfl (gx + 1) 3 _ 1 8 Try.underlying26 info_int rfl (by decide) (by decide) _ _ _ rfl HMP.out.own HMP.out.blk.lt #[.int .i64 x2] rfl rfl rfl rfl (by have := HLE.out; omega) ?_; intro v3 W3 hown3 hg3 hnn3; have HM3 := Lib.hid ((HMP.out.below (andAlloc (Below.refl _ _) _)).push hown3 hg3); have cy3 := HND.out _ HM3.out.low; have cz3 := HZ2.out _ HM3.out.low; clear hown3 hg3 hnn3)
                  | (go_at_call 50; refine (grow_any gx x2 z _ HM3.out.blk hx1 hx3 hz1 hz3).mono ?_; rintro e w7 ⟨rfl, hb7, hg7⟩; have HM7 := Lib.hid (HM3.out.turn hb7 hg7); clear hb7 hg7)
                  | (go_at_call 48; refine (HIT.out _ ci j m _ (Seg.belowW HSG.out (andThen HB5.out HM7.out.low)) HB.out HX.out.2).mono ?_; rintro e w8 ⟨rfl, hb8⟩; have HB8 := Lib.hid hb8; clear hb8))
                go_roundw
                case rel =>
                  refine ⟨j + m, by go_num, ⟨zs, ⟨x2 + z, r, out2 ++ [x2]⟩, if c2 = 1 then some ⟨b2, off2, none⟩ else some ⟨b2, off2 + 1, none⟩, c2 - 1, ?_, by simp only; omega, ?_, HS.out.1, ?_, ?_, ?_, ?_⟩⟩
                  · rfl
                  · simp only
                    have h := HSG2.out.2
                    split
                    · have : r = [] := List.eq_nil_of_length_eq_zero (by omega)
                      subst this
                      exact .inl rfl
                    · have h2 := Seg.drop h 1
                      simpa using h2
                  · have h := HS.out.2
                    rw [plF_cons, HST1.out.1] at h
                    exact h
                  · have h := HST1.out.2
                    rw [HST1.out.1] at h
                    simpa using h
                  · have := HLE.out
                    simp only [List.length_append, List.length_cons, List.length_nil]
                    omega
                  · exact HM7.out.below HB8.out
                case measure => simp [intOf]; omega
              · have e7 : (y.kind == 7) = false := by simp [k7]
                obtain ⟨hst1, hin1⟩ := hP.other hy k7 (HF.out j)
                have HST1 := Lib.hid (And.intro hst1 hin1)
                have hfj := HF.out j
                have hx1 : -2305843009213693952 ≤ x2 := by omega
                have hx3 : x2 ≤ 2305843009213693952 := by omega
                have hz1 : -2305843009213693952 ≤ f j := by omega
                have hz3 : f j ≤ 2305843009213693952 := by omega
                have HK6 := Lib.hid (And.intro h6 h11)
                have HLE := Lib.hid hlen2
                have HSG2 := Lib.hid hsg2
                clear hM hst' hR hy hm hnd hL hst hP h6 h11 k7 hst1 hin1 hsg2 hlen2 hxb hfj
                go_wp2_with (first
                  | (at_builtin; refine wpList_push rfl (.tmp 82) (.tmp 84) 26 rfl (gx + 1) 3 _ 1 8 Try.underlying26 info_int rfl (by decide) (by decide) _ _ _ rfl HMP.out.own HMP.out.blk.lt #[.int .i64 x2] rfl rfl rfl rfl (by have := HLE.out; omega) ?_; intro v3 W3 hown3 hg3 hnn3; have HM3 := Lib.hid ((HMP.out.below (andAlloc (Below.refl _ _) _)).push hown3 hg3); have cy3 := HND.out _ HM3.out.low; have cg3 : W3.cell? ⟨g8, 0, none⟩ = some (.int .i64 x.kind) := Blk.cell (HBL.out.below (andThen HB5.out HM3.out.low) HBL.out.lt) 0; clear hown3 hg3 hnn3)
                  | (go_at_call 51; refine (HSZ.out j y HX.out.1 HK6.out.1 HK6.out.2 _ ci _ hci (Seg.belowW HSG.out (andThen HB5.out HM3.out.low))).mono ?_; rintro e w6 ⟨rfl, hb6⟩; have HM6 := Lib.hid (HM3.out.below hb6); clear hb6)
                  | (go_at_call 50; refine (grow_any gx x2 (f j) _ HM6.out.blk hx1 hx3 hz1 hz3).mono ?_; rintro e w7 ⟨rfl, hb7, hg7⟩; have HM7 := Lib.hid (HM6.out.turn hb7 hg7); clear hb7 hg7)
                  | (go_at_call 48; refine (HIT.out _ ci j m _ (Seg.belowW HSG.out (andThen HB5.out HM7.out.low)) HB.out HX.out.2).mono ?_; rintro e w8 ⟨rfl, hb8⟩; have HB8 := Lib.hid hb8; clear hb8))
                go_roundw
                case rel =>
                  refine ⟨j + m, by go_num, ⟨zs, ⟨x2 + f j, sz2, out2 ++ [x2]⟩, A2, c2, rfl, hc2, HSG2.out, HS.out.1, ?_, ?_, ?_, ?_⟩⟩
                  · have h := HS.out.2
                    rw [plF_cons, HST1.out.1] at h
                    exact h
                  · have h := HST1.out.2
                    rw [HST1.out.1] at h
                    simpa using h
                  · have := HLE.out
                    simp only [List.length_append, List.length_cons, List.length_nil]
                    omega
                  · exact HM7.out.below HB8.out
                case measure => simp [intOf]; omega
            · obtain rfl : j = a := by omega
              have he : ys = [] := (show Stand l l.length ys from HL.out ▸ hst).done
              subst he
              have hPo : PF.out = out2 := by
                have h : (⟨x2, sz2, out2⟩ : Plc) = PF := hR
                rw [← h]
              have HPO := Lib.hid hPo
              clear hst hR hP hM hL hPo hsg2
              go_wp2_with fail
              go_ret2
              rw [HPP.out]
              refine ⟨u14, rfl, ?_, andThen HW0.out (andThen HB5.out HMP.out.low)⟩
              simp only
              rw [HPO.out]
              exact own_base HMP.out.own (by have := HMP.out.gl; have := HW0.out.size; have := HB5.out.size; omega)
        · have hpr : PR = ([], Gl.szE s x.sign x.order x.num x.den) := by
            rw [← HPR.out]
            unfold plcR
            rw [HG.out, if_neg hE]
          have HPP := Lib.hid hpr
          have HE := Lib.hid hE
          clear hpr hE HPR
          go_wp2_with fail
          refine HSZO.out.mono ?_
          rintro e w5 ⟨hs5, hb5⟩
          rw [if_neg HE.out] at hs5
          subst hs5
          clear HSZO
          generalize Gl.szE s x.sign x.order x.num x.den = E at *
          have e0 : (E != 0) = true := by simp [HE.out]
          go_wp2_with fail
          go_ret2
          rw [HPP.out]
          exact PlOut.no (andThen HW0.out (andThen HLOW.out hb5)) _
end Go.Proofs.Ytoboecenlangmaa.Pk
end
section
namespace Go.Proofs.Ytoboecenlangmaa.Pk
open Go.ChangeShapes Go.WideShapes Go.ChangeAt Go.RowKit
open Me Np No
set_option linter.unusedVariables false
set_option linter.unusedSimpArgs false

def bitN : Nd := { nz 1 with char := 97, wd := 327680, ht := 262144 }
def gluN : Nd := { nz 7 with gn := 65536, gs := 131072, gh := 65536 }
def l3 : List Nd := [bitN, gluN, bitN]
theorem bit_right : right bitN = true := right_s bitN 1 rfl rfl rfl rfl
theorem glu_right : right gluN = true := right_s gluN 7 rfl rfl rfl rfl
theorem end_right : right (nz 6) = true := right_s (nz 6) 6 rfl rfl rfl rfl
theorem l3_chk : chk l3 = 0 := by
  have h : Np.run l3 ([], 0) = some ([], 1) := by
    simp only [l3, Np.run, stp, bit_right, glu_right]
    rfl
  unfold chk
  rw [h]
  rfl
theorem l3_its : Its [0, 1, 2] l3 0 := ⟨rfl, 1, rfl, rfl, 1, rfl, rfl, 1, rfl, rfl⟩
theorem l3_part : partD l3 = (l3, []) := by
  unfold partD
  rw [itsD_of l3_its]
  rfl
theorem l3_al : alD l3 false 0 = 327680 ∧ alD l3 false 1 = 65536 ∧ alD l3 false 2 = 327680 :=
  ⟨alD_of ⟨bitN, rfl, rfl⟩, alD_of ⟨gluN, rfl, rfl⟩, alD_of ⟨bitN, rfl, rfl⟩⟩
theorem l3_tot : totD l3 false [0, 1, 2] = ⟨720896, [131072, 0, 0, 0], [65536, 0, 0, 0]⟩ := by
  have h : ∀ al : Nat → Int, al 0 = 327680 → al 1 = 65536 → al 2 = 327680 → tsum l3 al [0, 1, 2] tz = ⟨720896, [131072, 0, 0, 0], [65536, 0, 0, 0]⟩ := by
    intro al h0 h1 h2
    simp only [tsum, h0, h1, h2]
    rfl
  exact h _ l3_al.1 l3_al.2.1 l3_al.2.2
theorem l3_ext : extD l3 false [0, 1, 2] = (262144, 0) := by
  have h0 : roD l3 0 = (262144, 0) := roD_of ⟨bitN, rfl, rfl⟩
  have h1 : roD l3 1 = (0, 0) := roD_of ⟨gluN, rfl, rfl⟩
  have h2 : roD l3 2 = (262144, 0) := roD_of ⟨bitN, rfl, rfl⟩
  have h : ∀ ra : Nat → Int × Int, ra 0 = (262144, 0) → ra 1 = (0, 0) → ra 2 = (262144, 0) → rfold ra [0, 1, 2] (0, 0) = (262144, 0) := by
    intro ra h0 h1 h2
    simp only [rfold, h0, h1, h2]
    rfl
  exact h _ h0 h1 h2
theorem l3_msr : Msr l3 false 720896 131072 0 0 0 65536 0 0 0 0 262144 0 0 := by
  have ht := fun A k w h hs => totals_any A l3 k [0, 1, 2] false w l3_chk h hs l3_its
  have hR : totR l3 false [0, 1, 2] = ⟨720896, [131072, 0, 0, 0], [65536, 0, 0, 0]⟩ := by
    unfold totR
    rw [l3_tot]
    rfl
  have hu := fun A k w h hs => extent_good A l3 k [0, 1, 2] false w l3_chk h hs l3_its
  simp only [hR, l3_tot] at ht
  simp only [l3_ext] at hu
  exact ⟨ht, hu, fun _ => rfl, fun _ => ⟨rfl, rfl, rfl, rfl, rfl, rfl, rfl, rfl⟩, fun _ => .inl rfl, fun _ => ⟨rfl, rfl⟩⟩
/-- The box around them. -/
def boxN : Nd := fitN (hN 851968 262144 0) (1, 0, 131072, 131072)
theorem box_right : right boxN = true := right_s boxN 4 rfl rfl rfl rfl
theorem box_chk : chk (wrapL boxN l3) = 0 := by
  have h : Np.run (wrapL boxN l3) ([], 0) = some ([], 2) := by
    simp only [wrapL, l3, List.cons_append, List.nil_append, Np.run, stp, bit_right, glu_right, box_right, end_right]
    rfl
  unfold chk
  rw [h]
  rfl
theorem live_hpack (A : Option Addr) (k : Nat) (w : World) (hk : 3 ≤ k) (hs : Seg w w.heap.size A (l3.flatMap ncs)) : Calls Try.prog 20 #[.slice A 3 k, .int .i64 851968, .bool true] w (HOut (wrapL boxN l3, [], 100, 0, 0) w) := by
  have h := hpack_t A l3 l3 [] (wrapL boxN l3) k 851968 w l3_chk hk hs rfl l3_part 720896 131072 0 0 0 65536 0 0 0 0 262144 0 0 0 851968 l3_msr rfl (fun A c' w hs => (wrap_ok boxN A l3 c' w hs box_right rfl (by decide) l3_chk box_chk).mono (by rintro e w' ⟨v, rfl, h, hb⟩; exact ⟨v, rfl, h, hb⟩))
  have e : hpkR 0 0 (dimB 851968) 0 (wrapL boxN l3) [] (setV (fitN (hN 851968 262144 0) (Gl.fit 131072 0 0 0 65536 0 0 0 (851968 - 720896))) 131072 65536 ((l3.length : Int) == 0) (851968 - 720896) (0, 0)).1 (setV (fitN (hN 851968 262144 0) (Gl.fit 131072 0 0 0 65536 0 0 0 (851968 - 720896))) 131072 65536 ((l3.length : Int) == 0) (851968 - 720896) (0, 0)).2 = (wrapL boxN l3, [], 100, 0, 0) := by kernel_rfl
  rw [e] at h
  exact h
theorem live_sizes : Gl.szE [gOf gluN] 1 0 131072 131072 = 0 ∧ Gl.szL [gOf gluN] 1 0 131072 131072 = [196608] := by
  have hr : Gl.rowE [gOf gluN] = 0 := by decide
  have ha : Gl.argOk 1 0 = true := by decide
  have hg : Gl.rngOk 1 131072 131072 = true := by decide
  have hz : Gl.run 1 0 131072 131072 [gOf gluN] = some ⟨131072, 131072, [196608]⟩ := by kernel_rfl
  exact Gl.szE_some hr ha hg hz
theorem live_places (A : Option Addr) (k : Nat) (w : World) (hk : 5 ≤ k) (hs : Seg w w.heap.size A ((wrapL boxN l3).flatMap ncs)) : Calls Try.prog 23 #[.slice A 5 k, .int .i64 0] w (PlOut [0, 327680, 524288] 0 w) := by
  obtain ⟨f, hf, hv, hz⟩ := size_case l3 false l3_chk
  have f0 : f 0 = 327680 := hv 0 bitN rfl (.inr (by decide))
  have f2 : f 2 = 327680 := hv 2 bitN rfl (.inr (by decide))
  have hin : innerL (wrapL boxN l3) 0 5 = l3 := rfl
  have hI := inside_ok A (wrapL boxN l3) k 0 5 boxN w hk hs box_chk rfl rfl rfl rfl
  rw [hin] at hI
  have h := places_ok A (wrapL boxN l3) l3 k 0 boxN [0, 1, 2] f w hk (by decide) hs rfl (.inl rfl) hI l3_chk l3_its hf hz
  have e : plcR boxN l3 f [0, 1, 2] = ([0, 327680, 524288], 0) := by
    unfold plcR
    have hg : skF l3 [0, 1, 2] [] = [gOf gluN] := rfl
    rw [hg]
    have h1 : Gl.szE [gOf gluN] boxN.sign boxN.order boxN.num boxN.den = 0 := live_sizes.1
    have h2 : Gl.szL [gOf gluN] boxN.sign boxN.order boxN.num boxN.den = [196608] := live_sizes.2
    rw [h1, h2, if_pos rfl]
    have h3 : ∀ f : Nat → Int, f 0 = 327680 → f 2 = 327680 → (plF l3 f [0, 1, 2] ⟨0, [196608], []⟩).out = [0, 327680, 524288] := by
      intro f h0 h2
      show [(0 : Int), 0 + f 0, 0 + f 0 + 196608] = _
      rw [h0]
      rfl
    rw [h3 f f0 f2]
  rw [e] at h
  exact h
end Go.Proofs.Ytoboecenlangmaa.Pk
end
section
namespace Go.Proofs.Ytoboecenlangmaa.Pk
open Go.ChangeShapes Go.WideShapes Go.ChangeAt Go.RowKit
open Me Np No
set_option linter.unusedVariables false
set_option linter.unusedSimpArgs false

theorem num6_any (x : Int) (w : World) : Calls Try.prog 21 #[.int .i64 x] w fun e w' => e = .returned (.int .i64 x) ∧ w = w' := by
  go_enter Try.func21, Try.ntmps21
  go_wp2
  go_ret
  exact ⟨rfl, rfl⟩
section
attribute [local go_sem ↓] bldN_eq
set_option maxRecDepth 100000 in
theorem bit_any (w : World) : Calls Try.prog 46 #[] w fun e w' => e = .returned (.agg (nc bitN)) ∧ Below w.heap.size w w' := by
  have hbn : ∀ w, (bldN #[(0, .int .i64 1), (2, .int .u8 97), (3, .int .i64 327680), (4, .int .i64 262144)]).run Try.prog w = .ok (.agg (nc bitN)) w := fun w => by rw [← bldN_eq]; exact run_build w 54 _ _ (by kernel_rfl)
  go_enter Try.func46, Try.ntmps46
  go_wp2_with (first | (refine wpList_alloc_node rfl rfl ?_) | (refine wpList_store_node rfl _ _ rfl _ _ _ rfl rfl _ (by repeat (first | (apply Blk.new'; first | rfl | (simp; done)) | assumption | apply Blk.alloc)) ?_))
  exact bodyPost_ret (v := .agg (nc bitN)) (results_node rfl _ _ _ _ rfl (by repeat (first | apply NodeAt.row | (apply Blk.new'; first | rfl | (simp; done)) | (apply Blk.node; apply Blk.new'; first | rfl | (simp; done)) | assumption | apply NodeAt.alloc))) rfl ⟨rfl, (by repeat (first | (refine below_setRow ?_ _ _ ?_; rotate_left; focus (simp; done)) | exact Below.refl _ _ | refine andAlloc ?_ _))⟩
set_option maxRecDepth 100000 in
theorem glu_any (w : World) : Calls Try.prog 47 #[] w fun e w' => e = .returned (.agg (nc gluN)) ∧ Below w.heap.size w w' := by
  have hbn : ∀ w, (bldN #[(0, .int .i64 7), (7, .agg #[.int .i64 65536, .int .i64 131072, .int .i64 65536, .int .i64 0, .int .i64 0])]).run Try.prog w = .ok (.agg (nc gluN)) w := fun w => by rw [← bldN_eq]; exact run_build w 54 _ _ (by kernel_rfl)
  go_enter Try.func47, Try.ntmps47
  go_wp2_with (first | (refine wpList_alloc_node rfl rfl ?_) | (refine wpList_build_eq (o := ⟨some 1, _, _, _, _, _⟩) rfl _ _ rfl #[.int .i64 65536, .int .i64 131072, .int .i64 65536, .int .i64 0, .int .i64 0] (by kernel_rfl) ?_) | (refine wpList_build_eq (o := ⟨some 2, _, _, _, _, _⟩) rfl _ _ rfl (nc gluN) (by kernel_rfl) ?_) | (refine wpList_store_node rfl _ _ rfl _ _ _ rfl rfl _ (by repeat (first | (apply Blk.new'; first | rfl | (simp; done)) | assumption | apply Blk.alloc)) ?_))
  exact bodyPost_ret (v := .agg (nc gluN)) (results_node rfl _ _ _ _ rfl (by repeat (first | apply NodeAt.row | (apply Blk.new'; first | rfl | (simp; done)) | (apply Blk.node; apply Blk.new'; first | rfl | (simp; done)) | assumption | apply NodeAt.alloc))) rfl ⟨rfl, (by repeat (first | (refine below_setRow ?_ _ _ ?_; rotate_left; focus (simp; done)) | exact Below.refl _ _ | refine andAlloc ?_ _))⟩
end
theorem l3_seg {w : World} {g : Nat} (hg : g = w.heap.size) : Seg (w.alloc (.cells (l3.flatMap ncs).toArray 54)) (w.alloc (.cells (l3.flatMap ncs).toArray 54)).heap.size (some ⟨g, 0, none⟩) (l3.flatMap ncs) := by
  subst hg
  refine .inr ⟨w.heap.size, 0, rfl, by simp, fun j u hu => ?_⟩
  rw [Nat.zero_add, (Blk.new w _ _).cell j]
  simpa using hu
theorem blk_seg {w : World} {g B : Nat} {t : TypeId} {cs : Array Value} {xs : List Value} (h : Blk w g t cs) (hB : g < B) (hx : cs.toList = xs) : Seg w B (some ⟨g, 0, none⟩) xs :=
  .inr ⟨g, 0, rfl, hB, fun j u hu => by rw [Nat.zero_add, h.cell j]; rw [← hx] at hu; simpa using hu⟩
set_option maxRecDepth 100000 in
theorem live_any (w : World) : Calls Try.prog 22 #[] w fun e w' => e = .returned (.bool true) ∧ Below w.heap.size w w' := by
  go_enter Try.func22, Try.ntmps22
  go_wp2_with fail
  refine (bit_any _).mono ?_
  rintro e w1 ⟨rfl, hb1⟩
  go_wp2_with fail
  refine (glu_any _).mono ?_
  rintro e w2 ⟨rfl, hb2⟩
  go_wp2_with fail
  refine (bit_any _).mono ?_
  rintro e w3 ⟨rfl, hb3⟩
  have hl3 : Below w.heap.size w w3 := andThen (andThen hb1 hb2) hb3
  clear hb1 hb2 hb3
  go_wp2_with (first | (refine wpList_ex (o := ⟨some 12, _, _, _, _, _⟩) (v := .slice (some ⟨w3.heap.size, 0, none⟩) 3 3) (w' := w3.alloc (.cells (l3.flatMap ncs).toArray 54)) rfl (by kernel_rfl) ?_))
  refine (live_hpack (some ⟨w3.heap.size, 0, none⟩) 3 _ (by omega) (l3_seg rfl)).mono ?_
  rintro e w4 ⟨va, vb, rfl, ho, hb4⟩
  have HL4 := Lib.hid (andThen (andAlloc hl3 (.cells (l3.flatMap ncs).toArray 54)) hb4)
  obtain ⟨Aa, ca, e0, hca, _, hsa⟩ := Seg.of_own ho.one
  simp only at e0
  subst e0
  clear hb4 hl3 ho
  simp only
  go_wp2_with fail
  refine (live_places Aa ca w4 hca hsa).mono ?_
  rintro e w5 ⟨v5, rfl, ho5, hb5⟩
  obtain ⟨A5, c5, e5, hc5, _, hs5⟩ := Seg.of_own ho5
  subst e5
  have HL5 := Lib.hid (andThen HL4.out hb5)
  clear hb5 ho5 hsa
  go_wp2_with (go_at_call 21; refine (num6_any _ _).mono ?_; rintro e w' ⟨rfl, rfl⟩)
  have hb6 : Below w5.heap.size w5 (w5.alloc (.cells #[.int .i64 0, .int .i64 327680, .int .i64 524288] 3)) := andAlloc (Below.refl _ _) _
  refine (Si.same_ints A5 (some ⟨w5.heap.size, 0, none⟩) [0, 327680, 524288] [0, 327680, 524288] c5 3 _ (by decide) (by decide) (Seg.belowW hs5 hb6) (blk_seg (Blk.new' rfl) (by simp) rfl)).mono ?_
  rintro e w6 ⟨rfl, hb7⟩
  go_wp2_with fail
  go_ret
  exact ⟨rfl, andThen (andThen HL5.out hb6) hb7⟩
end Go.Proofs.Ytoboecenlangmaa.Pk
end
section
namespace Go.Proofs.Ytoboecenlangmaa.Pk
open Go.ChangeShapes Go.WideShapes Go.ChangeAt Go.RowKit
open Me Np No
set_option linter.unusedVariables false
set_option linter.unusedSimpArgs false

theorem seg_own {w : World} {base n c : Nat} {A : Option Addr} {xs : List Value} (h : w.ownsRow base 54 19 (.slice A n c) n xs) : Seg w w.heap.size A xs := by
  obtain ⟨A1, c1, e, _, _, hs⟩ := Seg.of_own h
  injection e with e _ _
  subst e
  exact hs
theorem val_own {w : World} {base : Nat} {e : TypeId} {size n : Nat} {v : Value} {xs : List Value} (h : w.ownsRow base e size v n xs) : ∃ A c, v = .slice A n c ∧ n ≤ c := by
  obtain ⟨A, c, h1, h2, _⟩ := Seg.of_own h
  exact ⟨A, c, h1, h2⟩
theorem opens_beg {n : Nd} (h : opensB n = true) : ¬ n.kind = 6 ∧ ¬ n.kind = 11 := by
  constructor
  · intro e; simp [opensB, e] at h
  · intro e; simp [opensB, e] at h
theorem num6_q (x : Int) (w : World) : Calls Try.prog 21 #[.int .i64 x] w fun e w' => e = .returned (.int .i64 x) ∧ w' = w :=
  (num6_any x w).mono fun _ _ h => ⟨h.1, h.2.symm⟩
/-- The first node of a row of one's own. -/
theorem head_cells {w : World} {base k : Nat} {A : Option Addr} {L : List Nd} {n : Nd} {r : List Nd} (ho : w.ownsRow base 54 19 (.slice A L.length k) L.length (L.flatMap ncs)) (hL : L = n :: r) :
    ∃ b off : Nat, A = some ⟨b, off, none⟩ ∧ ∀ w', Below w.heap.size w w' → w'.cell? ⟨b, off + 3, none⟩ = some (.int .i64 n.wd) ∧ w'.cell? ⟨b, off + 4, none⟩ = some (.int .i64 n.ht) ∧ w'.cell? ⟨b, off + 5, none⟩ = some (.int .i64 n.dp) ∧ w'.cell? ⟨b, off + 12, none⟩ = some (.int .i64 n.sign) := by
  obtain ⟨b, off, hA, hb, hn⟩ := seg_node (seg_own ho) (k := 0) (n := n) (by rw [hL]; rfl)
  refine ⟨b, off, hA, fun w' h => ?_⟩
  have h2 := hn.below h hb
  rw [Nat.zero_mul, Nat.add_zero] at h2
  exact ⟨h2 3 _ rfl, h2 4 _ rfl, h2 5 _ rfl, h2 12 _ rfl⟩
end Go.Proofs.Ytoboecenlangmaa.Pk
end
section
namespace Go.Proofs.Ytoboecenlangmaa.No
open Go.ChangeShapes Go.WideShapes Go.ChangeAt Go.RowKit
open Me Np
set_option linter.unusedVariables false
set_option linter.unusedSimpArgs false

@[irreducible] def neN (x y : Value) : Sem Value := binOp .neq 54 x y
theorem neN_eq (x y : Value) : binOp .neq 54 x y = neN x y := by unfold neN; rfl
theorem run_neN (a b : Nd) (w : World) : (neN (.agg (nc a)) (.agg (nc b))).run Try.prog w = .ok (.bool (!eqB a b)) w := by
  rw [← neN_eq, run_neq_struct]
  have h := eqB_eq a b w
  rw [run_eql_struct] at h
  generalize (Op.equalIn 10000 54 (.agg (nc a)) (.agg (nc b))).run Try.prog w = r at h ⊢
  cases r with
  | ok b' w' =>
    simp only [Result.andThen, Result.ok.injEq, Value.bool.injEq] at h ⊢
    obtain ⟨h1, h2⟩ := h
    rw [h1, h2]
    exact ⟨rfl, rfl⟩
  | halt x w' => simp [Result.andThen] at h
def sameB (l m : List Nd) : Bool := decide (l.length = m.length) && (l.zip m).all fun p => eqB p.1 p.2
theorem sameB_iff : ∀ {l m : List Nd}, sameB l m = true ↔ l = m
  | [], [] => by simp [sameB]
  | [], _ :: _ => by simp [sameB]
  | _ :: _, [] => by simp [sameB]
  | x :: l, y :: m => by
    have ih := sameB_iff (l := l) (m := m)
    simp only [sameB, Bool.and_eq_true, decide_eq_true_eq] at ih
    simp only [sameB, List.length_cons, List.zip_cons_cons, List.all_cons, Bool.and_eq_true, decide_eq_true_eq, eqB_iff, List.cons.injEq]
    constructor
    · rintro ⟨h1, h2, h3⟩
      exact ⟨h2, ih.1 ⟨by omega, h3⟩⟩
    · rintro ⟨rfl, h2⟩
      obtain ⟨h3, h4⟩ := ih.2 h2
      exact ⟨by omega, rfl, h4⟩
theorem same_no {l m : List Nd} {k : Nat} {x y : Nd} (hx : l[k]? = some x) (hy : m[k]? = some y) (h : eqB x y = false) : sameB l m = false := by
  cases h1 : sameB l m
  · rfl
  · have := sameB_iff.1 h1
    subst this
    rw [hx] at hy
    injection hy with e
    subst e
    rw [eqB_self] at h
    cases h
theorem same_yes {l m : List Nd} (hl : l.length = m.length) (h : ∀ (k : Nat) (x y : Nd), l[k]? = some x → m[k]? = some y → eqB x y = true) : sameB l m = true := by
  rw [sameB_iff]
  apply List.ext_getElem?
  intro k
  cases hx : l[k]? with
  | none =>
    rw [List.getElem?_eq_none_iff] at hx
    rw [List.getElem?_eq_none (by omega)]
  | some x =>
    have hk := (List.getElem?_eq_some_iff.1 hx).1
    have hy : m[k]? = some (m[k]'(by omega)) := List.getElem?_eq_getElem (by omega)
    rw [hy, (eqB_iff _ _).1 (h k _ _ hx hy)]
attribute [local go_sem ↓] ldN_eq neN_eq
set_option maxHeartbeats 1000000 in
set_option maxRecDepth 100000 in
theorem same_any (A B : Option Addr) (l m : List Nd) (c d : Nat) (w : World) (hl : l.length ≤ 9223372036854775806) (hm : m.length ≤ 9223372036854775806) (hA : Seg w w.heap.size A (l.flatMap ncs)) (hB : Seg w w.heap.size B (m.flatMap ncs)) :
    Calls Try.prog 29 #[.slice A l.length c, .slice B m.length d] w fun e w' => e = .returned (.bool (sameB l m)) ∧ Below w.heap.size w w' := by
  by_cases hlen : l.length = m.length
  · have e1 : ((l.length : Int) != (m.length : Int)) = false := by simp [hlen]
    have HA := Lib.hid hA
    have HB := Lib.hid hB
    have HLEN := Lib.hid hlen
    clear hA hB
    generalize hn : l.length = n at *
    generalize hq : m.length = q at *
    have HN := Lib.hid hn
    have HQ := Lib.hid hq
    clear hn hq hlen
    obtain rfl : n = q := HLEN.out
    clear HLEN
    go_enter Try.func29, Try.ntmps29
    go_wp2_with fail
    go_loopw [5] (fun i wr => ∃ (k r : Nat), k ≤ n ∧ i = .int .i64 k ∧ wr = w.drewN r ∧ ∀ (j : Nat) (x y : Nd), j < k → l[j]? = some x → m[j]? = some y → eqB x y = true) (fun i _ => n - (intOf i).toNat)
    case atStart => exact ⟨0, 0, by omega, rfl, rfl, fun j x y hj => by omega⟩
    case round =>
      obtain ⟨k, r, hk, rfl, rfl, hall⟩ := hrel
      have HALL := Lib.hid hall
      clear hall
      by_cases hlt : k < n
      · obtain ⟨x, hx⟩ : ∃ x, l[k]? = some x := ⟨_, List.getElem?_eq_getElem (by rw [HN.out]; exact hlt)⟩
        obtain ⟨y, hy⟩ : ∃ y, m[k]? = some y := ⟨_, List.getElem?_eq_getElem (by rw [HQ.out]; exact hlt)⟩
        obtain ⟨b, off, rfl, hb, hnx⟩ := seg_node HA.out hx
        obtain ⟨b', off', rfl, hb', hny⟩ := seg_node HB.out hy
        have HX := Lib.hid hx
        have HY := Lib.hid hy
        have HNX := Lib.hid hnx
        have HNY := Lib.hid hny
        have hq := run_neN x y
        clear hx hy hnx hny
        cases he : eqB x y
        · rw [he] at hq
          have HE := Lib.hid he
          clear he
          go_wp2_with fail
          go_region_held3 (fun w' => (ldN ⟨b, off + k * 19, none⟩).run Try.prog w' = .ok (.agg (nc x)) w' ∧ (ldN ⟨b', off' + k * 19, none⟩).run Try.prog w' = .ok (.agg (nc y)) w') (exact ⟨run_ldN (NodeAt.drewN (NodeAt.drewN HNX.out r) 1), run_ldN (NodeAt.drewN (NodeAt.drewN HNY.out r) 1)⟩) (fail)
          go_wp2_with fail
          go_ret
          exact ⟨ret_bool (same_no HX.out HY.out HE.out).symm, below_drewN (below_drewN (Below.refl _ _) r) 1⟩
        · rw [he] at hq
          have HE := Lib.hid he
          clear he
          go_wp2_with fail
          go_region_held3 (fun w' => (ldN ⟨b, off + k * 19, none⟩).run Try.prog w' = .ok (.agg (nc x)) w' ∧ (ldN ⟨b', off' + k * 19, none⟩).run Try.prog w' = .ok (.agg (nc y)) w') (exact ⟨run_ldN (NodeAt.drewN (NodeAt.drewN HNX.out r) 1), run_ldN (NodeAt.drewN (NodeAt.drewN HNY.out r) 1)⟩) (fail)
          go_wp2_with fail
          go_roundw
          case rel =>
            refine ⟨k + 1, r + 1, by omega, by go_num, rfl, fun j x' y' hj hx' hy' => ?_⟩
            rcases Nat.lt_or_ge j k with h1 | h1
            · exact HALL.out j x' y' h1 hx' hy'
            · obtain rfl : j = k := by omega
              rw [HX.out] at hx'
              rw [HY.out] at hy'
              injection hx' with h2
              injection hy' with h3
              subst h2 h3
              exact HE.out
          case measure => simp [intOf]; omega
      · obtain rfl : k = n := by omega
        go_wp2_with fail
        go_ret
        refine ⟨ret_bool (same_yes (by rw [HN.out, HQ.out]) fun j x y hx hy => HALL.out j x y ?_ hx hy).symm, below_drewN (Below.refl _ _) r⟩
        have := (List.getElem?_eq_some_iff.1 hx).1
        rw [HN.out] at this
        exact this
  · have e1 : ((l.length : Int) != (m.length : Int)) = true := by
      rw [bne_iff_ne]
      omega
    have hs : sameB l m = false := by simp [sameB, hlen]
    have HS := Lib.hid hs
    clear hs hlen
    generalize l.length = n at *
    generalize m.length = q at *
    go_enter Try.func29, Try.ntmps29
    go_wp2_with fail
    go_ret
    exact ⟨ret_bool HS.out.symm, Below.refl _ _⟩
end Go.Proofs.Ytoboecenlangmaa.No
end
section
namespace Go.Proofs.Ytoboecenlangmaa.Pk
open Go.ChangeShapes Go.WideShapes Go.ChangeAt Go.RowKit
open Me Np No
set_option linter.unusedVariables false
set_option linter.unusedSimpArgs false

set_option maxHeartbeats 4000000 in
set_option maxRecDepth 100000 in
theorem lists_walk (A : Option Addr) (l : List Nd) (c : Nat) (tw : Int) (ex : Bool) (most : Int) (w : World) (hl : l.length ≤ 879609302220) (hcap : l.length ≤ c) (hA : A = none → c = 0) (hseg : Seg w w.heap.size A (l.flatMap ncs)) :
    Calls Try.prog 7 #[.slice A l.length c, .int .i64 tw, .bool ex, .int .i64 most] w fun e w' => e = .returned (.bool true) ∧ Below w.heap.size w w' := by
  obtain ⟨⟨La, Lo, bad, ov, E⟩, hLa, hLo, hG, HP⟩ := hpk1_case l tw ex (by omega)
  obtain ⟨⟨Lb, bad2, ov2, E2⟩, hLb, hG2, HC⟩ := col1_case l tw ex most false (by omega)
  simp only at hLa hLo hLb
  have hE : (E = 0 ∧ chk La = 0 ∧ chk Lo = 0) ∨ ¬ E = 0 := by
    rcases hG with ⟨S, O, x, a, b, c, d, p, q, r, s, h, v, W, F, hS, hc, _, _, _, _, hcw, hR⟩ | ⟨_, _, _, _, h⟩
    · injection hR with e1 hR
      injection hR with e2 hR
      injection hR with e3 hR
      injection hR with e4 e5
      have := (partD_chk hc).2
      rw [hS] at this
      exact .inl ⟨e5, by rw [e1]; exact hcw, by rw [e2]; exact this⟩
    · exact .inr h
  have hE2 : (E2 = 0 ∧ chk Lb = 0 ∧ ∃ n, Lb = wrapL n l ∧ opensB n = true ∧ chk l = 0) ∨ (¬ E2 = 0 ∧ Lb = []) := by
    rcases hG2 with ⟨x, a, b, c, d, p, q, r, s, h, v, N, D, H, Hf, Df, F, hc, _, _, _, _, _, _, _, hcw, ho, _, _, hR⟩ | ⟨h1, _, _, h⟩
    · injection hR with e1 hR
      injection hR with e2 hR
      injection hR with e3 e4
      exact .inl ⟨e4, by rw [e1]; exact hcw, _, e1, ho, hc⟩
    · exact .inr ⟨h, h1⟩
  have HE := Lib.hid hE
  have HE2 := Lib.hid hE2
  have HP := Lib.hid HP
  have HC := Lib.hid HC
  have HSG := Lib.hid hseg
  have HA := Lib.hid hA
  have HLN := Lib.hid (And.intro hLa (And.intro hLo hLb))
  clear hE hE2 hG hG2 hseg hA hLa hLo hLb
  generalize hlen : l.length = len at *
  have HL := Lib.hid hlen
  clear hlen
  go_enter Try.func7, Try.ntmps7
  go_wp2_with fail
  refine (HP.out A c w hcap HSG.out).mono ?_
  rintro e w1 ⟨va, vo, rfl, oao, hb1⟩
  obtain ⟨Aa, xa, e0, _⟩ := val_own oao.one
  obtain ⟨Ao, xo, e1, _⟩ := val_own oao.two
  simp only at e0 e1
  subst e0 e1
  have OA := Lib.hid (And.intro oao.one oao.two)
  have HB1 := Lib.hid hb1
  clear oao hb1 HP
  simp only
  go_wp2_with fail
  have hv := vpack_of l tw ex most _ A c w1 (by rw [HL.out]; exact HC.out A c w1 hcap (src_in (Seg.belowW HSG.out HB1.out) HA.out))
  rw [HL.out] at hv
  refine hv.mono ?_
  clear hv
  rintro e w2 ⟨vb, rfl, ob, hb2⟩
  obtain ⟨Ab, xb, f0, hxb⟩ := val_own ob
  simp only at f0
  subst f0
  have OB := Lib.hid ob
  have OA2 := Lib.hid (And.intro (own_below OA.out.1 hb2) (own_below OA.out.2 hb2))
  have HB2 := Lib.hid (andThen HB1.out hb2)
  have hla : La.length ≤ 9223372036854775807 := by have := HLN.out.1; omega
  have hlo : Lo.length ≤ 9223372036854775807 := by have := HLN.out.2.1; omega
  have hlb : Lb.length ≤ 9223372036854775807 := by have := HLN.out.2.2; omega
  clear ob hb2 HC OA
  simp only at hxb ⊢
  go_upto_region 3 with fail
  go_cut [54] (fun v54 wx => v54 = .bool false ∧ Below w2.heap.size w2 wx)
  case first =>
    rcases HE.out with ⟨h0, h1, h2⟩ | h0
    · have t0 : (E == 0) = true := by simp [h0]
      have HCA := Lib.hid (check_any Aa La xa w2 hla (seg_own OA2.out.1))
      have HCO := Lib.hid (fun w3 (h : Below w2.heap.size w2 w3) => check_any Ao Lo xo w3 hlo (Seg.belowW (seg_own OA2.out.2) h))
      rw [h1] at HCA
      rw [h2] at HCO
      clear h0 h1 h2
      go_wp2_with (go_at_call 21; refine (num6_any _ _).mono ?_; rintro e w' ⟨rfl, rfl⟩)
      refine HCA.out.mono ?_
      rintro e w3 ⟨rfl, hb3⟩
      have HB3 := Lib.hid hb3
      clear hb3
      go_wp2_with (go_at_call 21; refine (num6_any _ _).mono ?_; rintro e w' ⟨rfl, rfl⟩)
      refine (HCO.out _ HB3.out).mono ?_
      rintro e w4 ⟨rfl, hb4⟩
      have HB4 := Lib.hid (andThen HB3.out hb4)
      clear hb4
      go_wp2_with (go_at_call 21; refine (num6_any _ _).mono ?_; rintro e w' ⟨rfl, rfl⟩)
      go_meet
      exact ⟨rfl, HB4.out⟩
    · have t0 : (E == 0) = false := by simp [h0]
      clear h0
      go_wp2_with (go_at_call 21; refine (num6_any _ _).mono ?_; rintro e w' ⟨rfl, rfl⟩)
      go_meet
      exact ⟨rfl, Below.refl _ _⟩
  case rest =>
    obtain ⟨rfl, hbc⟩ := hcut
    have OB3 := Lib.hid (own_below OB.out hbc)
    have HB3 := Lib.hid (andThen HB2.out hbc)
    clear hbc OA2 OB HB2 HB1
    rcases HE2.out with ⟨h0, hcb, n, hn, ho, hcl⟩ | ⟨h0, hn⟩
    · have t0 : (E2 != 0) = false := by simp [h0]
      have hgb : Lb[0]? = some n := by rw [hn]; rfl
      have hbeg : begB Lb 0 = true := beg_of (a := 0) hgb (opens_beg ho).1 (opens_beg ho).2
      have hend : endc (Lb.drop 0) 0 = some (l.length + 2) := by rw [List.drop_zero, hn]; exact endc_wrap ho hcl
      have hI := inside_ok Ab Lb xb 0 (l.length + 2) n wc hxb (seg_own OB3.out) hcb hbeg hgb ho hend
      have hin : innerL Lb 0 (l.length + 2) = l := by rw [hn]; exact inner_wrap n l
      rw [hin] at hI
      have HI := Lib.hid hI
      have HCB := Lib.hid (fun w3 (h : Below wc.heap.size wc w3) => check_any Ab Lb xb w3 hlb (Seg.belowW (seg_own OB3.out) h))
      rw [hcb] at HCB
      clear h0 hcb hn ho hcl hgb hbeg hend hI hin
      go_wp2_with (go_at_call 21; refine (num6_any _ _).mono ?_; rintro e w' ⟨rfl, rfl⟩)
      refine HI.out.mono ?_
      rintro e w4 ⟨vi, rfl, oi, hb4⟩
      rw [HL.out] at oi
      obtain ⟨Ai, xi, g0, _⟩ := val_own oi
      subst g0
      have OI := Lib.hid oi
      have HB4 := Lib.hid hb4
      clear oi hb4
      go_wp2_with fail
      refine (HCB.out _ HB4.out).mono ?_
      rintro e w5 ⟨rfl, hb5⟩
      have HB5 := Lib.hid hb5
      clear hb5
      go_wp2_with (go_at_call 21; refine (num6_any _ _).mono ?_; rintro e w' ⟨rfl, rfl⟩)
      have HB35 := Lib.hid (andThen HB3.out (andThen HB4.out HB5.out))
      have hsm := same_any Ai A l l xi c w5 (by rw [HL.out]; omega) (by rw [HL.out]; omega) (Seg.belowW (seg_own OI.out) HB5.out) (Seg.belowW HSG.out HB35.out)
      rw [show sameB l l = true from sameB_iff.2 rfl, HL.out] at hsm
      clear HCB HB4 HB5 HB3 HLN
      refine hsm.mono ?_
      rintro e w6 ⟨rfl, hb6⟩
      have HB6 := Lib.hid (andThen HB35.out hb6)
      clear hsm hb6
      go_wp2_with fail
      refine (live_any _).mono ?_
      rintro e w7 ⟨rfl, hb7⟩
      have HB7 := Lib.hid (andThen HB6.out hb7)
      clear hb7
      go_wp2_with fail
      go_ret
      exact ⟨rfl, HB7.out⟩
    · have t0 : (E2 != 0) = true := by simp [h0]
      subst hn
      clear h0
      simp only [List.length_nil] at *
      go_wp2_with (go_at_call 21; refine (num6_any _ _).mono ?_; rintro e w' ⟨rfl, rfl⟩)
      refine (live_any _).mono ?_
      rintro e w7 ⟨rfl, hb7⟩
      have HB7 := Lib.hid (andThen HB3.out hb7)
      clear hb7
      go_wp2_with fail
      go_ret
      exact ⟨rfl, HB7.out⟩
end Go.Proofs.Ytoboecenlangmaa.Pk
end

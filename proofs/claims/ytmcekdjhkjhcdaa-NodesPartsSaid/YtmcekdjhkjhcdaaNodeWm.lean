import Derived.Test.YtmcekdjhkjhcdaaNodeWr
import Derived.Test.YtmcekdjhkjhcdaaNodeGc
import Derived.Test.YtmcekdjhkjhcdaaNodeIn
import Derived.Test.YtmcekdjhkjhcdaaNodeS2
import Derived.Test.YtmcekdjhkjhcdaaNodeTr
import Derived.Handy
import Derived.RegionTactic
import Derived.BigRegion
import Derived.Test.YtmcekdjhkjhcdaaNodeAm
import Derived.Test.YtmcekdjhkjhcdaaNodeLm
import Derived.Test.YtmcekdjhkjhcdaaNodeKw
/- Merged texts. Conditions: those that each theorem names. -/
section
namespace Go.Proofs.Ytmcekdjhkjhcdaa.No
open Go.ChangeShapes Go.WideShapes Go.ChangeAt Go.RowKit
open Me Np
set_option linter.unusedVariables false
set_option linter.unusedSimpArgs false

attribute [local go_sem ↓] ldN_eq bldN_eq
set_option maxHeartbeats 2000000 in
set_option maxRecDepth 100000 in
theorem wrap_r (n : Nd) (A : Option Addr) (l : List Nd) (c : Nat) (w : World) (hr : right n = false) :
    Calls Try.prog 31 #[.agg (nc n), .slice A l.length c] w fun e w' => e = .returned (.tuple #[.slice none 0 0, .int .i64 1]) ∧ Below w.heap.size w w' := by
  have HR := Lib.hid hr
  clear hr
  generalize l.length = len at *
  go_enter Try.func31, Try.ntmps31
  go_wp2_with fail
  refine (kinds_any _).mono ?_
  rintro e w1 ⟨rfl, hq, hz1, hb1⟩
  have HQ := Lib.hid hq
  have HZ1 := Lib.hid hz1
  have hn1 : NodeAt w1 w.heap.size 0 n := NodeAt.below (Blk.node (Blk.new' rfl)) hb1 (by simp)
  have hl1 : Below w.heap.size w w1 := andThen (andAlloc (Below.refl _ _) _) hb1
  clear hq hz1 hb1
  have hld1 : ∀ o : Obj, (ldN ⟨w.heap.size, 0, none⟩).run Try.prog (w1.alloc o) = .ok (.agg (nc n)) (w1.alloc o) := fun o => run_ldN (hn1.alloc o)
  go_wp2_with (first
    | (refine wpList_store_row rfl 111 _ _ rfl w1.heap.size (ktab (w.heap.size + 1 + 1)) rfl rfl 111 Try.zeroCells111 (Blk.new' rfl) (by rw [ktab_size]; exact kinds_info) (by rw [ktab_size]; exact zero_size) (ktab_one _) ?_)
    | fail)
  have hq2 : (w1.alloc (.cells (ktab (w.heap.size + 1 + 1)) 111)).cell? ⟨w.heap.size + 1 + 1, 0, none⟩ = some (.func (.func 95) #[] #[]) := by
    have h1 := HQ.out
    have h2 := HZ1.out
    simp at h1 h2
    exact (World.cell?_alloc_past (w := w1) _ _ _ (by omega)).trans h1
  have hw2 := andAlloc hl1 (.cells (ktab (w.heap.size + 1 + 1)) 111)
  have hn2 := hn1.alloc (.cells (ktab (w.heap.size + 1 + 1)) 111)
  refine (right_any n w1.heap.size (w.heap.size + 1 + 1) _ (Blk.new' rfl) hq2).mono ?_
  rintro e w2 ⟨rfl, hb2⟩
  have hl2 := andThen hw2 hb2
  have hn2' := hn2.below hb2 hn2.lt
  have hc2 : w2.cell? ⟨w.heap.size, 0, none⟩ = some (.int .i64 n.kind) := hn2' 0 _ rfl
  have hz2 := hn2'.lt
  rw [HR.out]
  clear hq2 hw2 hn2 hb2 hn1 hl1 HQ HZ1 hld1
  go_wp2_with fail
  go_ret2
  exact ⟨rfl, hl2⟩
set_option maxHeartbeats 2000000 in
set_option maxRecDepth 100000 in
theorem wrap_o (n : Nd) (A : Option Addr) (l : List Nd) (c : Nat) (w : World) (hr : right n = true) (ho : opensB n = false) :
    Calls Try.prog 31 #[.agg (nc n), .slice A l.length c] w fun e w' => e = .returned (.tuple #[.slice none 0 0, .int .i64 1]) ∧ Below w.heap.size w w' := by
  have HR := Lib.hid hr
  have HO := Lib.hid ho
  clear hr ho
  generalize l.length = len at *
  go_enter Try.func31, Try.ntmps31
  go_wp2_with fail
  refine (kinds_any _).mono ?_
  rintro e w1 ⟨rfl, hq, hz1, hb1⟩
  have HQ := Lib.hid hq
  have HZ1 := Lib.hid hz1
  have hn1 : NodeAt w1 w.heap.size 0 n := NodeAt.below (Blk.node (Blk.new' rfl)) hb1 (by simp)
  have hl1 : Below w.heap.size w w1 := andThen (andAlloc (Below.refl _ _) _) hb1
  clear hq hz1 hb1
  have hld1 : ∀ o : Obj, (ldN ⟨w.heap.size, 0, none⟩).run Try.prog (w1.alloc o) = .ok (.agg (nc n)) (w1.alloc o) := fun o => run_ldN (hn1.alloc o)
  go_wp2_with (first
    | (refine wpList_store_row rfl 111 _ _ rfl w1.heap.size (ktab (w.heap.size + 1 + 1)) rfl rfl 111 Try.zeroCells111 (Blk.new' rfl) (by rw [ktab_size]; exact kinds_info) (by rw [ktab_size]; exact zero_size) (ktab_one _) ?_)
    | fail)
  have hq2 : (w1.alloc (.cells (ktab (w.heap.size + 1 + 1)) 111)).cell? ⟨w.heap.size + 1 + 1, 0, none⟩ = some (.func (.func 95) #[] #[]) := by
    have h1 := HQ.out
    have h2 := HZ1.out
    simp at h1 h2
    exact (World.cell?_alloc_past (w := w1) _ _ _ (by omega)).trans h1
  have hw2 := andAlloc hl1 (.cells (ktab (w.heap.size + 1 + 1)) 111)
  have hn2 := hn1.alloc (.cells (ktab (w.heap.size + 1 + 1)) 111)
  refine (right_any n w1.heap.size (w.heap.size + 1 + 1) _ (Blk.new' rfl) hq2).mono ?_
  rintro e w2 ⟨rfl, hb2⟩
  have hl2 := andThen hw2 hb2
  have hn2' := hn2.below hb2 hn2.lt
  have hc2 : w2.cell? ⟨w.heap.size, 0, none⟩ = some (.int .i64 n.kind) := hn2' 0 _ rfl
  have hz2 := hn2'.lt
  rw [HR.out]
  have hld2 : (ldN ⟨w.heap.size, 0, none⟩).run Try.prog w2 = .ok (.agg (nc n)) w2 := run_ldN hn2'
  have hld3 : ∀ o : Obj, (ldN ⟨w.heap.size, 0, none⟩).run Try.prog (w2.alloc o) = .ok (.agg (nc n)) (w2.alloc o) := fun o => run_ldN (hn2'.alloc o)
  clear hq2 hw2 hn2 hb2 hn1 hl1 HQ HZ1 hld1
  go_wp2_with (first
    | (go_at_call 55; (with_reducible refine (opens_any _ _).mono ?_); rintro e w' ⟨rfl, rfl⟩; simp only [HO.out]))
  go_ret2
  exact ⟨rfl, andAlloc hl2 _⟩
set_option maxHeartbeats 2000000 in
set_option maxRecDepth 100000 in
theorem wrap_d (n : Nd) (A : Option Addr) (l : List Nd) (c : Nat) (w : World) (hr : right n = true) (ho : opensB n = true) (h10 : n.kind = 10) :
    Calls Try.prog 31 #[.agg (nc n), .slice A l.length c] w fun e w' => e = .returned (.tuple #[.slice none 0 0, .int .i64 1]) ∧ Below w.heap.size w w' := by
  have HR := Lib.hid hr
  have HO := Lib.hid ho
  have e10 : (n.kind == 10) = true := by simp [h10]
  clear hr ho h10
  generalize l.length = len at *
  go_enter Try.func31, Try.ntmps31
  go_wp2_with fail
  refine (kinds_any _).mono ?_
  rintro e w1 ⟨rfl, hq, hz1, hb1⟩
  have HQ := Lib.hid hq
  have HZ1 := Lib.hid hz1
  have hn1 : NodeAt w1 w.heap.size 0 n := NodeAt.below (Blk.node (Blk.new' rfl)) hb1 (by simp)
  have hl1 : Below w.heap.size w w1 := andThen (andAlloc (Below.refl _ _) _) hb1
  clear hq hz1 hb1
  have hld1 : ∀ o : Obj, (ldN ⟨w.heap.size, 0, none⟩).run Try.prog (w1.alloc o) = .ok (.agg (nc n)) (w1.alloc o) := fun o => run_ldN (hn1.alloc o)
  go_wp2_with (first
    | (refine wpList_store_row rfl 111 _ _ rfl w1.heap.size (ktab (w.heap.size + 1 + 1)) rfl rfl 111 Try.zeroCells111 (Blk.new' rfl) (by rw [ktab_size]; exact kinds_info) (by rw [ktab_size]; exact zero_size) (ktab_one _) ?_)
    | fail)
  have hq2 : (w1.alloc (.cells (ktab (w.heap.size + 1 + 1)) 111)).cell? ⟨w.heap.size + 1 + 1, 0, none⟩ = some (.func (.func 95) #[] #[]) := by
    have h1 := HQ.out
    have h2 := HZ1.out
    simp at h1 h2
    exact (World.cell?_alloc_past (w := w1) _ _ _ (by omega)).trans h1
  have hw2 := andAlloc hl1 (.cells (ktab (w.heap.size + 1 + 1)) 111)
  have hn2 := hn1.alloc (.cells (ktab (w.heap.size + 1 + 1)) 111)
  refine (right_any n w1.heap.size (w.heap.size + 1 + 1) _ (Blk.new' rfl) hq2).mono ?_
  rintro e w2 ⟨rfl, hb2⟩
  have hl2 := andThen hw2 hb2
  have hn2' := hn2.below hb2 hn2.lt
  have hc2 : w2.cell? ⟨w.heap.size, 0, none⟩ = some (.int .i64 n.kind) := hn2' 0 _ rfl
  have hz2 := hn2'.lt
  rw [HR.out]
  have hld2 : (ldN ⟨w.heap.size, 0, none⟩).run Try.prog w2 = .ok (.agg (nc n)) w2 := run_ldN hn2'
  have hld3 : ∀ o : Obj, (ldN ⟨w.heap.size, 0, none⟩).run Try.prog (w2.alloc o) = .ok (.agg (nc n)) (w2.alloc o) := fun o => run_ldN (hn2'.alloc o)
  clear hq2 hw2 hn2 hb2 hn1 hl1 HQ HZ1 hld1
  go_wp2_with (first
    | (go_at_call 55; (with_reducible refine (opens_any _ _).mono ?_); rintro e w' ⟨rfl, rfl⟩; simp only [HO.out]))
  go_ret2
  exact ⟨rfl, andAlloc hl2 _⟩
set_option maxHeartbeats 2000000 in
set_option maxRecDepth 100000 in
theorem wrap_c (n : Nd) (A : Option Addr) (l : List Nd) (c : Nat) (w : World) (hl : l.length ≤ 9223372036854775806) (hseg : Seg w w.heap.size A (l.flatMap ncs)) (hr : right n = true) (ho : opensB n = true) (h10 : ¬ n.kind = 10) (hc : ¬ chk l = 0) :
    Calls Try.prog 31 #[.agg (nc n), .slice A l.length c] w fun e w' => e = .returned (.tuple #[.slice none 0 0, .int .i64 (chk l)]) ∧ Below w.heap.size w w' := by
  have e10 : (n.kind == 10) = false := by simp [h10]
  have HO := Lib.hid ho
  have HR := Lib.hid hr
  have HC := Lib.hid fun w1 (h : Below w.heap.size w w1) => check_any A l c w1 (by omega) (Seg.belowW hseg h)
  have e0 : (chk l != 0) = true := by simp [hc]
  clear hc ho hr hseg h10
  generalize chk l = q0 at *
  generalize l.length = len at *
  go_enter Try.func31, Try.ntmps31
  go_wp2_with fail
  refine (kinds_any _).mono ?_
  rintro e w1 ⟨rfl, hq, hz1, hb1⟩
  have HQ := Lib.hid hq
  have HZ1 := Lib.hid hz1
  have hn1 : NodeAt w1 w.heap.size 0 n := NodeAt.below (Blk.node (Blk.new' rfl)) hb1 (by simp)
  have hl1 : Below w.heap.size w w1 := andThen (andAlloc (Below.refl _ _) _) hb1
  clear hq hz1 hb1
  have hld1 : ∀ o : Obj, (ldN ⟨w.heap.size, 0, none⟩).run Try.prog (w1.alloc o) = .ok (.agg (nc n)) (w1.alloc o) := fun o => run_ldN (hn1.alloc o)
  go_wp2_with (first
    | (refine wpList_store_row rfl 111 _ _ rfl w1.heap.size (ktab (w.heap.size + 1 + 1)) rfl rfl 111 Try.zeroCells111 (Blk.new' rfl) (by rw [ktab_size]; exact kinds_info) (by rw [ktab_size]; exact zero_size) (ktab_one _) ?_)
    | fail)
  have hq2 : (w1.alloc (.cells (ktab (w.heap.size + 1 + 1)) 111)).cell? ⟨w.heap.size + 1 + 1, 0, none⟩ = some (.func (.func 95) #[] #[]) := by
    have h1 := HQ.out
    have h2 := HZ1.out
    simp at h1 h2
    exact (World.cell?_alloc_past (w := w1) _ _ _ (by omega)).trans h1
  have hw2 := andAlloc hl1 (.cells (ktab (w.heap.size + 1 + 1)) 111)
  have hn2 := hn1.alloc (.cells (ktab (w.heap.size + 1 + 1)) 111)
  refine (right_any n w1.heap.size (w.heap.size + 1 + 1) _ (Blk.new' rfl) hq2).mono ?_
  rintro e w2 ⟨rfl, hb2⟩
  have hl2 := andThen hw2 hb2
  have hn2' := hn2.below hb2 hn2.lt
  have hc2 : w2.cell? ⟨w.heap.size, 0, none⟩ = some (.int .i64 n.kind) := hn2' 0 _ rfl
  have hz2 := hn2'.lt
  rw [HR.out]
  have hld2 : (ldN ⟨w.heap.size, 0, none⟩).run Try.prog w2 = .ok (.agg (nc n)) w2 := run_ldN hn2'
  have hld3 : ∀ o : Obj, (ldN ⟨w.heap.size, 0, none⟩).run Try.prog (w2.alloc o) = .ok (.agg (nc n)) (w2.alloc o) := fun o => run_ldN (hn2'.alloc o)
  clear hq2 hw2 hn2 hb2 hn1 hl1 HQ HZ1 hld1
  go_wp2_with (first
    | (go_at_call 55; (with_reducible refine (opens_any _ _).mono ?_); rintro e w' ⟨rfl, rfl⟩; simp only [HO.out]))
  have hl3 := andAlloc hl2 (.cells (nc n) 31)
  have hn3 := hn2'.alloc (.cells (nc n) 31)
  refine (HC.out _ hl3).mono ?_
  rintro e w3 ⟨rfl, hb3⟩
  have HL3 := Lib.hid (andThen hl3 hb3)
  clear hl2 hn2' hc2 hz2 hld2 hld3 hl3 hn3 hb3 HC
  go_wp2_with fail
  go_ret2
  exact ⟨rfl, HL3.out⟩
set_option maxHeartbeats 2000000 in
set_option maxRecDepth 100000 in
theorem wrap_w (n : Nd) (A : Option Addr) (l : List Nd) (c : Nat) (w : World) (hsrc : Src w A c l) (hr : right n = true) (ho : opensB n = true) (h10 : ¬ n.kind = 10) (hc : chk l = 0) (hw : ¬ chk (wrapL n l) = 0) :
    Calls Try.prog 31 #[.agg (nc n), .slice A l.length c] w fun e w' => e = .returned (.tuple #[.slice none 0 0, .int .i64 (chk (wrapL n l))]) ∧ Below w.heap.size w w' := by
  have hl := (chk_run hc).1
  have e10 : (n.kind == 10) = false := by simp [h10]
  have HO := Lib.hid ho
  have HR := Lib.hid hr
  have HC := Lib.hid fun w1 (h : Below w.heap.size w w1) => check_any A l c w1 (by omega) (Src.below hsrc h).seg
  have HE := Lib.hid hc
  have HS := Lib.hid hsrc
  have e0 : (chk (wrapL n l) != 0) = true := by simp [hw]
  generalize hqw : chk (wrapL n l) = q0 at *
  have HQW := Lib.hid hqw
  rw [HE.out] at HC
  clear hc ho hr hsrc hw h10 hqw
  go_enter Try.func31, Try.ntmps31
  go_wp2_with fail
  refine (kinds_any _).mono ?_
  rintro e w1 ⟨rfl, hq, hz1, hb1⟩
  have HQ := Lib.hid hq
  have HZ1 := Lib.hid hz1
  have hn1 : NodeAt w1 w.heap.size 0 n := NodeAt.below (Blk.node (Blk.new' rfl)) hb1 (by simp)
  have hl1 : Below w.heap.size w w1 := andThen (andAlloc (Below.refl _ _) _) hb1
  clear hq hz1 hb1
  have hld1 : ∀ o : Obj, (ldN ⟨w.heap.size, 0, none⟩).run Try.prog (w1.alloc o) = .ok (.agg (nc n)) (w1.alloc o) := fun o => run_ldN (hn1.alloc o)
  go_wp2_with (first
    | (refine wpList_store_row rfl 111 _ _ rfl w1.heap.size (ktab (w.heap.size + 1 + 1)) rfl rfl 111 Try.zeroCells111 (Blk.new' rfl) (by rw [ktab_size]; exact kinds_info) (by rw [ktab_size]; exact zero_size) (ktab_one _) ?_)
    | fail)
  have hq2 : (w1.alloc (.cells (ktab (w.heap.size + 1 + 1)) 111)).cell? ⟨w.heap.size + 1 + 1, 0, none⟩ = some (.func (.func 95) #[] #[]) := by
    have h1 := HQ.out
    have h2 := HZ1.out
    simp at h1 h2
    exact (World.cell?_alloc_past (w := w1) _ _ _ (by omega)).trans h1
  have hw2 := andAlloc hl1 (.cells (ktab (w.heap.size + 1 + 1)) 111)
  have hn2 := hn1.alloc (.cells (ktab (w.heap.size + 1 + 1)) 111)
  refine (right_any n w1.heap.size (w.heap.size + 1 + 1) _ (Blk.new' rfl) hq2).mono ?_
  rintro e w2 ⟨rfl, hb2⟩
  have hl2 := andThen hw2 hb2
  have hn2' := hn2.below hb2 hn2.lt
  have hc2 : w2.cell? ⟨w.heap.size, 0, none⟩ = some (.int .i64 n.kind) := hn2' 0 _ rfl
  have hz2 := hn2'.lt
  rw [HR.out]
  have hld2 : (ldN ⟨w.heap.size, 0, none⟩).run Try.prog w2 = .ok (.agg (nc n)) w2 := run_ldN hn2'
  have hld3 : ∀ o : Obj, (ldN ⟨w.heap.size, 0, none⟩).run Try.prog (w2.alloc o) = .ok (.agg (nc n)) (w2.alloc o) := fun o => run_ldN (hn2'.alloc o)
  clear hq2 hw2 hn2 hb2 hn1 hl1 HQ HZ1 hld1
  go_wp2_with (first
    | (go_at_call 55; (with_reducible refine (opens_any _ _).mono ?_); rintro e w' ⟨rfl, rfl⟩; simp only [HO.out]))
  have hl3 := andAlloc hl2 (.cells (nc n) 31)
  have hn3 := hn2'.alloc (.cells (nc n) 31)
  refine (HC.out _ hl3).mono ?_
  rintro e w3 ⟨rfl, hb3⟩
  have HL3 := Lib.hid (andThen hl3 hb3)
  have hn4 := hn3.below hb3 hn3.lt
  have hld4 : (ldN ⟨w.heap.size, 0, none⟩).run Try.prog w3 = .ok (.agg (nc n)) w3 := run_ldN hn4
  have hb6 := run_bldN 6
  have HSR := Lib.hid (fun (W : World) (h : Below w.heap.size w W) => Src.below HS.out h)
  have HO1 := Lib.hid (own_one w3 n)
  have HLA := Lib.hid (andAlloc HL3.out (.cells (nc n) 31))
  clear hl2 hn2' hc2 hz2 hld2 hld3 hl3 hn3 hb3 hn4 HC
  go_wp2_with (first
    | (refine wpList_ex (o := ⟨some 30, _, _, _, _, _⟩) (v := .slice (some ⟨w3.heap.size, 0, none⟩) 1 1) (w' := w3.alloc (.cells (nc n) 31)) rfl (by kernel_rfl) ?_)
    | (at_builtin; refine wpList_append_nodes rfl (.tmp 30) (.tmp 31) rfl w3.heap.size ?_ _ 1 _ rfl HO1.out A c l rfl (HSR.out _ HLA.out) ?_ ?_; simp; omega; intro v1 W1 hown1 hg1; have hlw1 : Below w.heap.size w W1 := below_grown (Nat.le_refl _) HLA.out hg1 (fun g hg => by have hh := HL3.out.size; have hg' : some w3.heap.size = some g := hg; injection hg' with hg'; omega))
    | (refine wpList_build_eq (o := ⟨some 34, _, _, _, _, _⟩) rfl _ _ rfl (nc (nz 6)) (by kernel_rfl) ?_)
    | (refine wpList_ex (o := ⟨some 35, _, _, _, _, _⟩) (v := .slice (some ⟨W1.heap.size, 0, none⟩) 1 1) (w' := W1.alloc (.cells (nc (nz 6)) 31)) rfl (by kernel_rfl) ?_)
    | (at_builtin; refine wpList_push rfl (.tmp 33) (.tmp 35) 22 rfl w3.heap.size 31 _ 19 160 Try.underlying22 node_row rfl (by decide) (by decide) _ _ _ rfl hown1 ?_ _ rfl rfl rfl rfl ?_ ?_; (have hh := hg1.size; simp at hh; omega); omega; intro v2 W2 hown2 hg2 hnn2)
    | fail)
  have hg2' : (W1.alloc (.cells (nc (nz 6)) 31)).grownBy W2 v1.ownBlock := hg2
  clear hg2 hnn2
  have hlw2 : Below w.heap.size w W2 := below_grown (Nat.le_refl _) (andAlloc hlw1 _) hg2' (fun g hg => by
    have h1 := hown1.lt g hg
    have h2 := HL3.out.size
    omega)
  have hfl : (wrapL n l).flatMap ncs = ncs n ++ l.flatMap ncs ++ (nc (nz 6)).toList := by
    show _ = ncs n ++ l.flatMap ncs ++ ncs (nz 6)
    simp [wrapL, List.flatMap_append]
  have hln : 1 + l.length + 1 = (wrapL n l).length := by
    simp [wrapL]
    omega
  rw [← hfl, hln] at hown2
  have HOW := Lib.hid (own_base hown2 (show w.heap.size ≤ w3.heap.size from HL3.out.size))
  obtain ⟨A2, c2, rfl, hc2, hm2, hs2⟩ := Seg.of_own hown2
  have hch := check_any A2 (wrapL n l) c2 W2 (by rw [← hln]; omega) hs2
  rw [HQW.out] at hch
  have HLW2 := Lib.hid hlw2
  clear hg2' hown2 hown1 hg1 hlw1 hlw2 hfl hs2 hm2 HSR HO1 HLA hld4 hb6
  generalize hwl : (wrapL n l).length = wl at *
  have HWL := Lib.hid hwl
  clear hwl
  refine hch.mono ?_
  rintro e w5 ⟨rfl, hb5⟩
  have HLF := Lib.hid (andThen HLW2.out hb5)
  clear hch hb5 HOW HLW2
  go_wp2_with fail
  go_ret2
  exact ⟨rfl, HLF.out⟩
end Go.Proofs.Ytmcekdjhkjhcdaa.No
end
section
namespace Go.Proofs.Ytmcekdjhkjhcdaa.No
open Go.ChangeShapes Go.WideShapes Go.ChangeAt Go.RowKit
open Me Np
set_option linter.unusedVariables false
set_option linter.unusedSimpArgs false

attribute [local go_sem ↓] ldN_eq bldN_eq
set_option maxHeartbeats 2000000 in
set_option maxRecDepth 100000 in
theorem rwrap_r (n : Nd) (A : Option Addr) (l : List Nd) (c : Nat) (w : World) (hr : right n = false) :
    Calls Try.prog 37 #[.agg (nc n), .slice A l.length c] w fun e w' => e = .returned (.tuple #[.slice none 0 0, .int .i64 1]) ∧ Below w.heap.size w w' := by
  have HR := Lib.hid hr
  clear hr
  generalize l.length = len at *
  go_enter Try.func37, Try.ntmps37
  have hn1 : NodeAt (w.alloc (.cells (nc n) 31)) w.heap.size 0 n := Blk.node (Blk.new' rfl)
  have hld1 := run_ldN hn1
  go_wp2_with fail
  refine (good_any n _).mono ?_
  rintro e w2 ⟨rfl, hb2⟩
  have hl2 : Below w.heap.size w w2 := andThen (andAlloc (Below.refl _ _) _) hb2
  have hn2' := hn1.below hb2 hn1.lt
  have hc2 : w2.cell? ⟨w.heap.size, 0, none⟩ = some (.int .i64 n.kind) := hn2' 0 _ rfl
  have hz2 := hn2'.lt
  rw [HR.out]
  clear hb2 hn1 hld1
  go_wp2_with fail
  go_ret2
  exact ⟨rfl, hl2⟩
set_option maxHeartbeats 2000000 in
set_option maxRecDepth 100000 in
theorem rwrap_o (n : Nd) (A : Option Addr) (l : List Nd) (c : Nat) (w : World) (hr : right n = true) (ho : opensB n = false) :
    Calls Try.prog 37 #[.agg (nc n), .slice A l.length c] w fun e w' => e = .returned (.tuple #[.slice none 0 0, .int .i64 1]) ∧ Below w.heap.size w w' := by
  have HR := Lib.hid hr
  have HO := Lib.hid ho
  clear hr ho
  generalize l.length = len at *
  go_enter Try.func37, Try.ntmps37
  have hn1 : NodeAt (w.alloc (.cells (nc n) 31)) w.heap.size 0 n := Blk.node (Blk.new' rfl)
  have hld1 := run_ldN hn1
  go_wp2_with fail
  refine (good_any n _).mono ?_
  rintro e w2 ⟨rfl, hb2⟩
  have hl2 : Below w.heap.size w w2 := andThen (andAlloc (Below.refl _ _) _) hb2
  have hn2' := hn1.below hb2 hn1.lt
  have hc2 : w2.cell? ⟨w.heap.size, 0, none⟩ = some (.int .i64 n.kind) := hn2' 0 _ rfl
  have hz2 := hn2'.lt
  rw [HR.out]
  have hld2 : (ldN ⟨w.heap.size, 0, none⟩).run Try.prog w2 = .ok (.agg (nc n)) w2 := run_ldN hn2'
  have hld3 : ∀ o : Obj, (ldN ⟨w.heap.size, 0, none⟩).run Try.prog (w2.alloc o) = .ok (.agg (nc n)) (w2.alloc o) := fun o => run_ldN (hn2'.alloc o)
  clear hb2 hn1 hld1
  go_wp2_with (first
    | (go_at_call 18; (with_reducible refine (ropens_any _ _).mono ?_); rintro e w' ⟨rfl, rfl⟩; simp only [HO.out]))
  go_ret2
  exact ⟨rfl, andAlloc hl2 _⟩
set_option maxHeartbeats 2000000 in
set_option maxRecDepth 100000 in
theorem rwrap_d (n : Nd) (A : Option Addr) (l : List Nd) (c : Nat) (w : World) (hr : right n = true) (ho : opensB n = true) (h10 : n.kind = 10) :
    Calls Try.prog 37 #[.agg (nc n), .slice A l.length c] w fun e w' => e = .returned (.tuple #[.slice none 0 0, .int .i64 1]) ∧ Below w.heap.size w w' := by
  have HR := Lib.hid hr
  have HO := Lib.hid ho
  have e10 : (n.kind == 10) = true := by simp [h10]
  clear hr ho h10
  generalize l.length = len at *
  go_enter Try.func37, Try.ntmps37
  have hn1 : NodeAt (w.alloc (.cells (nc n) 31)) w.heap.size 0 n := Blk.node (Blk.new' rfl)
  have hld1 := run_ldN hn1
  go_wp2_with fail
  refine (good_any n _).mono ?_
  rintro e w2 ⟨rfl, hb2⟩
  have hl2 : Below w.heap.size w w2 := andThen (andAlloc (Below.refl _ _) _) hb2
  have hn2' := hn1.below hb2 hn1.lt
  have hc2 : w2.cell? ⟨w.heap.size, 0, none⟩ = some (.int .i64 n.kind) := hn2' 0 _ rfl
  have hz2 := hn2'.lt
  rw [HR.out]
  have hld2 : (ldN ⟨w.heap.size, 0, none⟩).run Try.prog w2 = .ok (.agg (nc n)) w2 := run_ldN hn2'
  have hld3 : ∀ o : Obj, (ldN ⟨w.heap.size, 0, none⟩).run Try.prog (w2.alloc o) = .ok (.agg (nc n)) (w2.alloc o) := fun o => run_ldN (hn2'.alloc o)
  clear hb2 hn1 hld1
  go_wp2_with (first
    | (go_at_call 18; (with_reducible refine (ropens_any _ _).mono ?_); rintro e w' ⟨rfl, rfl⟩; simp only [HO.out]))
  go_ret2
  exact ⟨rfl, andAlloc hl2 _⟩
set_option maxHeartbeats 2000000 in
set_option maxRecDepth 100000 in
theorem rwrap_c (n : Nd) (A : Option Addr) (l : List Nd) (c : Nat) (w : World) (hl : l.length ≤ 9223372036854775806) (hseg : Seg w w.heap.size A (l.flatMap ncs)) (hr : right n = true) (ho : opensB n = true) (h10 : ¬ n.kind = 10) (hc : ¬ chk l = 0) :
    Calls Try.prog 37 #[.agg (nc n), .slice A l.length c] w fun e w' => e = .returned (.tuple #[.slice none 0 0, .int .i64 (chk l)]) ∧ Below w.heap.size w w' := by
  have e10 : (n.kind == 10) = false := by simp [h10]
  have HO := Lib.hid ho
  have HR := Lib.hid hr
  have HC := Lib.hid fun w1 (h : Below w.heap.size w w1) => rcheckl_any A l c w1 (by omega) (Seg.belowW hseg h)
  have e0 : (chk l != 0) = true := by simp [hc]
  clear hc ho hr hseg h10
  generalize chk l = q0 at *
  generalize l.length = len at *
  go_enter Try.func37, Try.ntmps37
  have hn1 : NodeAt (w.alloc (.cells (nc n) 31)) w.heap.size 0 n := Blk.node (Blk.new' rfl)
  have hld1 := run_ldN hn1
  go_wp2_with fail
  refine (good_any n _).mono ?_
  rintro e w2 ⟨rfl, hb2⟩
  have hl2 : Below w.heap.size w w2 := andThen (andAlloc (Below.refl _ _) _) hb2
  have hn2' := hn1.below hb2 hn1.lt
  have hc2 : w2.cell? ⟨w.heap.size, 0, none⟩ = some (.int .i64 n.kind) := hn2' 0 _ rfl
  have hz2 := hn2'.lt
  rw [HR.out]
  have hld2 : (ldN ⟨w.heap.size, 0, none⟩).run Try.prog w2 = .ok (.agg (nc n)) w2 := run_ldN hn2'
  have hld3 : ∀ o : Obj, (ldN ⟨w.heap.size, 0, none⟩).run Try.prog (w2.alloc o) = .ok (.agg (nc n)) (w2.alloc o) := fun o => run_ldN (hn2'.alloc o)
  clear hb2 hn1 hld1
  go_wp2_with (first
    | (go_at_call 18; (with_reducible refine (ropens_any _ _).mono ?_); rintro e w' ⟨rfl, rfl⟩; simp only [HO.out]))
  have hl3 := andAlloc hl2 (.cells (nc n) 31)
  have hn3 := hn2'.alloc (.cells (nc n) 31)
  refine (HC.out _ hl3).mono ?_
  rintro e w3 ⟨rfl, hb3⟩
  have HL3 := Lib.hid (andThen hl3 hb3)
  clear hl2 hn2' hc2 hz2 hld2 hld3 hl3 hn3 hb3 HC
  go_wp2_with fail
  go_ret2
  exact ⟨rfl, HL3.out⟩
set_option maxHeartbeats 2000000 in
set_option maxRecDepth 100000 in
theorem rwrap_w (n : Nd) (A : Option Addr) (l : List Nd) (c : Nat) (w : World) (hseg0 : Seg w w.heap.size A (l.flatMap ncs)) (hA : A = none → c = 0) (hr : right n = true) (ho : opensB n = true) (h10 : ¬ n.kind = 10) (hc : chk l = 0) (hw : ¬ chk (wrapL n l) = 0) :
    Calls Try.prog 37 #[.agg (nc n), .slice A l.length c] w fun e w' => e = .returned (.tuple #[.slice none 0 0, .int .i64 (chk (wrapL n l))]) ∧ Below w.heap.size w w' := by
  have hl := (chk_run hc).1
  have e10 : (n.kind == 10) = false := by simp [h10]
  have HO := Lib.hid ho
  have HR := Lib.hid hr
  have HC := Lib.hid fun w1 (h : Below w.heap.size w w1) => rcheckl_any A l c w1 (by omega) (Seg.belowW hseg0 h)
  have HE := Lib.hid hc
  have HS := Lib.hid hseg0
  have HA := Lib.hid hA
  have e0 : (chk (wrapL n l) != 0) = true := by simp [hw]
  generalize hqw : chk (wrapL n l) = q0 at *
  have HQW := Lib.hid hqw
  rw [HE.out] at HC
  clear hc ho hr hseg0 hA hw h10 hqw
  go_enter Try.func37, Try.ntmps37
  have hn1 : NodeAt (w.alloc (.cells (nc n) 31)) w.heap.size 0 n := Blk.node (Blk.new' rfl)
  have hld1 := run_ldN hn1
  go_wp2_with fail
  refine (good_any n _).mono ?_
  rintro e w2 ⟨rfl, hb2⟩
  have hl2 : Below w.heap.size w w2 := andThen (andAlloc (Below.refl _ _) _) hb2
  have hn2' := hn1.below hb2 hn1.lt
  have hc2 : w2.cell? ⟨w.heap.size, 0, none⟩ = some (.int .i64 n.kind) := hn2' 0 _ rfl
  have hz2 := hn2'.lt
  rw [HR.out]
  have hld2 : (ldN ⟨w.heap.size, 0, none⟩).run Try.prog w2 = .ok (.agg (nc n)) w2 := run_ldN hn2'
  have hld3 : ∀ o : Obj, (ldN ⟨w.heap.size, 0, none⟩).run Try.prog (w2.alloc o) = .ok (.agg (nc n)) (w2.alloc o) := fun o => run_ldN (hn2'.alloc o)
  clear hb2 hn1 hld1
  go_wp2_with (first
    | (go_at_call 18; (with_reducible refine (ropens_any _ _).mono ?_); rintro e w' ⟨rfl, rfl⟩; simp only [HO.out]))
  have hl3 := andAlloc hl2 (.cells (nc n) 31)
  have hn3 := hn2'.alloc (.cells (nc n) 31)
  refine (HC.out _ hl3).mono ?_
  rintro e w3 ⟨rfl, hb3⟩
  have HL3 := Lib.hid (andThen hl3 hb3)
  have hn4 := hn3.below hb3 hn3.lt
  have hld4 : (ldN ⟨w.heap.size, 0, none⟩).run Try.prog w3 = .ok (.agg (nc n)) w3 := run_ldN hn4
  have hb6 := run_bldN 6
  have HSR := Lib.hid (fun (W : World) (h : Below w.heap.size w W) => Seg.below HS.out h)
  have HO1 := Lib.hid (own_one w3 n)
  have HLA := Lib.hid (andAlloc HL3.out (.cells (nc n) 31))
  clear hl2 hn2' hc2 hz2 hld2 hld3 hl3 hn3 hb3 hn4 HC
  go_wp2_with (first
    | (refine wpList_ex (o := ⟨some 27, _, _, _, _, _⟩) (v := .slice (some ⟨w3.heap.size, 0, none⟩) 1 1) (w' := w3.alloc (.cells (nc n) 31)) rfl (by kernel_rfl) ?_)
    | (at_builtin; refine wpList_append_seg rfl (.tmp 27) (.tmp 28) rfl w3.heap.size ?_ _ 1 _ rfl HO1.out _ A c _ l rfl rfl (HSR.out _ HLA.out) HA.out ?_ ?_; simp; omega; intro v1 W1 hown1 hg1; have hlw1 : Below w.heap.size w W1 := below_grown (Nat.le_refl _) HLA.out hg1 (fun g hg => by have hh := HL3.out.size; have hg' : some w3.heap.size = some g := hg; injection hg' with hg'; omega))
    | (refine wpList_build_eq (o := ⟨some 31, _, _, _, _, _⟩) rfl _ _ rfl (nc (nz 6)) (by kernel_rfl) ?_)
    | (refine wpList_ex (o := ⟨some 32, _, _, _, _, _⟩) (v := .slice (some ⟨W1.heap.size, 0, none⟩) 1 1) (w' := W1.alloc (.cells (nc (nz 6)) 31)) rfl (by kernel_rfl) ?_)
    | (at_builtin; refine wpList_push rfl (.tmp 30) (.tmp 32) 22 rfl w3.heap.size 31 _ 19 160 Try.underlying22 node_row rfl (by decide) (by decide) _ _ _ rfl hown1 ?_ _ rfl rfl rfl rfl ?_ ?_; (have hh := hg1.size; simp at hh; omega); omega; intro v2 W2 hown2 hg2 hnn2)
    | fail)
  have hg2' : (W1.alloc (.cells (nc (nz 6)) 31)).grownBy W2 v1.ownBlock := hg2
  clear hg2 hnn2
  have hlw2 : Below w.heap.size w W2 := below_grown (Nat.le_refl _) (andAlloc hlw1 _) hg2' (fun g hg => by
    have h1 := hown1.lt g hg
    have h2 := HL3.out.size
    omega)
  have hfl : (wrapL n l).flatMap ncs = ncs n ++ l.flatMap ncs ++ (nc (nz 6)).toList := by
    show _ = ncs n ++ l.flatMap ncs ++ ncs (nz 6)
    simp [wrapL, List.flatMap_append]
  have hln : 1 + l.length + 1 = (wrapL n l).length := by
    simp [wrapL]
    omega
  rw [← hfl, hln] at hown2
  have HOW := Lib.hid (own_base hown2 (show w.heap.size ≤ w3.heap.size from HL3.out.size))
  obtain ⟨A2, c2, rfl, hc2, hm2, hs2⟩ := Seg.of_own hown2
  have hch := rcheckl_any A2 (wrapL n l) c2 W2 (by rw [← hln]; omega) hs2
  rw [HQW.out] at hch
  have HLW2 := Lib.hid hlw2
  clear hg2' hown2 hown1 hg1 hlw1 hlw2 hfl hs2 hm2 HSR HO1 HLA hld4 hb6
  generalize hwl : (wrapL n l).length = wl at *
  have HWL := Lib.hid hwl
  clear hwl
  refine hch.mono ?_
  rintro e w5 ⟨rfl, hb5⟩
  have HLF := Lib.hid (andThen HLW2.out hb5)
  clear hch hb5 HOW HLW2
  go_wp2_with fail
  go_ret2
  exact ⟨rfl, HLF.out⟩
set_option maxHeartbeats 2000000 in
set_option maxRecDepth 100000 in
theorem rwrap_ok (n : Nd) (A : Option Addr) (l : List Nd) (c : Nat) (w : World) (hseg0 : Seg w w.heap.size A (l.flatMap ncs)) (hA : A = none → c = 0) (hr : right n = true) (ho : opensB n = true) (h10 : ¬ n.kind = 10) (hc : chk l = 0) (hw : chk (wrapL n l) = 0) :
    Calls Try.prog 37 #[.agg (nc n), .slice A l.length c] w (MadeNE w (wrapL n l)) := by
  have hl := (chk_run hc).1
  have e10 : (n.kind == 10) = false := by simp [h10]
  have HO := Lib.hid ho
  have HR := Lib.hid hr
  have HC := Lib.hid fun w1 (h : Below w.heap.size w w1) => rcheckl_any A l c w1 (by omega) (Seg.belowW hseg0 h)
  have HE := Lib.hid hc
  have HS := Lib.hid hseg0
  have HA := Lib.hid hA
  have HW := Lib.hid hw
  rw [HE.out] at HC
  clear hc ho hr hseg0 hA hw h10
  go_enter Try.func37, Try.ntmps37
  have hn1 : NodeAt (w.alloc (.cells (nc n) 31)) w.heap.size 0 n := Blk.node (Blk.new' rfl)
  have hld1 := run_ldN hn1
  go_wp2_with fail
  refine (good_any n _).mono ?_
  rintro e w2 ⟨rfl, hb2⟩
  have hl2 : Below w.heap.size w w2 := andThen (andAlloc (Below.refl _ _) _) hb2
  have hn2' := hn1.below hb2 hn1.lt
  have hc2 : w2.cell? ⟨w.heap.size, 0, none⟩ = some (.int .i64 n.kind) := hn2' 0 _ rfl
  have hz2 := hn2'.lt
  rw [HR.out]
  have hld2 : (ldN ⟨w.heap.size, 0, none⟩).run Try.prog w2 = .ok (.agg (nc n)) w2 := run_ldN hn2'
  have hld3 : ∀ o : Obj, (ldN ⟨w.heap.size, 0, none⟩).run Try.prog (w2.alloc o) = .ok (.agg (nc n)) (w2.alloc o) := fun o => run_ldN (hn2'.alloc o)
  clear hb2 hn1 hld1
  go_wp2_with (first
    | (go_at_call 18; (with_reducible refine (ropens_any _ _).mono ?_); rintro e w' ⟨rfl, rfl⟩; simp only [HO.out]))
  have hl3 := andAlloc hl2 (.cells (nc n) 31)
  have hn3 := hn2'.alloc (.cells (nc n) 31)
  refine (HC.out _ hl3).mono ?_
  rintro e w3 ⟨rfl, hb3⟩
  have HL3 := Lib.hid (andThen hl3 hb3)
  have hn4 := hn3.below hb3 hn3.lt
  have hld4 : (ldN ⟨w.heap.size, 0, none⟩).run Try.prog w3 = .ok (.agg (nc n)) w3 := run_ldN hn4
  have hb6 := run_bldN 6
  have HSR := Lib.hid (fun (W : World) (h : Below w.heap.size w W) => Seg.below HS.out h)
  have HO1 := Lib.hid (own_one w3 n)
  have HLA := Lib.hid (andAlloc HL3.out (.cells (nc n) 31))
  clear hl2 hn2' hc2 hz2 hld2 hld3 hl3 hn3 hb3 hn4 HC
  go_wp2_with (first
    | (refine wpList_ex (o := ⟨some 27, _, _, _, _, _⟩) (v := .slice (some ⟨w3.heap.size, 0, none⟩) 1 1) (w' := w3.alloc (.cells (nc n) 31)) rfl (by kernel_rfl) ?_)
    | (at_builtin; refine wpList_append_seg rfl (.tmp 27) (.tmp 28) rfl w3.heap.size ?_ _ 1 _ rfl HO1.out _ A c _ l rfl rfl (HSR.out _ HLA.out) HA.out ?_ ?_; simp; omega; intro v1 W1 hown1 hg1; have hlw1 : Below w.heap.size w W1 := below_grown (Nat.le_refl _) HLA.out hg1 (fun g hg => by have hh := HL3.out.size; have hg' : some w3.heap.size = some g := hg; injection hg' with hg'; omega))
    | (refine wpList_build_eq (o := ⟨some 31, _, _, _, _, _⟩) rfl _ _ rfl (nc (nz 6)) (by kernel_rfl) ?_)
    | (refine wpList_ex (o := ⟨some 32, _, _, _, _, _⟩) (v := .slice (some ⟨W1.heap.size, 0, none⟩) 1 1) (w' := W1.alloc (.cells (nc (nz 6)) 31)) rfl (by kernel_rfl) ?_)
    | (at_builtin; refine wpList_push rfl (.tmp 30) (.tmp 32) 22 rfl w3.heap.size 31 _ 19 160 Try.underlying22 node_row rfl (by decide) (by decide) _ _ _ rfl hown1 ?_ _ rfl rfl rfl rfl ?_ ?_; (have hh := hg1.size; simp at hh; omega); omega; intro v2 W2 hown2 hg2 hnn2)
    | fail)
  have hg2' : (W1.alloc (.cells (nc (nz 6)) 31)).grownBy W2 v1.ownBlock := hg2
  clear hg2 hnn2
  have hlw2 : Below w.heap.size w W2 := below_grown (Nat.le_refl _) (andAlloc hlw1 _) hg2' (fun g hg => by
    have h1 := hown1.lt g hg
    have h2 := HL3.out.size
    omega)
  have hfl : (wrapL n l).flatMap ncs = ncs n ++ l.flatMap ncs ++ (nc (nz 6)).toList := by
    show _ = ncs n ++ l.flatMap ncs ++ ncs (nz 6)
    simp [wrapL, List.flatMap_append]
  have hln : 1 + l.length + 1 = (wrapL n l).length := by
    simp [wrapL]
    omega
  rw [← hfl, hln] at hown2
  have HOW := Lib.hid (own_base hown2 (show w.heap.size ≤ w3.heap.size from HL3.out.size))
  obtain ⟨A2, c2, rfl, hc2, hm2, hs2⟩ := Seg.of_own hown2
  have hch := rcheckl_any A2 (wrapL n l) c2 W2 (by rw [← hln]; omega) hs2
  rw [HW.out] at hch
  have HLW2 := Lib.hid hlw2
  clear hg2' hown2 hown1 hg1 hlw1 hlw2 hfl hs2 hm2 HSR HO1 HLA hld4 hb6
  generalize hwl : (wrapL n l).length = wl at *
  have HWL := Lib.hid hwl
  clear hwl
  refine hch.mono ?_
  rintro e w5 ⟨rfl, hb5⟩
  have HF := Lib.hid (own_below HOW.out hb5)
  have HLF := Lib.hid (andThen HLW2.out hb5)
  clear hch hb5 HOW HLW2
  go_wp2_with fail
  go_ret2
  exact ⟨.slice A2 wl c2, rfl, by rw [HWL.out]; exact HF.out, HLF.out⟩
end Go.Proofs.Ytmcekdjhkjhcdaa.No
end
section
namespace Go.Proofs.Ytmcekdjhkjhcdaa.No
open Go.ChangeShapes Go.WideShapes Go.ChangeAt Go.RowKit
open Me Np
set_option linter.unusedVariables false
set_option linter.unusedSimpArgs false

theorem rbegins_any (A : Option Addr) (ns : List Nd) (c : Nat) (a : Int) (w : World) (hl : ns.length ≤ 9223372036854775807) (hseg : Seg w w.heap.size A (ns.flatMap ncs)) :
    Calls Try.prog 74 #[.slice A ns.length c, .int .i64 a] w fun e w' => e = .returned (.bool (begB ns a)) ∧ w = w' := by
  have HSEG := Lib.hid hseg
  clear hseg
  by_cases h0 : 0 ≤ a
  · by_cases h1 : a < (ns.length : Int)
    · obtain ⟨x, hx, _⟩ := get_drop (l := ns) (k := a.toNat) (by omega)
      obtain ⟨b, off, rfl, hb, hnode⟩ := seg_node HSEG.out hx
      have hc0 : w.cell? ⟨b, off + a.toNat * 19, none⟩ = some (.int .i64 x.kind) := hnode 0 _ rfl
      have hv : begB ns a = (x.kind != 6 && x.kind != 11) := by simp [begB, h0, hx]
      have HV := Lib.hid hv
      have d0 : decide (0 ≤ a) = true := by simpa using h0
      clear hv hx hnode
      generalize ns.length = len at *
      cases k6 : (x.kind != 6)
      · go_enter Try.func74, Try.ntmps74
        go_wp2_with fail
        all_goals (go_ret; exact ⟨ret_bool (by rw [HV.out]; simp_all), rfl⟩)
      · cases k11 : (x.kind != 11)
        · go_enter Try.func74, Try.ntmps74
          go_wp2_with fail
          all_goals (go_ret; exact ⟨ret_bool (by rw [HV.out]; simp_all), rfl⟩)
        · go_enter Try.func74, Try.ntmps74
          go_wp2_with fail
          all_goals (go_ret; exact ⟨ret_bool (by rw [HV.out]; simp_all), rfl⟩)
    · have hn : ns[a.toNat]? = none := List.getElem?_eq_none (by omega)
      have hv : begB ns a = false := by simp [begB, hn]
      have HV := Lib.hid hv
      have d0 : decide (0 ≤ a) = true := by simpa using h0
      have d1 : decide (a < (ns.length : Int)) = false := by simpa using h1
      clear hv hn
      generalize ns.length = len at *
      go_enter Try.func74, Try.ntmps74
      go_wp2_with fail
      all_goals (go_ret; exact ⟨ret_bool (by rw [HV.out]), rfl⟩)
  · have hv : begB ns a = false := by simp [begB, h0]
    have HV := Lib.hid hv
    have d0 : decide (0 ≤ a) = false := by simpa using h0
    clear hv
    generalize ns.length = len at *
    go_enter Try.func74, Try.ntmps74
    go_wp2_with fail
    all_goals (go_ret; exact ⟨ret_bool (by rw [HV.out]), rfl⟩)
theorem rinside_err (A : Option Addr) (ns : List Nd) (c : Nat) (a : Int) (w : World) (hl : ns.length ≤ 9223372036854775806) (hseg : Seg w w.heap.size A (ns.flatMap ncs)) (hc : ¬ chk ns = 0) :
    Calls Try.prog 35 #[.slice A ns.length c, .int .i64 a] w fun e w' => e = .returned (.tuple #[.slice none 0 0, .int .i64 (chk ns)]) ∧ Below w.heap.size w w' := by
  have e0 : (chk ns != 0) = true := by simp [hc]
  have HC := Lib.hid (rcheckl_any A ns c w (by omega) hseg)
  have HX := Lib.hid hc
  clear hseg hc
  generalize chk ns = v at *
  generalize ns.length = len at *
  go_enter Try.func35, Try.ntmps35
  go_wp2_with fail
  refine HC.out.mono ?_
  rintro e w1 ⟨rfl, hb1⟩
  go_wp2_with fail
  go_ret2
  exact ⟨rfl, hb1⟩
theorem rinside_none (A : Option Addr) (ns : List Nd) (c : Nat) (a : Int) (w : World) (hl : ns.length ≤ 9223372036854775806) (hseg : Seg w w.heap.size A (ns.flatMap ncs)) (hc : chk ns = 0) (hb : begB ns a = false) :
    Calls Try.prog 35 #[.slice A ns.length c, .int .i64 a] w fun e w' => e = .returned (.tuple #[.slice none 0 0, .int .i64 3]) ∧ Below w.heap.size w w' := by
  have HC := Lib.hid (rcheckl_any A ns c w (by omega) hseg)
  have HB := Lib.hid hb
  have HE := Lib.hid hc
  have HBG := Lib.hid fun w1 (h : Below w.heap.size w w1) => rbegins_any A ns c a w1 (by omega) (Seg.belowW hseg h)
  clear hseg hc hb
  rw [HE.out] at HC
  rw [HB.out] at HBG
  generalize ns.length = len at *
  go_enter Try.func35, Try.ntmps35
  go_wp2_with fail
  refine HC.out.mono ?_
  rintro e w1 ⟨rfl, hb1⟩
  go_wp2_with fail
  refine (HBG.out w1 hb1).mono ?_
  rintro e w' ⟨rfl, rfl⟩
  go_wp2_with fail
  go_ret2
  exact ⟨rfl, hb1⟩
theorem rinside_shut (A : Option Addr) (ns : List Nd) (c : Nat) (a : Nat) (x : Nd) (w : World) (hl : ns.length ≤ 9223372036854775806) (hseg : Seg w w.heap.size A (ns.flatMap ncs)) (hc : chk ns = 0) (hb : begB ns a = true) (hx : ns[a]? = some x) (ho : opensB x = false) :
    Calls Try.prog 35 #[.slice A ns.length c, .int .i64 (a : Int)] w fun e w' => e = .returned (.tuple #[.slice none 0 0, .int .i64 3]) ∧ Below w.heap.size w w' := by
  have HC := Lib.hid (rcheckl_any A ns c w (by omega) hseg)
  have HB := Lib.hid hb
  have HE := Lib.hid hc
  have HO := Lib.hid ho
  have HBG := Lib.hid fun w1 (h : Below w.heap.size w w1) => rbegins_any A ns c a w1 (by omega) (Seg.belowW hseg h)
  obtain ⟨b, off, rfl, hb', hnode⟩ := seg_node hseg hx
  have hal : a < ns.length := (List.getElem?_eq_some_iff.1 hx).1
  have HN := Lib.hid hnode
  clear hseg hc hb hx hnode ho
  rw [HE.out] at HC
  rw [HB.out] at HBG
  generalize ns.length = len at *
  go_enter Try.func35, Try.ntmps35
  go_wp2_with fail
  refine HC.out.mono ?_
  rintro e w1 ⟨rfl, hb1⟩
  have hn1 := HN.out.below hb1 hb'
  go_wp2_with (first
    | (go_at_call 74; refine (HBG.out w1 hb1).mono ?_; rintro e w' ⟨rfl, rfl⟩)
    | (go_at_call 18; (with_reducible refine (ropens_any _ _).mono ?_); rintro e w' ⟨rfl, rfl⟩; simp only [HO.out])
    | (refine wpList_load_node rfl _ rfl _ _ rfl _ (by assumption) ?_)
    | (refine wpList_load_nodeG rfl _ rfl _ _ rfl _ (by assumption) ?_))
  go_ret2
  exact ⟨rfl, andAlloc hb1 _⟩
set_option maxHeartbeats 1000000 in
theorem rinside_ok (A : Option Addr) (ns : List Nd) (c : Nat) (a m : Nat) (x : Nd) (B : Nat) (w : World) (hsegB : Seg w B A (ns.flatMap ncs)) (hcap : ns.length ≤ c) (hseg : Seg w w.heap.size A (ns.flatMap ncs)) (hc : chk ns = 0) (hb : begB ns a = true) (hx : ns[a]? = some x) (ho : opensB x = true) (hm : endc (ns.drop a) 0 = some m) :
    Calls Try.prog 35 #[.slice A ns.length c, .int .i64 (a : Int)] w fun e w' => (∃ A' c', e = .returned (.tuple #[.slice A' (innerL ns a m).length c', .int .i64 0]) ∧ Seg w B A' ((innerL ns a m).flatMap ncs)) ∧ Below w.heap.size w w' := by
  have hl := (chk_run hc).1
  have HC := Lib.hid (rcheckl_any A ns c w (by omega) hseg)
  have HB := Lib.hid hb
  have HE := Lib.hid hc
  have HO := Lib.hid ho
  have HBG := Lib.hid fun w1 (h : Below w.heap.size w w1) => rbegins_any A ns c a w1 (by omega) (Seg.belowW hseg h)
  have HEN := Lib.hid fun w1 (h : Below w.heap.size w w1) => rends_any A ns c a m w1 (by omega) (Seg.belowW hseg h) hm (fun n hn => by rw [hx] at hn; injection hn with hn; subst hn; intro e; simp [opensB, e] at ho)
  obtain ⟨b, off, rfl, hb', hnode⟩ := seg_node hseg hx
  have hal : a < ns.length := (List.getElem?_eq_some_iff.1 hx).1
  have hm2 := endc_two hx ho hm
  have hmb := (endc_bd hm).2
  rw [List.length_drop] at hmb
  have hml : a + m ≤ ns.length := by omega
  have HN := Lib.hid hnode
  have hil : (innerL ns a m).length = m - 2 := by
    simp only [innerL, List.length_take, List.length_drop]
    omega
  have HIL := Lib.hid hil
  have HAD := Lib.hid (show Seg w B (some ⟨b, off + (a + 1) * 19, none⟩) ((innerL ns a m).flatMap ncs) by
    unfold innerL
    rw [flat_take ncs_length, flat_drop ncs_length]
    exact Seg.take (Seg.drop hsegB _) _)
  clear hseg hsegB hc hb hx hnode ho hm hil
  rw [HE.out] at HC
  rw [HB.out] at HBG
  generalize ns.length = len at *
  go_enter Try.func35, Try.ntmps35
  go_wp2_with fail
  refine HC.out.mono ?_
  rintro e w1 ⟨rfl, hb1⟩
  have hn1 := HN.out.below hb1 hb'
  have hbo := andAlloc hb1 (.cells (nc x) 31)
  go_wp2_with (first
    | (go_at_call 74; refine (HBG.out w1 hb1).mono ?_; rintro e w' ⟨rfl, rfl⟩)
    | (go_at_call 18; (with_reducible refine (ropens_any _ _).mono ?_); rintro e w' ⟨rfl, rfl⟩; simp only [HO.out])
    | (go_at_call 75; refine (HEN.out _ hbo).mono ?_; rintro e w2 ⟨rfl, hb2⟩)
    | (refine wpList_load_node rfl _ rfl _ _ rfl _ (by assumption) ?_)
    | (refine wpList_load_nodeG rfl _ rfl _ _ rfl _ (by assumption) ?_))
  go_ret2
  refine ⟨⟨some ⟨b, off + (a + 1) * 19, none⟩, c - (a + 1), ?_, HAD.out⟩, andThen hbo hb2⟩
  have e : (innerL ns a m).length = a + m - 1 - (a + 1) := by rw [HIL.out]; omega
  rw [e]
  rfl
end Go.Proofs.Ytmcekdjhkjhcdaa.No
end
section
namespace Go.Proofs.Ytmcekdjhkjhcdaa.No
open Go.ChangeShapes Go.WideShapes Go.ChangeAt Go.RowKit
open Me Np
set_option linter.unusedVariables false
set_option linter.unusedSimpArgs false

theorem parts_err (A : Option Addr) (ns : List Nd) (c : Nat) (a : Int) (w : World) (hl : ns.length ≤ 9223372036854775806) (hseg : Seg w w.heap.size A (ns.flatMap ncs)) (hc : ¬ chk ns = 0) :
    Calls Try.prog 34 #[.slice A ns.length c, .int .i64 a] w fun e w' => e = .returned (.tuple #[.slice none 0 0, .slice none 0 0, .slice none 0 0, .int .i64 (chk ns)]) ∧ Below w.heap.size w w' := by
  have e0 : (chk ns != 0) = true := by simp [hc]
  have HC := Lib.hid (check_any A ns c w (by omega) hseg)
  have HX := Lib.hid hc
  clear hseg hc
  generalize chk ns = v at *
  generalize ns.length = len at *
  go_enter Try.func34, Try.ntmps34
  go_wp2_with fail
  refine HC.out.mono ?_
  rintro e w1 ⟨rfl, hb1⟩
  go_wp2_with fail
  go_returns
  exact ⟨rfl, hb1⟩
theorem parts_none (A : Option Addr) (ns : List Nd) (c : Nat) (a : Int) (w : World) (hl : ns.length ≤ 9223372036854775806) (hseg : Seg w w.heap.size A (ns.flatMap ncs)) (hc : chk ns = 0) (hb : begB ns a = false) :
    Calls Try.prog 34 #[.slice A ns.length c, .int .i64 a] w fun e w' => e = .returned (.tuple #[.slice none 0 0, .slice none 0 0, .slice none 0 0, .int .i64 3]) ∧ Below w.heap.size w w' := by
  have HC := Lib.hid (check_any A ns c w (by omega) hseg)
  have HB := Lib.hid hb
  have HE := Lib.hid hc
  have HBG := Lib.hid fun w1 (h : Below w.heap.size w w1) => begins_any A ns c a w1 (by omega) (Seg.belowW hseg h)
  clear hseg hc hb
  rw [HE.out] at HC
  rw [HB.out] at HBG
  generalize ns.length = len at *
  go_enter Try.func34, Try.ntmps34
  go_wp2_with fail
  refine HC.out.mono ?_
  rintro e w1 ⟨rfl, hb1⟩
  go_wp2_with fail
  refine (HBG.out w1 hb1).mono ?_
  rintro e w' ⟨rfl, rfl⟩
  go_wp2_with fail
  go_returns
  exact ⟨rfl, hb1⟩
theorem parts_other (A : Option Addr) (ns : List Nd) (c : Nat) (a : Nat) (x : Nd) (w : World) (hl : ns.length ≤ 9223372036854775806) (hseg : Seg w w.heap.size A (ns.flatMap ncs)) (hc : chk ns = 0) (hb : begB ns a = true) (hx : ns[a]? = some x) (h10 : ¬ x.kind = 10) :
    Calls Try.prog 34 #[.slice A ns.length c, .int .i64 (a : Int)] w fun e w' => e = .returned (.tuple #[.slice none 0 0, .slice none 0 0, .slice none 0 0, .int .i64 3]) ∧ Below w.heap.size w w' := by
  have HC := Lib.hid (check_any A ns c w (by omega) hseg)
  have HB := Lib.hid hb
  have HE := Lib.hid hc
  have HBG := Lib.hid fun w1 (h : Below w.heap.size w w1) => begins_any A ns c a w1 (by omega) (Seg.belowW hseg h)
  obtain ⟨b, off, rfl, hb', hnode⟩ := seg_node hseg hx
  have hal : a < ns.length := (List.getElem?_eq_some_iff.1 hx).1
  have HN := Lib.hid hnode
  have e10 : (x.kind != 10) = true := by simp [h10]
  clear hseg hc hb hx hnode
  rw [HE.out] at HC
  rw [HB.out] at HBG
  generalize ns.length = len at *
  go_enter Try.func34, Try.ntmps34
  go_wp2_with fail
  refine HC.out.mono ?_
  rintro e w1 ⟨rfl, hb1⟩
  have hc0 : w1.cell? ⟨b, off + a * 19, none⟩ = some (.int .i64 x.kind) := HN.out.below hb1 hb' 0 _ rfl
  go_wp2_with (first
    | (go_at_call 69; refine (HBG.out w1 hb1).mono ?_; rintro e w' ⟨rfl, rfl⟩))
  go_returns
  exact ⟨rfl, hb1⟩
set_option maxHeartbeats 1000000 in
set_option maxRecDepth 100000 in
theorem parts_ok (A : Option Addr) (ns : List Nd) (c : Nat) (a m : Nat) (x : Nd) (ss : List Nat) (w : World) (hcap : ns.length ≤ c) (hseg : Seg w w.heap.size A (ns.flatMap ncs)) (hc : chk ns = 0) (hb : begB ns a = true) (hx : ns[a]? = some x) (h10 : x.kind = 10) (hm : endc (ns.drop a) 0 = some m) (hd : D3 ss (ns.drop (a + 1)) 0 (m - 2)) (hm2 : 2 ≤ m) :
    Calls Try.prog 34 #[.slice A ns.length c, .int .i64 (a : Int)] w fun e w' => ∃ vs, e = .returned (.tuple #[vs 0, vs 1, vs 2, .int .i64 0]) ∧ Own3 w' w.heap.size vs (thr ss (ns.drop (a + 1)) 0) ∧ Below w.heap.size w w' := by
  have hl := (chk_run hc).1
  have HT := Lib.hid fun w1 (h : Below w.heap.size w w1) => three_any A ns c a m ss x w1 hc hcap (Seg.belowW hseg h) hx hm hd hm2
  have HC := Lib.hid (check_any A ns c w (by omega) hseg)
  have HB := Lib.hid hb
  have HE := Lib.hid hc
  have HBG := Lib.hid fun w1 (h : Below w.heap.size w w1) => begins_any A ns c a w1 (by omega) (Seg.belowW hseg h)
  obtain ⟨b, off, rfl, hb', hnode⟩ := seg_node hseg hx
  have hal : a < ns.length := (List.getElem?_eq_some_iff.1 hx).1
  have HN := Lib.hid hnode
  have e10 : (x.kind != 10) = false := by simp [h10]
  clear hseg hc hb hx hnode hm hd
  rw [HE.out] at HC
  rw [HB.out] at HBG
  generalize thr ss (ns.drop (a + 1)) 0 = F at HT ⊢
  generalize ns.length = len at *
  go_enter Try.func34, Try.ntmps34
  go_wp2_with fail
  refine HC.out.mono ?_
  rintro e w1 ⟨rfl, hb1⟩
  have hc0 : w1.cell? ⟨b, off + a * 19, none⟩ = some (.int .i64 x.kind) := HN.out.below hb1 hb' 0 _ rfl
  go_wp2_with (first
    | (go_at_call 69; refine (HBG.out w1 hb1).mono ?_; rintro e w' ⟨rfl, rfl⟩))
  refine (HT.out _ hb1).mono ?_
  rintro e w2 ⟨vs, rfl, ho, hb2⟩
  have HO := Lib.hid ho
  have HB2 := Lib.hid (andThen hb1 hb2)
  obtain ⟨A0, c0, h0⟩ := own_slice (ho.own 0 (by omega))
  obtain ⟨A1, c1, h1⟩ := own_slice (ho.own 1 (by omega))
  obtain ⟨A2, c2, h2⟩ := own_slice (ho.own 2 (by omega))
  have htc : tc3 vs = #[.slice A0 (F 0).length c0, .slice A1 (F 1).length c1, .slice A2 (F 2).length c2] := by unfold tc3; rw [h0, h1, h2]
  have HH := Lib.hid (And.intro h0 (And.intro h1 h2))
  have h31 := tc3_one vs ho
  have hsz3 : (Try.prog.info? 132).map (·.size) = some (tc3 vs).size := by rw [tc3_size]; exact three_info
  rw [htc] at h31 hsz3 ⊢
  have H31 := Lib.hid (And.intro h31 hsz3)
  clear ho hb2 HC HT HBG h0 h1 h2 htc h31 hsz3
  generalize (F 0).length = l0 at *
  generalize (F 1).length = l1 at *
  generalize (F 2).length = l2 at *
  go_wp2_with (first
    | (refine wpList_store_row (o := ⟨none, .store _ (.tmp 9) (.tmp 31), _, _, _, _⟩) rfl 132 _ _ rfl w2.heap.size #[.slice A0 l0 c0, .slice A1 l1 c1, .slice A2 l2 c2] rfl rfl 132 (tc3 fun _ => .slice none 0 0) (Blk.new' rfl) H31.out.2 rfl H31.out.1 ?_))
  go_simp
  have B3 : Blk (w2.alloc (.cells #[.slice A0 l0 c0, .slice A1 l1 c1, .slice A2 l2 c2] 132)) w2.heap.size 132 #[.slice A0 l0 c0, .slice A1 l1 c1, .slice A2 l2 c2] := Blk.new' rfl
  have HO3 := Lib.hid (HO.out.below (andAlloc (Below.refl _ _) (.cells #[.slice A0 l0 c0, .slice A1 l1 c1, .slice A2 l2 c2] 132)))
  have HB3 := Lib.hid (andAlloc HB2.out (.cells #[.slice A0 l0 c0, .slice A1 l1 c1, .slice A2 l2 c2] 132))
  have HS1 := Lib.hid hb1.size
  generalize w2.alloc (.cells #[.slice A0 l0 c0, .slice A1 l1 c1, .slice A2 l2 c2] 132) = w3 at B3 HO3 HB3 ⊢
  generalize w2.heap.size = g3 at *
  have hd0 : w3.cell? ⟨g3, 0, none⟩ = some (.slice A0 l0 c0) := B3.cell 0
  have hd1 : w3.cell? ⟨g3, 1, none⟩ = some (.slice A1 l1 c1) := B3.cell 1
  have hd2 : w3.cell? ⟨g3, 2, none⟩ = some (.slice A2 l2 c2) := B3.cell 2
  clear B3 HB2 HO hb1 hc0
  go_region
  all_goals
    go_wp2_with fail
    go_returns
    exact ⟨vs, by rw [HH.out.1, HH.out.2.1, HH.out.2.2], ⟨fun j hj => own_base ((HO3.out.below (below_drewN (Below.refl _ _) 1)).own j hj) HS1.out, HO3.out.dist⟩, below_drewN HB3.out 1⟩
theorem rparts_err (A : Option Addr) (ns : List Nd) (c : Nat) (a : Int) (w : World) (hl : ns.length ≤ 9223372036854775806) (hseg : Seg w w.heap.size A (ns.flatMap ncs)) (hc : ¬ chk ns = 0) :
    Calls Try.prog 36 #[.slice A ns.length c, .int .i64 a] w fun e w' => e = .returned (.tuple #[.slice none 0 0, .slice none 0 0, .slice none 0 0, .int .i64 (chk ns)]) ∧ Below w.heap.size w w' := by
  have e0 : (chk ns != 0) = true := by simp [hc]
  have HC := Lib.hid (rcheckl_any A ns c w (by omega) hseg)
  have HX := Lib.hid hc
  clear hseg hc
  generalize chk ns = v at *
  generalize ns.length = len at *
  go_enter Try.func36, Try.ntmps36
  go_wp2_with fail
  refine HC.out.mono ?_
  rintro e w1 ⟨rfl, hb1⟩
  go_wp2_with fail
  go_returns
  exact ⟨rfl, hb1⟩
theorem rparts_none (A : Option Addr) (ns : List Nd) (c : Nat) (a : Int) (w : World) (hl : ns.length ≤ 9223372036854775806) (hseg : Seg w w.heap.size A (ns.flatMap ncs)) (hc : chk ns = 0) (hb : begB ns a = false) :
    Calls Try.prog 36 #[.slice A ns.length c, .int .i64 a] w fun e w' => e = .returned (.tuple #[.slice none 0 0, .slice none 0 0, .slice none 0 0, .int .i64 3]) ∧ Below w.heap.size w w' := by
  have HC := Lib.hid (rcheckl_any A ns c w (by omega) hseg)
  have HB := Lib.hid hb
  have HE := Lib.hid hc
  have HBG := Lib.hid fun w1 (h : Below w.heap.size w w1) => rbegins_any A ns c a w1 (by omega) (Seg.belowW hseg h)
  clear hseg hc hb
  rw [HE.out] at HC
  rw [HB.out] at HBG
  generalize ns.length = len at *
  go_enter Try.func36, Try.ntmps36
  go_wp2_with fail
  refine HC.out.mono ?_
  rintro e w1 ⟨rfl, hb1⟩
  go_wp2_with fail
  refine (HBG.out w1 hb1).mono ?_
  rintro e w' ⟨rfl, rfl⟩
  go_wp2_with fail
  go_returns
  exact ⟨rfl, hb1⟩
theorem rparts_other (A : Option Addr) (ns : List Nd) (c : Nat) (a : Nat) (x : Nd) (w : World) (hl : ns.length ≤ 9223372036854775806) (hseg : Seg w w.heap.size A (ns.flatMap ncs)) (hc : chk ns = 0) (hb : begB ns a = true) (hx : ns[a]? = some x) (h10 : ¬ x.kind = 10) :
    Calls Try.prog 36 #[.slice A ns.length c, .int .i64 (a : Int)] w fun e w' => e = .returned (.tuple #[.slice none 0 0, .slice none 0 0, .slice none 0 0, .int .i64 3]) ∧ Below w.heap.size w w' := by
  have HC := Lib.hid (rcheckl_any A ns c w (by omega) hseg)
  have HB := Lib.hid hb
  have HE := Lib.hid hc
  have HBG := Lib.hid fun w1 (h : Below w.heap.size w w1) => rbegins_any A ns c a w1 (by omega) (Seg.belowW hseg h)
  obtain ⟨b, off, rfl, hb', hnode⟩ := seg_node hseg hx
  have hal : a < ns.length := (List.getElem?_eq_some_iff.1 hx).1
  have HN := Lib.hid hnode
  have e10 : (x.kind != 10) = true := by simp [h10]
  clear hseg hc hb hx hnode
  rw [HE.out] at HC
  rw [HB.out] at HBG
  generalize ns.length = len at *
  go_enter Try.func36, Try.ntmps36
  go_wp2_with fail
  refine HC.out.mono ?_
  rintro e w1 ⟨rfl, hb1⟩
  have hc0 : w1.cell? ⟨b, off + a * 19, none⟩ = some (.int .i64 x.kind) := HN.out.below hb1 hb' 0 _ rfl
  go_wp2_with (first
    | (go_at_call 74; refine (HBG.out w1 hb1).mono ?_; rintro e w' ⟨rfl, rfl⟩))
  go_returns
  exact ⟨rfl, hb1⟩
set_option maxHeartbeats 1000000 in
set_option maxRecDepth 100000 in
theorem rparts_ok (A : Option Addr) (ns : List Nd) (c : Nat) (a m : Nat) (x : Nd) (ss : List Nat) (w : World) (hcap : ns.length ≤ c) (hseg : Seg w w.heap.size A (ns.flatMap ncs)) (hc : chk ns = 0) (hb : begB ns a = true) (hx : ns[a]? = some x) (h10 : x.kind = 10) (hm : endc (ns.drop a) 0 = some m) (hd : D3 ss (ns.drop (a + 1)) 0 (m - 2)) (hm2 : 2 ≤ m) :
    Calls Try.prog 36 #[.slice A ns.length c, .int .i64 (a : Int)] w fun e w' => ∃ vs, e = .returned (.tuple #[vs 0, vs 1, vs 2, .int .i64 0]) ∧ Own3 w' w.heap.size vs (thr ss (ns.drop (a + 1)) 0) ∧ Below w.heap.size w w' := by
  have hl := (chk_run hc).1
  have HT := Lib.hid fun w1 (h : Below w.heap.size w w1) => rthree_any A ns c a m ss x w1 hc hcap (Seg.belowW hseg h) hx hm hd hm2 h10
  have HC := Lib.hid (rcheckl_any A ns c w (by omega) hseg)
  have HB := Lib.hid hb
  have HE := Lib.hid hc
  have HBG := Lib.hid fun w1 (h : Below w.heap.size w w1) => rbegins_any A ns c a w1 (by omega) (Seg.belowW hseg h)
  obtain ⟨b, off, rfl, hb', hnode⟩ := seg_node hseg hx
  have hal : a < ns.length := (List.getElem?_eq_some_iff.1 hx).1
  have HN := Lib.hid hnode
  have e10 : (x.kind != 10) = false := by simp [h10]
  clear hseg hc hb hx hnode hm hd
  rw [HE.out] at HC
  rw [HB.out] at HBG
  generalize thr ss (ns.drop (a + 1)) 0 = F at HT ⊢
  generalize ns.length = len at *
  go_enter Try.func36, Try.ntmps36
  go_wp2_with fail
  refine HC.out.mono ?_
  rintro e w1 ⟨rfl, hb1⟩
  have hc0 : w1.cell? ⟨b, off + a * 19, none⟩ = some (.int .i64 x.kind) := HN.out.below hb1 hb' 0 _ rfl
  go_wp2_with (first
    | (go_at_call 74; refine (HBG.out w1 hb1).mono ?_; rintro e w' ⟨rfl, rfl⟩))
  refine (HT.out _ hb1).mono ?_
  rintro e w2 ⟨vs, rfl, ho, hb2⟩
  have HO := Lib.hid ho
  have HB2 := Lib.hid (andThen hb1 hb2)
  obtain ⟨A0, c0, h0⟩ := own_slice (ho.own 0 (by omega))
  obtain ⟨A1, c1, h1⟩ := own_slice (ho.own 1 (by omega))
  obtain ⟨A2, c2, h2⟩ := own_slice (ho.own 2 (by omega))
  have htc : tc3 vs = #[.slice A0 (F 0).length c0, .slice A1 (F 1).length c1, .slice A2 (F 2).length c2] := by unfold tc3; rw [h0, h1, h2]
  have HH := Lib.hid (And.intro h0 (And.intro h1 h2))
  have h31 := tc3_one vs ho
  have hsz3 : (Try.prog.info? 132).map (·.size) = some (tc3 vs).size := by rw [tc3_size]; exact three_info
  rw [htc] at h31 hsz3 ⊢
  have H31 := Lib.hid (And.intro h31 hsz3)
  clear ho hb2 HC HT HBG h0 h1 h2 htc h31 hsz3
  generalize (F 0).length = l0 at *
  generalize (F 1).length = l1 at *
  generalize (F 2).length = l2 at *
  go_wp2_with (first
    | (refine wpList_store_row (o := ⟨none, .store _ (.tmp 9) (.tmp 29), _, _, _, _⟩) rfl 132 _ _ rfl w2.heap.size #[.slice A0 l0 c0, .slice A1 l1 c1, .slice A2 l2 c2] rfl rfl 132 (tc3 fun _ => .slice none 0 0) (Blk.new' rfl) H31.out.2 rfl H31.out.1 ?_))
  go_simp
  have B3 : Blk (w2.alloc (.cells #[.slice A0 l0 c0, .slice A1 l1 c1, .slice A2 l2 c2] 132)) w2.heap.size 132 #[.slice A0 l0 c0, .slice A1 l1 c1, .slice A2 l2 c2] := Blk.new' rfl
  have HO3 := Lib.hid (HO.out.below (andAlloc (Below.refl _ _) (.cells #[.slice A0 l0 c0, .slice A1 l1 c1, .slice A2 l2 c2] 132)))
  have HB3 := Lib.hid (andAlloc HB2.out (.cells #[.slice A0 l0 c0, .slice A1 l1 c1, .slice A2 l2 c2] 132))
  have HS1 := Lib.hid hb1.size
  generalize w2.alloc (.cells #[.slice A0 l0 c0, .slice A1 l1 c1, .slice A2 l2 c2] 132) = w3 at B3 HO3 HB3 ⊢
  generalize w2.heap.size = g3 at *
  have hd0 : w3.cell? ⟨g3, 0, none⟩ = some (.slice A0 l0 c0) := B3.cell 0
  have hd1 : w3.cell? ⟨g3, 1, none⟩ = some (.slice A1 l1 c1) := B3.cell 1
  have hd2 : w3.cell? ⟨g3, 2, none⟩ = some (.slice A2 l2 c2) := B3.cell 2
  clear B3 HB2 HO hb1 hc0
  go_region
  all_goals
    go_wp2_with fail
    go_returns
    exact ⟨vs, by rw [HH.out.1, HH.out.2.1, HH.out.2.2], ⟨fun j hj => own_base ((HO3.out.below (below_drewN (Below.refl _ _) 1)).own j hj) HS1.out, HO3.out.dist⟩, below_drewN HB3.out 1⟩
end Go.Proofs.Ytmcekdjhkjhcdaa.No
end
section
namespace Go.Proofs.Ytmcekdjhkjhcdaa.No
open Go.ChangeShapes Go.WideShapes Go.ChangeAt Go.RowKit
open Me Np
set_option linter.unusedVariables false
set_option linter.unusedSimpArgs false

/-- Inside: the program's answer is of its own, the document's is a part of what it was given. -/
def InsP (ns : List Nd) (a : Int) (L : List Nd) (e : Int) : Prop := (∀ (A : Option Addr) (c : Nat) (w : World), ns.length ≤ c → Seg w w.heap.size A (ns.flatMap ncs) →
    Calls Try.prog 30 #[.slice A ns.length c, .int .i64 a] w fun e' w' => ∃ v, e' = .returned (.tuple #[v, .int .i64 e]) ∧ w'.ownsRow w.heap.size 31 19 v L.length (L.flatMap ncs) ∧ Below w.heap.size w w') ∧
  (∀ (A : Option Addr) (c B : Nat) (w : World), ns.length ≤ c → B ≤ w.heap.size → Seg w B A (ns.flatMap ncs) →
    Calls Try.prog 35 #[.slice A ns.length c, .int .i64 a] w fun e' w' => ∃ A' c', e' = .returned (.tuple #[.slice A' L.length c', .int .i64 e]) ∧ Seg w' B A' (L.flatMap ncs) ∧ Below w.heap.size w w')
theorem innerL_len (ns : List Nd) (a m : Nat) : (innerL ns a m).length ≤ ns.length := by
  unfold innerL
  simp only [List.length_take, List.length_drop]
  omega
theorem begB_at {ns : List Nd} {a : Int} (h : begB ns a = true) : ∃ (k : Nat) (x : Nd), a = (k : Int) ∧ ns[k]? = some x ∧ ¬ x.kind = 6 ∧ ¬ x.kind = 11 := by
  unfold begB at h
  simp only [Bool.and_eq_true, decide_eq_true_eq] at h
  obtain ⟨h0, h1⟩ := h
  split at h1
  · cases h1
  · rename_i x hx
    simp only [Bool.and_eq_true, bne_iff_ne, ne_eq] at h1
    exact ⟨a.toNat, x, by omega, hx, h1.1, h1.2⟩
theorem ins_case (ns : List Nd) (a : Int) (hl : ns.length ≤ 879609302220) : ∃ L e, L.length ≤ 2000 ∧ InsP ns a L e := by
  by_cases hc : chk ns = 0
  · have h2 := (chk_run hc).1
    cases hb : begB ns a
    · refine ⟨[], 3, by simp, fun A c w hcap hseg => (inside_none A ns c a w (by omega) hseg hc hb).mono ?_, fun A c B w hcap hB hseg => (rinside_none A ns c a w (by omega) (hseg.more hB) hc hb).mono ?_⟩
      · rintro e w' ⟨rfl, hb⟩; exact ⟨_, rfl, World.ownsRow_nil _ _ _ _, hb⟩
      · rintro e w' ⟨rfl, hb⟩; exact ⟨none, 0, rfl, .inl rfl, hb⟩
    · obtain ⟨k, x, rfl, hx, h6, h11⟩ := begB_at hb
      cases ho : opensB x
      · refine ⟨[], 3, by simp, fun A c w hcap hseg => (inside_shut A ns c k x w (by omega) hseg hc hb hx ho).mono ?_, fun A c B w hcap hB hseg => (rinside_shut A ns c k x w (by omega) (hseg.more hB) hc hb hx ho).mono ?_⟩
        · rintro e w' ⟨rfl, hb⟩; exact ⟨_, rfl, World.ownsRow_nil _ _ _ _, hb⟩
        · rintro e w' ⟨rfl, hb⟩; exact ⟨none, 0, rfl, .inl rfl, hb⟩
      · obtain ⟨m, hm⟩ := item_ends hc hx h6 h11
        refine ⟨innerL ns k m, 0, Nat.le_trans (innerL_len _ _ _) h2, fun A c w hcap hseg => (inside_ok A ns c k m x w hcap hseg hc hb hx ho hm).mono ?_, fun A c B w hcap hB hseg => (rinside_ok A ns c k m x B w hseg hcap (hseg.more hB) hc hb hx ho hm).mono ?_⟩
        · rintro e w' ⟨v, rfl, h, hb⟩; exact ⟨v, rfl, h, hb⟩
        · rintro e w' ⟨⟨A', c', rfl, h⟩, hb⟩
          exact ⟨A', c', rfl, h.below (hb.mono hB), hb⟩
  · refine ⟨[], chk ns, by simp, fun A c w hcap hseg => (inside_err A ns c a w (by omega) hseg hc).mono ?_, fun A c B w hcap hB hseg => (rinside_err A ns c a w (by omega) (hseg.more hB) hc).mono ?_⟩
    · rintro e w' ⟨rfl, hb⟩; exact ⟨_, rfl, World.ownsRow_nil _ _ _ _, hb⟩
    · rintro e w' ⟨rfl, hb⟩; exact ⟨none, 0, rfl, .inl rfl, hb⟩
/-- Parts. -/
def ParP (ns : List Nd) (a : Int) (F : Nat → List Nd) (e : Int) : Prop := (∀ (A : Option Addr) (c : Nat) (w : World), ns.length ≤ c → Seg w w.heap.size A (ns.flatMap ncs) →
    Calls Try.prog 34 #[.slice A ns.length c, .int .i64 a] w fun e' w' => ∃ vs : Nat → Value, e' = .returned (.tuple #[vs 0, vs 1, vs 2, .int .i64 e]) ∧ Own3 w' w.heap.size vs F ∧ Below w.heap.size w w') ∧
  (∀ (A : Option Addr) (c : Nat) (w : World), ns.length ≤ c → Seg w w.heap.size A (ns.flatMap ncs) →
    Calls Try.prog 36 #[.slice A ns.length c, .int .i64 a] w fun e' w' => ∃ vs : Nat → Value, e' = .returned (.tuple #[vs 0, vs 1, vs 2, .int .i64 e]) ∧ Own3 w' w.heap.size vs F ∧ Below w.heap.size w w')
theorem par_case (ns : List Nd) (a : Int) (hl : ns.length ≤ 879609302220) : ∃ F e, (∀ j, (F j).length ≤ 2000) ∧ ParP ns a F e := by
  have nil : ∀ (w w' : World), Below w.heap.size w w' → ∀ e : Int, ∃ vs : Nat → Value, Ending.returned (.tuple #[.slice none 0 0, .slice none 0 0, .slice none 0 0, .int .i64 e]) = .returned (.tuple #[vs 0, vs 1, vs 2, .int .i64 e]) ∧ Own3 w' w.heap.size vs (fun _ => []) ∧ Below w.heap.size w w' := fun w w' hb e => ⟨fun _ => .slice none 0 0, rfl, Own3.nil _ _, hb⟩
  by_cases hc : chk ns = 0
  · have h2 := (chk_run hc).1
    cases hb : begB ns a
    · refine ⟨fun _ => [], 3, by simp, fun A c w hcap hseg => (parts_none A ns c a w (by omega) hseg hc hb).mono ?_, fun A c w hcap hseg => (rparts_none A ns c a w (by omega) hseg hc hb).mono ?_⟩
      · rintro e w' ⟨rfl, hb⟩; exact nil w w' hb 3
      · rintro e w' ⟨rfl, hb⟩; exact nil w w' hb 3
    · obtain ⟨k, x, rfl, hx, h6, h11⟩ := begB_at hb
      by_cases h10 : x.kind = 10
      · obtain ⟨m, hm⟩ := item_ends hc hx h6 h11
        obtain ⟨hm2, ss, hss⟩ := disc_steps hc hx h10 hm
        refine ⟨thr ss (ns.drop (k + 1)) 0, 0, fun j => ?_, fun A c w hcap hseg => parts_ok A ns c k m x ss w hcap hseg hc hb hx h10 hm hss hm2, fun A c w hcap hseg => rparts_ok A ns c k m x ss w hcap hseg hc hb hx h10 hm hss hm2⟩
        have h3 := thr_len (j := j) hss
        have h4 := (endc_bd hm).2
        rw [List.length_drop] at h4
        omega
      · refine ⟨fun _ => [], 3, by simp, fun A c w hcap hseg => (parts_other A ns c k x w (by omega) hseg hc hb hx h10).mono ?_, fun A c w hcap hseg => (rparts_other A ns c k x w (by omega) hseg hc hb hx h10).mono ?_⟩
        · rintro e w' ⟨rfl, hb⟩; exact nil w w' hb 3
        · rintro e w' ⟨rfl, hb⟩; exact nil w w' hb 3
  · refine ⟨fun _ => [], chk ns, by simp, fun A c w hcap hseg => (parts_err A ns c a w (by omega) hseg hc).mono ?_, fun A c w hcap hseg => (rparts_err A ns c a w (by omega) hseg hc).mono ?_⟩
    · rintro e w' ⟨rfl, hb⟩; exact nil w w' hb _
    · rintro e w' ⟨rfl, hb⟩; exact nil w w' hb _
/-- Wrap. -/
def WrpP (n : Nd) (ns : List Nd) (L : List Nd) (e : Int) : Prop := (∀ (A : Option Addr) (c : Nat) (w : World), Src w A c ns →
    Calls Try.prog 31 #[.agg (nc n), .slice A ns.length c] w fun e' w' => ∃ v, e' = .returned (.tuple #[v, .int .i64 e]) ∧ w'.ownsRow w.heap.size 31 19 v L.length (L.flatMap ncs) ∧ Below w.heap.size w w') ∧
  (∀ (A : Option Addr) (c : Nat) (w : World), Seg w w.heap.size A (ns.flatMap ncs) → (A = none → c = 0) →
    Calls Try.prog 37 #[.agg (nc n), .slice A ns.length c] w fun e' w' => ∃ v, e' = .returned (.tuple #[v, .int .i64 e]) ∧ w'.ownsRow w.heap.size 31 19 v L.length (L.flatMap ncs) ∧ Below w.heap.size w w')
theorem wrp_case (n : Nd) (ns : List Nd) (hl : ns.length ≤ 879609302220) : ∃ L e, L.length ≤ 2002 ∧ WrpP n ns L e := by
  cases hr : right n
  · refine ⟨[], 1, by simp, fun A c w hs => (wrap_r n A ns c w hr).mono ?_, fun A c w hs hA => (rwrap_r n A ns c w hr).mono ?_⟩
    · rintro e w' ⟨rfl, hb⟩; exact ⟨_, rfl, World.ownsRow_nil _ _ _ _, hb⟩
    · rintro e w' ⟨rfl, hb⟩; exact ⟨_, rfl, World.ownsRow_nil _ _ _ _, hb⟩
  · cases ho : opensB n
    · refine ⟨[], 1, by simp, fun A c w hs => (wrap_o n A ns c w hr ho).mono ?_, fun A c w hs hA => (rwrap_o n A ns c w hr ho).mono ?_⟩
      · rintro e w' ⟨rfl, hb⟩; exact ⟨_, rfl, World.ownsRow_nil _ _ _ _, hb⟩
      · rintro e w' ⟨rfl, hb⟩; exact ⟨_, rfl, World.ownsRow_nil _ _ _ _, hb⟩
    · by_cases h10 : n.kind = 10
      · refine ⟨[], 1, by simp, fun A c w hs => (wrap_d n A ns c w hr ho h10).mono ?_, fun A c w hs hA => (rwrap_d n A ns c w hr ho h10).mono ?_⟩
        · rintro e w' ⟨rfl, hb⟩; exact ⟨_, rfl, World.ownsRow_nil _ _ _ _, hb⟩
        · rintro e w' ⟨rfl, hb⟩; exact ⟨_, rfl, World.ownsRow_nil _ _ _ _, hb⟩
      · by_cases hc : chk ns = 0
        · by_cases hw : chk (wrapL n ns) = 0
          · have h2 := (chk_run hw).1
            refine ⟨wrapL n ns, 0, by omega, fun A c w hs => (wrap_ok n A ns c w hs hr ho h10 hc hw).mono ?_, fun A c w hs hA => (rwrap_ok n A ns c w hs hA hr ho h10 hc hw).mono ?_⟩
            · rintro e w' ⟨v, rfl, h, hb⟩; exact ⟨v, rfl, h, hb⟩
            · rintro e w' ⟨v, rfl, h, hb⟩; exact ⟨v, rfl, h, hb⟩
          · refine ⟨[], chk (wrapL n ns), by simp, fun A c w hs => (wrap_w n A ns c w hs hr ho h10 hc hw).mono ?_, fun A c w hs hA => (rwrap_w n A ns c w hs hA hr ho h10 hc hw).mono ?_⟩
            · rintro e w' ⟨rfl, hb⟩; exact ⟨_, rfl, World.ownsRow_nil _ _ _ _, hb⟩
            · rintro e w' ⟨rfl, hb⟩; exact ⟨_, rfl, World.ownsRow_nil _ _ _ _, hb⟩
        · refine ⟨[], chk ns, by simp, fun A c w hs => (wrap_c n A ns c w (by omega) (Src.seg hs) hr ho h10 hc).mono ?_, fun A c w hs hA => (rwrap_c n A ns c w (by omega) hs hr ho h10 hc).mono ?_⟩
          · rintro e w' ⟨rfl, hb⟩; exact ⟨_, rfl, World.ownsRow_nil _ _ _ _, hb⟩
          · rintro e w' ⟨rfl, hb⟩; exact ⟨_, rfl, World.ownsRow_nil _ _ _ _, hb⟩
end Go.Proofs.Ytmcekdjhkjhcdaa.No
end
section
namespace Go.Proofs.Ytmcekdjhkjhcdaa.No
open Go.ChangeShapes Go.WideShapes Go.ChangeAt Go.RowKit
open Me Np
set_option linter.unusedVariables false
set_option linter.unusedSimpArgs false

/-- Five rows of the call's own, and five lists that read alike. -/
structure Five (base : Nat) (va vb vc vd vw : Value) (La Lb Lc Ld Lw : List Nd) (Ra Rb Rc Rd Rw : Option Addr) (w : World) : Prop where
  oa : w.ownsRow base 31 19 va La.length (La.flatMap ncs)
  ob : w.ownsRow base 31 19 vb Lb.length (Lb.flatMap ncs)
  oc : w.ownsRow base 31 19 vc Lc.length (Lc.flatMap ncs)
  od : w.ownsRow base 31 19 vd Ld.length (Ld.flatMap ncs)
  ow : w.ownsRow base 31 19 vw Lw.length (Lw.flatMap ncs)
  ra : Seg w w.heap.size Ra (La.flatMap ncs)
  rb : Seg w w.heap.size Rb (Lb.flatMap ncs)
  rc : Seg w w.heap.size Rc (Lc.flatMap ncs)
  rd : Seg w w.heap.size Rd (Ld.flatMap ncs)
  rw_ : Seg w w.heap.size Rw (Lw.flatMap ncs)
theorem Five.below {base : Nat} {va vb vc vd vw : Value} {La Lb Lc Ld Lw : List Nd} {Ra Rb Rc Rd Rw : Option Addr} {w w' : World} (h : Five base va vb vc vd vw La Lb Lc Ld Lw Ra Rb Rc Rd Rw w) (hb : Below w.heap.size w w') : Five base va vb vc vd vw La Lb Lc Ld Lw Ra Rb Rc Rd Rw w' :=
  ⟨own_below h.oa hb, own_below h.ob hb, own_below h.oc hb, own_below h.od hb, own_below h.ow hb, Seg.belowW h.ra hb, Seg.belowW h.rb hb, Seg.belowW h.rc hb, Seg.belowW h.rd hb, Seg.belowW h.rw_ hb⟩
theorem Seg.far {w w' : World} {B : Nat} {A : Option Addr} {xs : List Value} {g : Nat} (h : Seg w B A xs) (hg : w.grownBy w' (some g)) (hB : B ≤ w.heap.size) (hne : ∀ a, A = some a → a.block ≠ g) : Seg w' w'.heap.size A xs := by
  rcases h with h | ⟨b, off, rfl, hb, hc⟩
  · exact .inl h
  · have hs := hg.size
    have := hne _ rfl
    refine .inr ⟨b, off, rfl, by omega, fun j u hu => ?_⟩
    exact (World.cell?_of_block (hg.block b (by omega) (by intro e; injection e with e; exact this e))).trans (hc j u hu)
theorem Seg.low {w w' : World} {B : Nat} {A : Option Addr} {xs : List Value} {g : Nat} (h : Seg w B A xs) (hg : w.grownBy w' (some g)) (hB : B ≤ w.heap.size) (hgB : B ≤ g) : Seg w' w'.heap.size A xs := by
  rcases h with h | ⟨b, off, rfl, hb, hc⟩
  · exact .inl h
  · have hs := hg.size
    refine .inr ⟨b, off, rfl, by omega, fun j u hu => ?_⟩
    exact (World.cell?_of_block (hg.block b (by omega) (by intro e; injection e with e; omega))).trans (hc j u hu)
/-- A row of one's own, elsewhere. -/
theorem own_far {w w' : World} {base n g : Nat} {v : Value} {xs : List Value} (h : w.ownsRow base 31 19 v n xs) (hg : w.grownBy w' (some g)) (hb : g < base) : w'.ownsRow base 31 19 v n xs := by
  refine h.kept hg ?_
  cases hv : v.ownBlock with
  | none => exact .inl rfl
  | some q =>
    refine .inr ?_
    intro e
    injection e with e
    have := (h.lt q hv).1
    omega
theorem src_of_seg {w : World} {g c : Nat} {l : List Nd} (h : Seg w w.heap.size (some ⟨g, 0, none⟩) (l.flatMap ncs)) : Src w (some ⟨g, 0, none⟩) c l := by
  rcases h with h | ⟨b, off, e, hb, hc⟩
  · refine .inl ⟨g, 0, rfl, .inl ?_, by rw [h]; simp⟩
    have h2 := congrArg List.length h
    rw [flat_length ncs_length] at h2
    exact List.eq_nil_of_length_eq_zero (by simp at h2; omega)
  · injection e with e
    injection e with e1 e2 _
    subst e1
    subst e2
    exact .inl ⟨g, 0, rfl, .inr hb, hc⟩
theorem seg_of {w : World} {base n c : Nat} {A : Option Addr} {xs : List Value} (h : w.ownsRow base 31 19 (.slice A n c) n xs) : Seg w w.heap.size A xs := by
  obtain ⟨A1, c1, e, _, _, hs⟩ := Seg.of_own h
  injection e with e _ _
  subst e
  exact hs
theorem own_lt {w : World} {base n : Nat} {e : TypeId} {size : Nat} {v : Value} {xs : List Value} (h : w.ownsRow base e size v n xs) : ∀ q, v.ownBlock = some q → base ≤ q ∧ q < w.heap.size := fun q hq => h.lt q hq
def five {α : Type} (a b c d e : α) : Nat → α
  | 0 => a
  | 1 => b
  | 2 => c
  | 3 => d
  | _ => e
theorem five_list {α : Type} (a b c d e : α) : ((List.range 5).map (five a b c d e)).toArray = #[a, b, c, d, e] := rfl
theorem away_lt {a b : Value} {B : Nat} (ha : ∀ q, a.ownBlock = some q → q < B) (hb : ∀ q, b.ownBlock = some q → B ≤ q) : Away a b.ownBlock ∧ Away b a.ownBlock := by
  cases h1 : a.ownBlock with
  | none => exact ⟨.inl h1, away_none _⟩
  | some p =>
    cases h2 : b.ownBlock with
    | none => exact ⟨away_none _, .inl h2⟩
    | some q =>
      have e1 := ha p h1
      have e2 := hb q h2
      refine ⟨.inr ?_, .inr ?_⟩
      · rw [h1]; intro e; injection e with e; omega
      · rw [h2]; intro e; injection e with e; omega
theorem dist5 {va vw : Value} {vs : Nat → Value} {B2 B3 : Nat} (h23 : B2 ≤ B3) (ha : ∀ q, va.ownBlock = some q → q < B2) (hv : ∀ j, j < 3 → ∀ q, (vs j).ownBlock = some q → B2 ≤ q ∧ q < B3) (hw : ∀ q, vw.ownBlock = some q → B3 ≤ q)
    (hd : ∀ i j, i < 3 → j < 3 → i ≠ j → (vs i).ownBlock = none ∨ (vs i).ownBlock ≠ (vs j).ownBlock) : Dist 5 (five va (vs 0) (vs 1) (vs 2) vw) := by
  have av : ∀ j, j < 3 → Away va (vs j).ownBlock ∧ Away (vs j) va.ownBlock := fun j hj => away_lt ha (fun q hq => (hv j hj q hq).1)
  have vv : ∀ j, j < 3 → Away (vs j) vw.ownBlock ∧ Away vw (vs j).ownBlock := fun j hj => away_lt (fun q hq => (hv j hj q hq).2) hw
  have aw := away_lt (a := va) (b := vw) (B := B3) (fun q hq => by have := ha q hq; omega) hw
  intro i j hi hj hne
  have h1 : i = 0 ∨ i = 1 ∨ i = 2 ∨ i = 3 ∨ i = 4 := by omega
  have h2 : j = 0 ∨ j = 1 ∨ j = 2 ∨ j = 3 ∨ j = 4 := by omega
  rcases h1 with rfl | rfl | rfl | rfl | rfl <;> rcases h2 with rfl | rfl | rfl | rfl | rfl <;> first
    | exact absurd rfl hne
    | exact (av 0 (by omega)).1 | exact (av 1 (by omega)).1 | exact (av 2 (by omega)).1
    | exact (av 0 (by omega)).2 | exact (av 1 (by omega)).2 | exact (av 2 (by omega)).2
    | exact (vv 0 (by omega)).1 | exact (vv 1 (by omega)).1 | exact (vv 2 (by omega)).1
    | exact (vv 0 (by omega)).2 | exact (vv 1 (by omega)).2 | exact (vv 2 (by omega)).2
    | exact aw.1 | exact aw.2
    | exact hd 0 1 (by omega) (by omega) (by omega) | exact hd 0 2 (by omega) (by omega) (by omega) | exact hd 1 0 (by omega) (by omega) (by omega)
    | exact hd 1 2 (by omega) (by omega) (by omega) | exact hd 2 0 (by omega) (by omega) (by omega) | exact hd 2 1 (by omega) (by omega) (by omega)
theorem sameB_self (l : List Nd) : sameB l l = true := sameB_iff.2 rfl
attribute [local go_sem ↓] ldN_eq
set_option maxHeartbeats 4000000 in
set_option maxRecDepth 100000 in
theorem parts_walk (A : Option Addr) (l : List Nd) (c : Nat) (at_ : Int) (n : Nd) (w : World) (hl : l.length ≤ 879609302220) (hcap : l.length ≤ c) (hA : A = none → c = 0) (hseg : Seg w w.heap.size A (l.flatMap ncs)) :
    Calls Try.prog 8 #[.slice A l.length c, .int .i64 at_, .agg (nc n)] w fun e w' => e = .returned (.bool true) ∧ Below w.heap.size w w' := by
  obtain ⟨La, ea, hLa, I1, I2⟩ := ins_case l at_ hl
  obtain ⟨F, ep, hF, P1, P2⟩ := par_case l at_ hl
  obtain ⟨Lw, ew, hLw, W1, W2⟩ := wrp_case n l hl
  have HI1 := Lib.hid I1
  have HI2 := Lib.hid I2
  have HP1 := Lib.hid P1
  have HP2 := Lib.hid P2
  have HW1 := Lib.hid W1
  have HW2 := Lib.hid W2
  have HLN := Lib.hid (And.intro hLa (And.intro hF hLw))
  have HLE := Lib.hid (fun w1 (h : Below w.heap.size w w1) => lent_any A l c w1 hl hA (Seg.belowW hseg h))
  have HSG := Lib.hid hseg
  have HA := Lib.hid hA
  have hl' := Lib.hid hl
  clear I1 I2 P1 P2 W1 W2 hLa hF hLw hseg hA
  generalize hlen : l.length = len at *
  have HL := Lib.hid hlen
  clear hlen
  have hn0 : NodeAt (w.alloc (.cells (nc n) 31)) w.heap.size 0 n := Blk.node (Blk.new' rfl)
  have HN0 := Lib.hid hn0
  clear hn0
  go_enter Try.func8, Try.ntmps8
  go_wp2_with fail
  have hb0 := andAlloc (Below.refl w.heap.size w) (.cells (nc n) 31)
  refine (HLE.out _ hb0).mono ?_
  rintro e w1 ⟨g, cap, rfl, hc2, hcm, hown, hb1⟩
  rw [HL.out] at hc2 ⊢
  have HG := Lib.hid (show w.heap.size ≤ g ∧ g < w1.heap.size by have := hown.lt g rfl; simp at this; omega)
  have HX := Lib.hid hown
  have HXS := Lib.hid (fun w2 (h : Below w1.heap.size w1 w2) => show Seg w2 w2.heap.size (some ⟨g, 0, none⟩) (l.flatMap ncs) by
    obtain ⟨A1, c1, e5, _, _, hs1⟩ := Seg.of_own HX.out
    simp only [Value.slice.injEq, true_and] at e5
    obtain ⟨e6, e7⟩ := e5
    subst e6; subst e7
    have h := Seg.take (Seg.belowW hs1 h) (l.length * 19)
    rw [← flat_take ncs_length, List.take_left] at h
    exact h)
  have HCC := Lib.hid (And.intro hc2 hcm)
  have HB1 := Lib.hid (andThen hb0 hb1)
  have HN1 := Lib.hid (HN0.out.below hb1 HN0.out.lt)
  have hlc : len ≤ cap := by omega
  clear hown hb0 hb1 hc2 hcm HLE HN0
  go_wp2_with fail
  refine (HI1.out (some ⟨g, 0, none⟩) cap w1 hlc (HXS.out _ (Below.refl _ _))).mono ?_
  rintro e w2 ⟨va, rfl, oa, hb2⟩
  have OA := Lib.hid oa
  have HB2 := Lib.hid hb2
  clear oa hb2 HI1
  go_wp2_with fail
  refine (HP1.out (some ⟨g, 0, none⟩) cap w2 hlc (HXS.out _ HB2.out)).mono ?_
  rintro e w3 ⟨vs, rfl, ov, hb3⟩
  have OV := Lib.hid ov
  have HB3 := Lib.hid hb3
  have HB13 := Lib.hid (andThen HB2.out hb3)
  have hld := run_ldN (HN1.out.below HB13.out HN1.out.lt)
  clear ov hb3 HP1
  go_wp2_with fail
  refine (HW1.out (some ⟨g, 0, none⟩) cap w3 (src_of_seg (HXS.out _ HB13.out))).mono ?_
  rintro e w4 ⟨vw, rfl, ow, hb4⟩
  have OW := Lib.hid ow
  have HB4 := Lib.hid hb4
  have HB14 := Lib.hid (andThen HB13.out hb4)
  clear ow hb4 HW1 hld
  go_wp2_with fail
  refine (HI2.out A c w.heap.size w4 hcap (andThen HB1.out HB14.out).size (HSG.out.below (andThen HB1.out HB14.out))).mono ?_
  rintro e w5 ⟨Ra, ca, rfl, ra, hb5⟩
  have RA := Lib.hid ra
  have HB5 := Lib.hid hb5
  have HB15 := Lib.hid (andThen HB14.out hb5)
  clear ra hb5 HI2
  go_wp2_with fail
  refine (HP2.out A c w5 hcap (Seg.belowW HSG.out (andThen HB1.out HB15.out))).mono ?_
  rintro e w6 ⟨us, rfl, ou, hb6⟩
  have OU := Lib.hid ou
  have HB6 := Lib.hid hb6
  have HB16 := Lib.hid (andThen HB15.out hb6)
  have hld := run_ldN (HN1.out.below HB16.out HN1.out.lt)
  clear ou hb6 HP2
  go_wp2_with fail
  refine (HW2.out A c w6 (Seg.belowW HSG.out (andThen HB1.out HB16.out)) HA.out).mono ?_
  rintro e w7 ⟨uw, rfl, ouw, hb7⟩
  have OUW := Lib.hid ouw
  have HB7 := Lib.hid hb7
  have HB17 := Lib.hid (andThen HB16.out hb7)
  clear ouw hb7 HW2 hld
  go_wp2_with (go_at_call 15; refine (num_any _ _).mono ?_; rintro e w' ⟨rfl, rfl⟩)
  have HXM := Lib.hid (fun w2 (h : Below w1.heap.size w1 w2) => show Seg w2 w2.heap.size (some ⟨g, 0, none⟩) ((l ++ marks).flatMap ncs) by
    obtain ⟨A1, c1, e5, _, _, hs1⟩ := Seg.of_own HX.out
    simp only [Value.slice.injEq, true_and] at e5
    obtain ⟨e6, e7⟩ := e5
    subst e6; subst e7
    exact Seg.belowW hs1 h)
  have hst := stays_any g cap A l c w7 (by rw [HL.out]; exact hl) (by rw [HL.out]; exact HCC.out.1) HCC.out.2 (HXM.out _ HB17.out) (Seg.belowW HSG.out (andThen HB1.out HB17.out))
  rw [HL.out] at hst
  refine hst.mono ?_
  rintro e w8 ⟨rfl, hb8⟩
  have HB18 := Lib.hid (andThen HB17.out hb8)
  have HB78 := Lib.hid hb8
  clear hst hb8 HXM
  go_wp2_with fail
  refine (knows_any _).mono ?_
  rintro e w9 ⟨rfl, hb9⟩
  have HB79 := Lib.hid (andThen HB78.out hb9)
  have HB19 := Lib.hid (andThen HB18.out hb9)
  clear hb9 HB78 HB18
  -- where the rows lie
  have HDS := Lib.hid (dist5 HB3.out.size (fun q hq => (own_lt OA.out q hq).2) (fun j hj q hq => own_lt (OV.out.own j hj) q hq) (fun q hq => (own_lt OW.out q hq).1) OV.out.dist)
  have HB69 := Lib.hid (andThen HB7.out HB79.out)
  have HB59 := Lib.hid (andThen HB6.out HB69.out)
  have HB49 := Lib.hid (andThen HB5.out HB59.out)
  have HB39 := Lib.hid (andThen HB4.out HB49.out)
  have HB29 := Lib.hid (andThen HB3.out HB39.out)
  have s12 := HB2.out.size
  have s23 := HB3.out.size
  have s34 := HB4.out.size
  have s45 := HB5.out.size
  have s56 := HB6.out.size
  have hg1 := HG.out
  have O0 := Lib.hid (own_below (OV.out.own 0 (by omega)) HB39.out)
  have O1 := Lib.hid (own_below (OV.out.own 1 (by omega)) HB39.out)
  have O2 := Lib.hid (own_below (OV.out.own 2 (by omega)) HB39.out)
  have U0 := Lib.hid (own_below (OU.out.own 0 (by omega)) HB69.out)
  have U1 := Lib.hid (own_below (OU.out.own 1 (by omega)) HB69.out)
  have U2 := Lib.hid (own_below (OU.out.own 2 (by omega)) HB69.out)
  have OA9 := Lib.hid (own_below OA.out HB29.out)
  have OW9 := Lib.hid (own_below OW.out HB49.out)
  have UW9 := Lib.hid (own_below OUW.out HB79.out)
  have RA9 := Lib.hid (RA.out.below (HB59.out.mono (by have := HB1.out.size; omega)))
  have HX9 := Lib.hid (own_below HX.out HB19.out)
  have HLF := Lib.hid (And.intro (HLN.out.2.1 0) (And.intro (HLN.out.2.1 1) (HLN.out.2.1 2)))
  have HB9 := Lib.hid (andThen HB1.out HB19.out)
  have hw1 := HB1.out.size
  clear OA OV OW OU OUW RA HX HXS HB2 HB3 HB13 HB4 HB14 HB5 HB15 HB6 HB16 HB7 HB17 HB79 HB19 HB69 HB59 HB49 HB39 HB29 HN1 HSG HA
  obtain ⟨Aa, xa, e0, _⟩ := own_val OA9.out
  obtain ⟨Ab, xb, e1, _⟩ := own_val O0.out
  obtain ⟨Ac, xc, e2, _⟩ := own_val O1.out
  obtain ⟨Ad, xd, e3, _⟩ := own_val O2.out
  obtain ⟨Aw, xw, e4, _⟩ := own_val OW9.out
  obtain ⟨Ub, yb, f1, _⟩ := own_val U0.out
  obtain ⟨Uc, yc, f2, _⟩ := own_val U1.out
  obtain ⟨Ud, yd, f3, _⟩ := own_val U2.out
  obtain ⟨Uw, yw, f4, _⟩ := own_val UW9.out
  generalize vs 0 = vb at *
  generalize vs 1 = vc at *
  generalize vs 2 = vd at *
  generalize us 0 = ub at *
  generalize us 1 = uc at *
  generalize us 2 = ud at *
  generalize F 0 = Lb at *
  generalize F 1 = Lc at *
  generalize F 2 = Ld at *
  subst e0 e1 e2 e3 e4 f1 f2 f3 f4
  have HFV := Lib.hid (fun w' (hgr : w9.grownBy w' (some g)) => show Five w.heap.size (.slice Aa La.length xa) (.slice Ab Lb.length xb) (.slice Ac Lc.length xc) (.slice Ad Ld.length xd) (.slice Aw Lw.length xw) La Lb Lc Ld Lw Ra Ub Uc Ud Uw w' from
    ⟨own_base (own_far OA9.out hgr hg1.2) hw1, own_base (own_far O0.out hgr (by omega)) (by omega), own_base (own_far O1.out hgr (by omega)) (by omega), own_base (own_far O2.out hgr (by omega)) (by omega), own_base (own_far OW9.out hgr (by omega)) (by omega),
     Seg.low RA9.out hgr HB9.out.size hg1.1, seg_of (own_far U0.out hgr (by omega)), seg_of (own_far U1.out hgr (by omega)), seg_of (own_far U2.out hgr (by omega)), seg_of (own_far UW9.out hgr (by omega))⟩)
  have hsp := spoil_any g len cap w9 (by omega) hlc (fun k hk => own_there HX9.out k (by rw [HL.out]; omega))
  clear OA9 O0 O1 O2 OW9 U0 U1 U2 UW9 RA9 HX9 s12 s23 s34 s45 s56
  go_wp2_with fail
  refine hsp.mono ?_
  rintro e w10 ⟨rfl, hgr⟩
  have HV := Lib.hid (HFV.out w10 hgr)
  have HB10 := Lib.hid (show Below w.heap.size w w10 from ⟨hgr.os.trans HB9.out.os, hgr.tape.trans HB9.out.tape, hgr.output.trans HB9.out.output, Nat.le_trans HB9.out.size hgr.size, fun q hq => (hgr.block q (by have := HB9.out.size; omega) (by intro e; injection e with e; omega)).trans (HB9.out.block q hq)⟩)
  clear hsp hgr HFV HB9
  go_wp2_with fail
  refine (same_any Aa Ra La La xa ca w10 (by have := HLN.out.1; omega) (by have := HLN.out.1; omega) (seg_of HV.out.oa) HV.out.ra).mono ?_
  rintro e w11 ⟨rfl, hb11⟩
  rw [sameB_self]
  have HV11 := Lib.hid (HV.out.below hb11)
  have HB11 := Lib.hid (andThen HB10.out hb11)
  clear hb11 HV HB10
  have HV := Lib.hid HV11.out
  clear HV11
  go_wp2_with fail
  refine (same_any Ab Ub Lb Lb xb yb w11 (by have := HLF.out.1; omega) (by have := HLF.out.1; omega) (seg_of HV.out.ob) HV.out.rb).mono ?_
  rintro e w12 ⟨rfl, hb12⟩
  rw [sameB_self]
  have HV12 := Lib.hid (HV.out.below hb12)
  have HB12 := Lib.hid (andThen HB11.out hb12)
  clear hb12 HV HB11
  have HV := Lib.hid HV12.out
  clear HV12
  go_wp2_with fail
  refine (same_any Ac Uc Lc Lc xc yc w12 (by have := HLF.out.2.1; omega) (by have := HLF.out.2.1; omega) (seg_of HV.out.oc) HV.out.rc).mono ?_
  rintro e w13 ⟨rfl, hb13⟩
  rw [sameB_self]
  have HV13 := Lib.hid (HV.out.below hb13)
  have HB13 := Lib.hid (andThen HB12.out hb13)
  clear hb13 HV HB12
  have HV := Lib.hid HV13.out
  clear HV13
  go_wp2_with fail
  refine (same_any Ad Ud Ld Ld xd yd w13 (by have := HLF.out.2.2; omega) (by have := HLF.out.2.2; omega) (seg_of HV.out.od) HV.out.rd).mono ?_
  rintro e w14 ⟨rfl, hb14⟩
  rw [sameB_self]
  have HV14 := Lib.hid (HV.out.below hb14)
  have HB14 := Lib.hid (andThen HB13.out hb14)
  clear hb14 HV HB13
  have HV := Lib.hid HV14.out
  clear HV14
  go_wp2_with fail
  refine (same_any Aw Uw Lw Lw xw yw w14 (by have := HLN.out.2.2; omega) (by have := HLN.out.2.2; omega) (seg_of HV.out.ow) HV.out.rw_).mono ?_
  rintro e w15 ⟨rfl, hb15⟩
  rw [sameB_self]
  have HV15 := Lib.hid (HV.out.below hb15)
  have HB15 := Lib.hid (andThen HB14.out hb15)
  clear hb15 HV HB14
  have HV := Lib.hid HV15.out
  clear HV15
  go_wp2_with fail
  have hV := HV.out.below (andAlloc (Below.refl _ _) (.cells #[.slice Aa La.length xa, .slice Ab Lb.length xb, .slice Ac Lc.length xc, .slice Ad Ld.length xd, .slice Aw Lw.length xw] 22))
  have hB := andAlloc HB15.out (.cells #[.slice Aa La.length xa, .slice Ab Lb.length xb, .slice Ac Lc.length xc, .slice Ad Ld.length xd, .slice Aw Lw.length xw] 22)
  refine (apart_any w.heap.size 5 w15.heap.size (five (.slice Aa La.length xa) (.slice Ab Lb.length xb) (.slice Ac Lc.length xc) (.slice Ad Ld.length xd) (.slice Aw Lw.length xw)) (five La Lb Lc Ld Lw) _ (by omega) hB.size ?_ HDS.out (by rw [five_list]; exact Blk.new' rfl) ?_).mono ?_
  · intro j hj
    have h1 : j = 0 ∨ j = 1 ∨ j = 2 ∨ j = 3 ∨ j = 4 := by omega
    rcases h1 with rfl | rfl | rfl | rfl | rfl
    · exact hV.oa
    · exact hV.ob
    · exact hV.oc
    · exact hV.od
    · exact hV.ow
  · intro j hj
    have h0 := HLN.out
    have h2 := HLF.out
    have h1 : j = 0 ∨ j = 1 ∨ j = 2 ∨ j = 3 ∨ j = 4 := by omega
    rcases h1 with rfl | rfl | rfl | rfl | rfl
    · show La.length ≤ 4000; omega
    · show Lb.length ≤ 4000; omega
    · show Lc.length ≤ 4000; omega
    · show Ld.length ≤ 4000; omega
    · show Lw.length ≤ 4000; omega
  · rintro e w16 ⟨rfl, hb16⟩
    have HF := Lib.hid (hB.trans hb16)
    clear hb16 hV hB
    go_wp2_with fail
    go_ret
    exact ⟨rfl, HF.out⟩
end Go.Proofs.Ytmcekdjhkjhcdaa.No
end

import Derived.Test.YtoboecenlangmaaGreatMw1
import Derived.Test.YtoboecenlangmaaGreatNodeKb
import Derived.Test.YtoboecenlangmaaGreatNodeE
import Derived.Test.YtoboecenlangmaaGreatNr
import Derived.Barred
import Derived.RowKit
import Derived.Test.YtoboecenlangmaaGreatNp
import Derived.Laws.MathBits
import Derived.Lib.BitFns
import Derived.Lib.ItoaNum
import Derived.Laws.BitsAllLaws
import Derived.IntWalk
import Derived.Test.YtoboecenlangmaaGreatRows
import Derived.Test.YtoboecenlangmaaGreatShelf
import Derived.WalkKit
import Derived.ProofKit
import Derived.OpenShut
import Derived.WalkSpells
import Derived.WalkLawsBesides
import Derived.Handy
import Derived.Outline
import Derived.Lib.Hide
import Derived.Deep.QuietTactic
import Derived.BigQuiet
import Derived.Deep.DeepCutAuto
import Derived.Deep.CutBlock
import Derived.Test.YtoboecenlangmaaGreatMem
import Derived.Test.YtoboecenlangmaaGreatBlk
import Derived.Laws.AppendOwn
import Derived.Test.YtoboecenlangmaaGreatNodeAp
import Derived.Deep.RegionLaw
import Derived.Laws.Rows
import Derived.Test.YtoboecenlangmaaGreatNodeF
import Derived.Deep.LoopGhost
import Derived.Deep.MidRow
import Derived.OneCell
import Derived.Test.YtoboecenlangmaaGreatNodeS2
/- Merged texts. Conditions: those that each theorem names. -/
section
namespace Go.Proofs.YtoboecenlangmaaGreat.No
open Go.ChangeShapes Go.WideShapes Go.ChangeAt Go.RowKit
open Me Np
set_option linter.unusedVariables false
set_option linter.unusedSimpArgs false

attribute [local go_sem ↓] ldN_eq bldN_eq
set_option maxHeartbeats 2000000 in
set_option maxRecDepth 100000 in
theorem wrap_r (n : Nd) (A : Option Addr) (l : List Nd) (c : Nat) (w : World) (hr : right n = false) :
    Calls Tryz.prog 88 #[.agg (nc n), .slice A l.length c] w fun e w' => e = .returned (.tuple #[.slice none 0 0, .int .i64 1]) ∧ Below w.heap.size w w' := by
  have HR := Lib.hid hr
  clear hr
  generalize l.length = len at *
  go_enter Tryz.func88, Tryz.ntmps88
  go_wp2_with fail
  refine (kinds_any _).mono ?_
  rintro e w1 ⟨rfl, hq, hz1, hb1⟩
  have HQ := Lib.hid hq
  have HZ1 := Lib.hid hz1
  have hn1 : NodeAt w1 w.heap.size 0 n := NodeAt.below (Blk.node (Blk.new' rfl)) hb1 (by simp)
  have hl1 : Below w.heap.size w w1 := andThen (andAlloc (Below.refl _ _) _) hb1
  clear hq hz1 hb1
  have hld1 : ∀ o : Obj, (ldN ⟨w.heap.size, 0, none⟩).run Tryz.prog (w1.alloc o) = .ok (.agg (nc n)) (w1.alloc o) := fun o => run_ldN (hn1.alloc o)
  go_wp2_with (first
    | (refine wpList_store_row rfl 168 _ _ rfl w1.heap.size (ktab (w.heap.size + 1 + 1)) rfl rfl 168 Tryz.zeroCells168 (Blk.new' rfl) (by rw [ktab_size]; exact kinds_info) (by rw [ktab_size]; exact zero_size) (ktab_one _) ?_)
    | fail)
  have hq2 : (w1.alloc (.cells (ktab (w.heap.size + 1 + 1)) 168)).cell? ⟨w.heap.size + 1 + 1, 0, none⟩ = some (.func (.func 125) #[] #[]) := by
    have h1 := HQ.out
    have h2 := HZ1.out
    simp at h1 h2
    exact (World.cell?_alloc_past (w := w1) _ _ _ (by omega)).trans h1
  have hw2 := andAlloc hl1 (.cells (ktab (w.heap.size + 1 + 1)) 168)
  have hn2 := hn1.alloc (.cells (ktab (w.heap.size + 1 + 1)) 168)
  refine (right_any n w1.heap.size (w.heap.size + 1 + 1) _ (Blk.new' rfl) hq2).mono ?_
  rintro e w2 ⟨rfl, hb2⟩
  have hl2 := andThen hw2 hb2
  have hn2' := hn2.below hb2 hn2.lt
  have hc2 : w2.cell? ⟨w.heap.size, 0, none⟩ = some (.int .i64 n.kind) := hn2' 0 _ rfl
  have hz2 := hn2'.lt
  rw [HR.out]
  clear hq2 hw2 hn2 hb2 hn1 hl1 HQ HZ1 hld1
  go_wp2_with fail
  go_ret2
  exact ⟨rfl, hl2⟩
set_option maxHeartbeats 2000000 in
set_option maxRecDepth 100000 in
theorem wrap_o (n : Nd) (A : Option Addr) (l : List Nd) (c : Nat) (w : World) (hr : right n = true) (ho : opensB n = false) :
    Calls Tryz.prog 88 #[.agg (nc n), .slice A l.length c] w fun e w' => e = .returned (.tuple #[.slice none 0 0, .int .i64 1]) ∧ Below w.heap.size w w' := by
  have HR := Lib.hid hr
  have HO := Lib.hid ho
  clear hr ho
  generalize l.length = len at *
  go_enter Tryz.func88, Tryz.ntmps88
  go_wp2_with fail
  refine (kinds_any _).mono ?_
  rintro e w1 ⟨rfl, hq, hz1, hb1⟩
  have HQ := Lib.hid hq
  have HZ1 := Lib.hid hz1
  have hn1 : NodeAt w1 w.heap.size 0 n := NodeAt.below (Blk.node (Blk.new' rfl)) hb1 (by simp)
  have hl1 : Below w.heap.size w w1 := andThen (andAlloc (Below.refl _ _) _) hb1
  clear hq hz1 hb1
  have hld1 : ∀ o : Obj, (ldN ⟨w.heap.size, 0, none⟩).run Tryz.prog (w1.alloc o) = .ok (.agg (nc n)) (w1.alloc o) := fun o => run_ldN (hn1.alloc o)
  go_wp2_with (first
    | (refine wpList_store_row rfl 168 _ _ rfl w1.heap.size (ktab (w.heap.size + 1 + 1)) rfl rfl 168 Tryz.zeroCells168 (Blk.new' rfl) (by rw [ktab_size]; exact kinds_info) (by rw [ktab_size]; exact zero_size) (ktab_one _) ?_)
    | fail)
  have hq2 : (w1.alloc (.cells (ktab (w.heap.size + 1 + 1)) 168)).cell? ⟨w.heap.size + 1 + 1, 0, none⟩ = some (.func (.func 125) #[] #[]) := by
    have h1 := HQ.out
    have h2 := HZ1.out
    simp at h1 h2
    exact (World.cell?_alloc_past (w := w1) _ _ _ (by omega)).trans h1
  have hw2 := andAlloc hl1 (.cells (ktab (w.heap.size + 1 + 1)) 168)
  have hn2 := hn1.alloc (.cells (ktab (w.heap.size + 1 + 1)) 168)
  refine (right_any n w1.heap.size (w.heap.size + 1 + 1) _ (Blk.new' rfl) hq2).mono ?_
  rintro e w2 ⟨rfl, hb2⟩
  have hl2 := andThen hw2 hb2
  have hn2' := hn2.below hb2 hn2.lt
  have hc2 : w2.cell? ⟨w.heap.size, 0, none⟩ = some (.int .i64 n.kind) := hn2' 0 _ rfl
  have hz2 := hn2'.lt
  rw [HR.out]
  have hld2 : (ldN ⟨w.heap.size, 0, none⟩).run Tryz.prog w2 = .ok (.agg (nc n)) w2 := run_ldN hn2'
  have hld3 : ∀ o : Obj, (ldN ⟨w.heap.size, 0, none⟩).run Tryz.prog (w2.alloc o) = .ok (.agg (nc n)) (w2.alloc o) := fun o => run_ldN (hn2'.alloc o)
  clear hq2 hw2 hn2 hb2 hn1 hl1 HQ HZ1 hld1
  go_wp2_with (first
    | (go_at_call 79; (with_reducible refine (opens_any _ _).mono ?_); rintro e w' ⟨rfl, rfl⟩; simp only [HO.out]))
  go_ret2
  exact ⟨rfl, andAlloc hl2 _⟩
set_option maxHeartbeats 2000000 in
set_option maxRecDepth 100000 in
theorem wrap_d (n : Nd) (A : Option Addr) (l : List Nd) (c : Nat) (w : World) (hr : right n = true) (ho : opensB n = true) (h10 : n.kind = 10) :
    Calls Tryz.prog 88 #[.agg (nc n), .slice A l.length c] w fun e w' => e = .returned (.tuple #[.slice none 0 0, .int .i64 1]) ∧ Below w.heap.size w w' := by
  have HR := Lib.hid hr
  have HO := Lib.hid ho
  have e10 : (n.kind == 10) = true := by simp [h10]
  clear hr ho h10
  generalize l.length = len at *
  go_enter Tryz.func88, Tryz.ntmps88
  go_wp2_with fail
  refine (kinds_any _).mono ?_
  rintro e w1 ⟨rfl, hq, hz1, hb1⟩
  have HQ := Lib.hid hq
  have HZ1 := Lib.hid hz1
  have hn1 : NodeAt w1 w.heap.size 0 n := NodeAt.below (Blk.node (Blk.new' rfl)) hb1 (by simp)
  have hl1 : Below w.heap.size w w1 := andThen (andAlloc (Below.refl _ _) _) hb1
  clear hq hz1 hb1
  have hld1 : ∀ o : Obj, (ldN ⟨w.heap.size, 0, none⟩).run Tryz.prog (w1.alloc o) = .ok (.agg (nc n)) (w1.alloc o) := fun o => run_ldN (hn1.alloc o)
  go_wp2_with (first
    | (refine wpList_store_row rfl 168 _ _ rfl w1.heap.size (ktab (w.heap.size + 1 + 1)) rfl rfl 168 Tryz.zeroCells168 (Blk.new' rfl) (by rw [ktab_size]; exact kinds_info) (by rw [ktab_size]; exact zero_size) (ktab_one _) ?_)
    | fail)
  have hq2 : (w1.alloc (.cells (ktab (w.heap.size + 1 + 1)) 168)).cell? ⟨w.heap.size + 1 + 1, 0, none⟩ = some (.func (.func 125) #[] #[]) := by
    have h1 := HQ.out
    have h2 := HZ1.out
    simp at h1 h2
    exact (World.cell?_alloc_past (w := w1) _ _ _ (by omega)).trans h1
  have hw2 := andAlloc hl1 (.cells (ktab (w.heap.size + 1 + 1)) 168)
  have hn2 := hn1.alloc (.cells (ktab (w.heap.size + 1 + 1)) 168)
  refine (right_any n w1.heap.size (w.heap.size + 1 + 1) _ (Blk.new' rfl) hq2).mono ?_
  rintro e w2 ⟨rfl, hb2⟩
  have hl2 := andThen hw2 hb2
  have hn2' := hn2.below hb2 hn2.lt
  have hc2 : w2.cell? ⟨w.heap.size, 0, none⟩ = some (.int .i64 n.kind) := hn2' 0 _ rfl
  have hz2 := hn2'.lt
  rw [HR.out]
  have hld2 : (ldN ⟨w.heap.size, 0, none⟩).run Tryz.prog w2 = .ok (.agg (nc n)) w2 := run_ldN hn2'
  have hld3 : ∀ o : Obj, (ldN ⟨w.heap.size, 0, none⟩).run Tryz.prog (w2.alloc o) = .ok (.agg (nc n)) (w2.alloc o) := fun o => run_ldN (hn2'.alloc o)
  clear hq2 hw2 hn2 hb2 hn1 hl1 HQ HZ1 hld1
  go_wp2_with (first
    | (go_at_call 79; (with_reducible refine (opens_any _ _).mono ?_); rintro e w' ⟨rfl, rfl⟩; simp only [HO.out]))
  go_ret2
  exact ⟨rfl, andAlloc hl2 _⟩
set_option maxHeartbeats 2000000 in
set_option maxRecDepth 100000 in
theorem wrap_c (n : Nd) (A : Option Addr) (l : List Nd) (c : Nat) (w : World) (hl : l.length ≤ 9223372036854775806) (hseg : Seg w w.heap.size A (l.flatMap ncs)) (hr : right n = true) (ho : opensB n = true) (h10 : ¬ n.kind = 10) (hc : ¬ chk l = 0) :
    Calls Tryz.prog 88 #[.agg (nc n), .slice A l.length c] w fun e w' => e = .returned (.tuple #[.slice none 0 0, .int .i64 (chk l)]) ∧ Below w.heap.size w w' := by
  have e10 : (n.kind == 10) = false := by simp [h10]
  have HO := Lib.hid ho
  have HR := Lib.hid hr
  have HC := Lib.hid fun w1 (h : Below w.heap.size w w1) => check_any A l c w1 (by omega) (Seg.belowW hseg h)
  have e0 : (chk l != 0) = true := by simp [hc]
  clear hc ho hr hseg h10
  generalize chk l = q0 at *
  generalize l.length = len at *
  go_enter Tryz.func88, Tryz.ntmps88
  go_wp2_with fail
  refine (kinds_any _).mono ?_
  rintro e w1 ⟨rfl, hq, hz1, hb1⟩
  have HQ := Lib.hid hq
  have HZ1 := Lib.hid hz1
  have hn1 : NodeAt w1 w.heap.size 0 n := NodeAt.below (Blk.node (Blk.new' rfl)) hb1 (by simp)
  have hl1 : Below w.heap.size w w1 := andThen (andAlloc (Below.refl _ _) _) hb1
  clear hq hz1 hb1
  have hld1 : ∀ o : Obj, (ldN ⟨w.heap.size, 0, none⟩).run Tryz.prog (w1.alloc o) = .ok (.agg (nc n)) (w1.alloc o) := fun o => run_ldN (hn1.alloc o)
  go_wp2_with (first
    | (refine wpList_store_row rfl 168 _ _ rfl w1.heap.size (ktab (w.heap.size + 1 + 1)) rfl rfl 168 Tryz.zeroCells168 (Blk.new' rfl) (by rw [ktab_size]; exact kinds_info) (by rw [ktab_size]; exact zero_size) (ktab_one _) ?_)
    | fail)
  have hq2 : (w1.alloc (.cells (ktab (w.heap.size + 1 + 1)) 168)).cell? ⟨w.heap.size + 1 + 1, 0, none⟩ = some (.func (.func 125) #[] #[]) := by
    have h1 := HQ.out
    have h2 := HZ1.out
    simp at h1 h2
    exact (World.cell?_alloc_past (w := w1) _ _ _ (by omega)).trans h1
  have hw2 := andAlloc hl1 (.cells (ktab (w.heap.size + 1 + 1)) 168)
  have hn2 := hn1.alloc (.cells (ktab (w.heap.size + 1 + 1)) 168)
  refine (right_any n w1.heap.size (w.heap.size + 1 + 1) _ (Blk.new' rfl) hq2).mono ?_
  rintro e w2 ⟨rfl, hb2⟩
  have hl2 := andThen hw2 hb2
  have hn2' := hn2.below hb2 hn2.lt
  have hc2 : w2.cell? ⟨w.heap.size, 0, none⟩ = some (.int .i64 n.kind) := hn2' 0 _ rfl
  have hz2 := hn2'.lt
  rw [HR.out]
  have hld2 : (ldN ⟨w.heap.size, 0, none⟩).run Tryz.prog w2 = .ok (.agg (nc n)) w2 := run_ldN hn2'
  have hld3 : ∀ o : Obj, (ldN ⟨w.heap.size, 0, none⟩).run Tryz.prog (w2.alloc o) = .ok (.agg (nc n)) (w2.alloc o) := fun o => run_ldN (hn2'.alloc o)
  clear hq2 hw2 hn2 hb2 hn1 hl1 HQ HZ1 hld1
  go_wp2_with (first
    | (go_at_call 79; (with_reducible refine (opens_any _ _).mono ?_); rintro e w' ⟨rfl, rfl⟩; simp only [HO.out]))
  have hl3 := andAlloc hl2 (.cells (nc n) 101)
  have hn3 := hn2'.alloc (.cells (nc n) 101)
  refine (HC.out _ hl3).mono ?_
  rintro e w3 ⟨rfl, hb3⟩
  have HL3 := Lib.hid (andThen hl3 hb3)
  clear hl2 hn2' hc2 hz2 hld2 hld3 hl3 hn3 hb3 HC
  go_wp2_with fail
  go_ret2
  exact ⟨rfl, HL3.out⟩
set_option maxHeartbeats 2000000 in
set_option maxRecDepth 100000 in
theorem wrap_w (n : Nd) (A : Option Addr) (l : List Nd) (c : Nat) (w : World) (hsrc : Src w A c l) (hr : right n = true) (ho : opensB n = true) (h10 : ¬ n.kind = 10) (hc : chk l = 0) (hw : ¬ chk (wrapL n l) = 0) :
    Calls Tryz.prog 88 #[.agg (nc n), .slice A l.length c] w fun e w' => e = .returned (.tuple #[.slice none 0 0, .int .i64 (chk (wrapL n l))]) ∧ Below w.heap.size w w' := by
  have hl := (chk_run hc).1
  have e10 : (n.kind == 10) = false := by simp [h10]
  have HO := Lib.hid ho
  have HR := Lib.hid hr
  have HC := Lib.hid fun w1 (h : Below w.heap.size w w1) => check_any A l c w1 (by omega) (Src.below hsrc h).seg
  have HE := Lib.hid hc
  have HS := Lib.hid hsrc
  have e0 : (chk (wrapL n l) != 0) = true := by simp [hw]
  generalize hqw : chk (wrapL n l) = q0 at *
  have HQW := Lib.hid hqw
  rw [HE.out] at HC
  clear hc ho hr hsrc hw h10 hqw
  go_enter Tryz.func88, Tryz.ntmps88
  go_wp2_with fail
  refine (kinds_any _).mono ?_
  rintro e w1 ⟨rfl, hq, hz1, hb1⟩
  have HQ := Lib.hid hq
  have HZ1 := Lib.hid hz1
  have hn1 : NodeAt w1 w.heap.size 0 n := NodeAt.below (Blk.node (Blk.new' rfl)) hb1 (by simp)
  have hl1 : Below w.heap.size w w1 := andThen (andAlloc (Below.refl _ _) _) hb1
  clear hq hz1 hb1
  have hld1 : ∀ o : Obj, (ldN ⟨w.heap.size, 0, none⟩).run Tryz.prog (w1.alloc o) = .ok (.agg (nc n)) (w1.alloc o) := fun o => run_ldN (hn1.alloc o)
  go_wp2_with (first
    | (refine wpList_store_row rfl 168 _ _ rfl w1.heap.size (ktab (w.heap.size + 1 + 1)) rfl rfl 168 Tryz.zeroCells168 (Blk.new' rfl) (by rw [ktab_size]; exact kinds_info) (by rw [ktab_size]; exact zero_size) (ktab_one _) ?_)
    | fail)
  have hq2 : (w1.alloc (.cells (ktab (w.heap.size + 1 + 1)) 168)).cell? ⟨w.heap.size + 1 + 1, 0, none⟩ = some (.func (.func 125) #[] #[]) := by
    have h1 := HQ.out
    have h2 := HZ1.out
    simp at h1 h2
    exact (World.cell?_alloc_past (w := w1) _ _ _ (by omega)).trans h1
  have hw2 := andAlloc hl1 (.cells (ktab (w.heap.size + 1 + 1)) 168)
  have hn2 := hn1.alloc (.cells (ktab (w.heap.size + 1 + 1)) 168)
  refine (right_any n w1.heap.size (w.heap.size + 1 + 1) _ (Blk.new' rfl) hq2).mono ?_
  rintro e w2 ⟨rfl, hb2⟩
  have hl2 := andThen hw2 hb2
  have hn2' := hn2.below hb2 hn2.lt
  have hc2 : w2.cell? ⟨w.heap.size, 0, none⟩ = some (.int .i64 n.kind) := hn2' 0 _ rfl
  have hz2 := hn2'.lt
  rw [HR.out]
  have hld2 : (ldN ⟨w.heap.size, 0, none⟩).run Tryz.prog w2 = .ok (.agg (nc n)) w2 := run_ldN hn2'
  have hld3 : ∀ o : Obj, (ldN ⟨w.heap.size, 0, none⟩).run Tryz.prog (w2.alloc o) = .ok (.agg (nc n)) (w2.alloc o) := fun o => run_ldN (hn2'.alloc o)
  clear hq2 hw2 hn2 hb2 hn1 hl1 HQ HZ1 hld1
  go_wp2_with (first
    | (go_at_call 79; (with_reducible refine (opens_any _ _).mono ?_); rintro e w' ⟨rfl, rfl⟩; simp only [HO.out]))
  have hl3 := andAlloc hl2 (.cells (nc n) 101)
  have hn3 := hn2'.alloc (.cells (nc n) 101)
  refine (HC.out _ hl3).mono ?_
  rintro e w3 ⟨rfl, hb3⟩
  have HL3 := Lib.hid (andThen hl3 hb3)
  have hn4 := hn3.below hb3 hn3.lt
  have hld4 : (ldN ⟨w.heap.size, 0, none⟩).run Tryz.prog w3 = .ok (.agg (nc n)) w3 := run_ldN hn4
  have hb6 := run_bldN 6
  have HSR := Lib.hid (fun (W : World) (h : Below w.heap.size w W) => Src.below HS.out h)
  have HO1 := Lib.hid (own_one w3 n)
  have HLA := Lib.hid (andAlloc HL3.out (.cells (nc n) 101))
  clear hl2 hn2' hc2 hz2 hld2 hld3 hl3 hn3 hb3 hn4 HC
  go_wp2_with (first
    | (refine wpList_ex (o := ⟨some 30, _, _, _, _, _⟩) (v := .slice (some ⟨w3.heap.size, 0, none⟩) 1 1) (w' := w3.alloc (.cells (nc n) 101)) rfl (by kernel_rfl) ?_)
    | (at_builtin; refine wpList_append_nodes rfl (.tmp 30) (.tmp 31) rfl w3.heap.size ?_ _ 1 _ rfl HO1.out A c l rfl (HSR.out _ HLA.out) ?_ ?_; simp; omega; intro v1 W1 hown1 hg1; have hlw1 : Below w.heap.size w W1 := below_grown (Nat.le_refl _) HLA.out hg1 (fun g hg => by have hh := HL3.out.size; have hg' : some w3.heap.size = some g := hg; injection hg' with hg'; omega))
    | (refine wpList_build_eq (o := ⟨some 34, _, _, _, _, _⟩) rfl _ _ rfl (nc (nz 6)) (by kernel_rfl) ?_)
    | (refine wpList_ex (o := ⟨some 35, _, _, _, _, _⟩) (v := .slice (some ⟨W1.heap.size, 0, none⟩) 1 1) (w' := W1.alloc (.cells (nc (nz 6)) 101)) rfl (by kernel_rfl) ?_)
    | (at_builtin; refine wpList_push rfl (.tmp 33) (.tmp 35) 39 rfl w3.heap.size 101 _ 19 160 Tryz.underlying39 node_row rfl (by decide) (by decide) _ _ _ rfl hown1 ?_ _ rfl rfl rfl rfl ?_ ?_; (have hh := hg1.size; simp at hh; omega); omega; intro v2 W2 hown2 hg2 hnn2)
    | fail)
  have hg2' : (W1.alloc (.cells (nc (nz 6)) 101)).grownBy W2 v1.ownBlock := hg2
  clear hg2 hnn2
  have hlw2 : Below w.heap.size w W2 := below_grown (Nat.le_refl _) (andAlloc hlw1 _) hg2' (fun g hg => by
    have h1 := hown1.lt g hg
    have h2 := HL3.out.size
    omega)
  have hfl : (wrapL n l).flatMap ncs = ncs n ++ l.flatMap ncs ++ (nc (nz 6)).toList := by
    show _ = ncs n ++ l.flatMap ncs ++ ncs (nz 6)
    simp [wrapL, List.flatMap_append]
  have hln : 1 + l.length + 1 = (wrapL n l).length := by
    simp [wrapL]
    omega
  rw [← hfl, hln] at hown2
  have HOW := Lib.hid (own_base hown2 (show w.heap.size ≤ w3.heap.size from HL3.out.size))
  obtain ⟨A2, c2, rfl, hc2, hm2, hs2⟩ := Seg.of_own hown2
  have hch := check_any A2 (wrapL n l) c2 W2 (by rw [← hln]; omega) hs2
  rw [HQW.out] at hch
  have HLW2 := Lib.hid hlw2
  clear hg2' hown2 hown1 hg1 hlw1 hlw2 hfl hs2 hm2 HSR HO1 HLA hld4 hb6
  generalize hwl : (wrapL n l).length = wl at *
  have HWL := Lib.hid hwl
  clear hwl
  refine hch.mono ?_
  rintro e w5 ⟨rfl, hb5⟩
  have HLF := Lib.hid (andThen HLW2.out hb5)
  clear hch hb5 HOW HLW2
  go_wp2_with fail
  go_ret2
  exact ⟨rfl, HLF.out⟩
end Go.Proofs.YtoboecenlangmaaGreat.No
end
section
namespace Go.Proofs.YtoboecenlangmaaGreat.Pk
open Go.ChangeShapes Go.WideShapes Go.ChangeAt Go.RowKit
open Me Np No
set_option linter.unusedVariables false
set_option linter.unusedSimpArgs false

/-- How long a list is; how high (along a row) or how wide (down a column). -/
noncomputable def natD (l : List Nd) (down : Bool) : Int := (totR l down (itsD l)).nat
noncomputable def extH (l : List Nd) (down : Bool) : Int := if (dimB (extD l down (itsD l)).1 && dimB (extD l down (itsD l)).2) = true then (extD l down (itsD l)).1 else 0
/-- What a list's measures are, where it is one: the program's. -/
theorem msr_prog (l : List Nd) (down : Bool) (hc : chk l = 0) : ∃ x a b c d p q r s e1 h v e2, Msr l down x a b c d p q r s e1 h v e2 ∧ (e1 = 0 ∨ e1 = 20) ∧ x = natD l down ∧ h = extH l down := by
  obtain ⟨xs, hx⟩ := its_of_chk hc
  have hT := totR_len l down xs
  have hB := totD_tb down hc hx
  have hND : natD l down = (totR l down xs).nat := by unfold natD; rw [itsD_of hx]
  have hEH : extH l down = if (dimB (extD l down xs).1 && dimB (extD l down xs).2) = true then (extD l down xs).1 else 0 := by unfold extH; rw [itsD_of hx]
  obtain ⟨⟨x, st, sh⟩, hTe⟩ : ∃ T, totR l down xs = T := ⟨_, rfl⟩
  rw [hTe] at hT hND
  match st, sh, hT.1, hT.2 with
  | [a, b, c, d], [p, q, r, s], _, _ =>
  have ht := fun A k w h hs => totals_any A l k xs down w hc h hs hx
  simp only [hTe] at ht
  obtain ⟨ext, hext⟩ : ∃ E, extD l down xs = E := ⟨_, rfl⟩
  have hu := fun A k w h hs => extent_good A l k xs down w hc h hs hx
  simp only [hext] at hu hEH
  refine ⟨x, a, b, c, d, p, q, r, s, _, _, _, _, ⟨ht, hu, ?_, ?_, ?_, ?_⟩, ?_, hND.symm, hEH.symm⟩
  · intro h0
    have hd : dimB (totD l down xs).nat = true := by
      by_cases hd : dimB (totD l down xs).nat = true
      · exact hd
      · rw [if_neg hd] at h0; cases h0
    have : totR l down xs = totD l down xs := if_pos hd
    rw [hTe] at this
    rw [← this] at hd
    exact hd
  · intro h0
    have hd : dimB (totD l down xs).nat = true := by
      by_cases hd : dimB (totD l down xs).nat = true
      · exact hd
      · rw [if_neg hd] at h0; cases h0
    have he : totR l down xs = totD l down xs := if_pos hd
    rw [hTe] at he
    rw [← he] at hB
    exact ⟨near_of (hB.st 0), near_of (hB.st 1), near_of (hB.st 2), near_of (hB.st 3), near_of (hB.sh 0), near_of (hB.sh 1), near_of (hB.sh 2), near_of (hB.sh 3)⟩
  · intro _
    split
    · exact .inl rfl
    · exact .inr rfl
  · intro h0
    split at h0
    · rename_i h1
      rw [if_pos h1, if_pos h1]
      simp only [Bool.and_eq_true] at h1
      exact h1
    · cases h0
  · split
    · exact .inl rfl
    · exact .inr rfl
/-- Wrap, of a list. -/
theorem pwrp_case (n : Nd) (ns : List Nd) (hc : chk ns = 0) : ∃ L e, ((e = 0 ∧ L = wrapL n ns ∧ chk (wrapL n ns) = 0 ∧ opensB n = true ∧ right n = true) ∨ (¬ e = 0 ∧ L = [])) ∧ ∀ (A : Option Addr) (c : Nat) (w : World), Src w A c ns →
    Calls Tryz.prog 88 #[.agg (nc n), .slice A ns.length c] w fun e' w' => ∃ v, e' = .returned (.tuple #[v, .int .i64 e]) ∧ w'.ownsRow w.heap.size 101 19 v L.length (L.flatMap ncs) ∧ Below w.heap.size w w' := by
  cases hr : right n
  · refine ⟨[], 1, .inr ⟨by omega, rfl⟩, fun A c w hs => (wrap_r n A ns c w hr).mono ?_⟩
    rintro e w' ⟨rfl, hb⟩; exact ⟨_, rfl, World.ownsRow_nil _ _ _ _, hb⟩
  · cases ho : opensB n
    · refine ⟨[], 1, .inr ⟨by omega, rfl⟩, fun A c w hs => (wrap_o n A ns c w hr ho).mono ?_⟩
      rintro e w' ⟨rfl, hb⟩; exact ⟨_, rfl, World.ownsRow_nil _ _ _ _, hb⟩
    · by_cases h10 : n.kind = 10
      · refine ⟨[], 1, .inr ⟨by omega, rfl⟩, fun A c w hs => (wrap_d n A ns c w hr ho h10).mono ?_⟩
        rintro e w' ⟨rfl, hb⟩; exact ⟨_, rfl, World.ownsRow_nil _ _ _ _, hb⟩
      · by_cases hw : chk (wrapL n ns) = 0
        · refine ⟨wrapL n ns, 0, .inl ⟨rfl, rfl, hw, rfl, rfl⟩, fun A c w hs => (wrap_ok n A ns c w hs hr ho h10 hc hw).mono ?_⟩
          rintro e w' ⟨v, rfl, h, hb⟩; exact ⟨v, rfl, h, hb⟩
        · refine ⟨[], chk (wrapL n ns), .inr ⟨hw, rfl⟩, fun A c w hs => (wrap_w n A ns c w hs hr ho h10 hc hw).mono ?_⟩
          rintro e w' ⟨rfl, hb⟩; exact ⟨_, rfl, World.ownsRow_nil _ _ _ _, hb⟩
/-- A row that is packed. -/
def HpkG (ns : List Nd) (tw : Int) (ex : Bool) (R : List Nd × List Nd × Int × Int × Int) : Prop :=
  ∃ S O x a b c d p q r s h v W F, partD ns = (S, O) ∧ chk ns = 0 ∧ Msr S false x a b c d p q r s 0 h v 0 ∧ W = (if ex = true then tw else tw + x) ∧ dimB W = true ∧ F = Gl.fit a b c d p q r s (W - x) ∧ chk (wrapL (fitN (hN W h v) F) S) = 0 ∧
    R = (wrapL (fitN (hN W h v) F) S, O, (setV (fitN (hN W h v) F) a p ((S.length : Int) == 0) (W - x) (0, 0)).1, (setV (fitN (hN W h v) F) a p ((S.length : Int) == 0) (W - x) (0, 0)).2, 0)
def HpkN (R : List Nd × List Nd × Int × Int × Int) : Prop := R.1 = [] ∧ R.2.1 = [] ∧ R.2.2.1 = 0 ∧ R.2.2.2.1 = 0 ∧ ¬ R.2.2.2.2 = 0
theorem hpk1_case (ns : List Nd) (tw : Int) (ex : Bool) (hl : ns.length ≤ 9223372036854775806) : ∃ R, R.1.length ≤ 2002 ∧ R.2.1.length ≤ 2000 ∧ (HpkG ns tw ex R ∨ HpkN R) ∧
    ∀ (A : Option Addr) (k : Nat) (w : World), ns.length ≤ k → Seg w w.heap.size A (ns.flatMap ncs) → Calls Tryz.prog 16 #[.slice A ns.length k, .int .i64 tw, .bool ex] w (HOut R w) := by
  by_cases hc : chk ns = 0
  · cases ht : dimB tw
    · exact ⟨([], [], 0, 0, 11), by simp, by simp, .inr ⟨rfl, rfl, rfl, rfl, by simp⟩, fun A k w hk hs => hpack_far A ns k tw ex w hl hs hc ht⟩
    · obtain ⟨S, O, hS⟩ : ∃ S O, partD ns = (S, O) := ⟨_, _, rfl⟩
      have hlen := partD_len hc
      have hchk := partD_chk hc
      rw [hS] at hlen hchk
      obtain ⟨x, a, b, c, d, p, q, r, s, e1, h, v, e2, M, h20, hxN, hhE⟩ := msr_prog S false hchk.1
      obtain ⟨W, hW⟩ : ∃ W, W = if ex = true then tw else tw + x := ⟨_, rfl⟩
      obtain ⟨L, e3, hL, hP⟩ := pwrp_case (fitN (hN W h v) (Gl.fit a b c d p q r s (W - x))) S hchk.1
      have hm := fun A k w hk hs => hpack_main A ns S O L k tw ex w hc hk hs ht hS x a b c d p q r s e1 h v e2 e3 W M hW hP
      by_cases h1 : e1 = 0
      · by_cases h2 : e2 = 0
        · by_cases h3 : dimB W = true
          · rcases hL with ⟨h4, rfl, hcw, ho, hrt⟩ | ⟨h4, rfl⟩
            · subst h1 h2 h4
              refine ⟨_, ?_, ?_, .inl ⟨S, O, x, a, b, c, d, p, q, r, s, h, v, W, _, hS, hc, M, hW, h3, rfl, hcw, ?_⟩, hm⟩
              · unfold hpkR; rw [if_pos rfl, if_pos rfl, if_pos h3, if_pos rfl]; have := (chk_run hcw).1; show (wrapL _ _).length ≤ 2002; omega
              · unfold hpkR; rw [if_pos rfl, if_pos rfl, if_pos h3, if_pos rfl]; exact hlen.2
              · unfold hpkR; rw [if_pos rfl, if_pos rfl, if_pos h3, if_pos rfl]
            · have e : ∀ y z, hpkR e1 e2 (dimB W) e3 [] O y z = ([], [], 0, 0, e3) := by intro y z; unfold hpkR; rw [if_pos h1, if_pos h2, if_pos h3, if_neg h4]
              simp only [e] at hm
              exact ⟨_, by simp, by simp, .inr ⟨rfl, rfl, rfl, rfl, h4⟩, hm⟩
          · have e : ∀ y z, hpkR e1 e2 (dimB W) e3 L O y z = ([], [], 0, 0, 20) := by intro y z; unfold hpkR; rw [if_pos h1, if_pos h2, if_neg h3]
            simp only [e] at hm
            exact ⟨_, by simp, by simp, .inr ⟨rfl, rfl, rfl, rfl, by simp⟩, hm⟩
        · have e : ∀ y z, hpkR e1 e2 (dimB W) e3 L O y z = ([], [], 0, 0, e2) := by intro y z; unfold hpkR; rw [if_pos h1, if_neg h2]
          simp only [e] at hm
          exact ⟨_, by simp, by simp, .inr ⟨rfl, rfl, rfl, rfl, h2⟩, hm⟩
      · have e : ∀ y z, hpkR e1 e2 (dimB W) e3 L O y z = ([], [], 0, 0, e1) := by intro y z; unfold hpkR; rw [if_neg h1]
        simp only [e] at hm
        exact ⟨_, by simp, by simp, .inr ⟨rfl, rfl, rfl, rfl, h1⟩, hm⟩
  · exact ⟨([], [], 0, 0, chk ns), by simp, by simp, .inr ⟨rfl, rfl, rfl, rfl, hc⟩, fun A k w hk hs => hpack_err A ns k tw ex w hl hs hc⟩
end Go.Proofs.YtoboecenlangmaaGreat.Pk
end
section
namespace Go.Proofs.YtoboecenlangmaaGreat.Pk
open Go.ChangeShapes Go.WideShapes Go.ChangeAt Go.RowKit
open Me Np No
set_option linter.unusedVariables false
set_option linter.unusedSimpArgs false

theorem seg_own {w : World} {base n c : Nat} {A : Option Addr} {xs : List Value} (h : w.ownsRow base 101 19 (.slice A n c) n xs) : Seg w w.heap.size A xs := by
  obtain ⟨A1, c1, e, _, _, hs⟩ := Seg.of_own h
  injection e with e _ _
  subst e
  exact hs
theorem val_own {w : World} {base : Nat} {e : TypeId} {size n : Nat} {v : Value} {xs : List Value} (h : w.ownsRow base e size v n xs) : ∃ A c, v = .slice A n c ∧ n ≤ c := by
  obtain ⟨A, c, h1, h2, _⟩ := Seg.of_own h
  exact ⟨A, c, h1, h2⟩
theorem opens_beg {n : Nd} (h : opensB n = true) : ¬ n.kind = 6 ∧ ¬ n.kind = 11 := by
  constructor
  · intro e; simp [opensB, e] at h
  · intro e; simp [opensB, e] at h
/-- The first node of a row of one's own. -/
theorem head_cells {w : World} {base k : Nat} {A : Option Addr} {L : List Nd} {n : Nd} {r : List Nd} (ho : w.ownsRow base 101 19 (.slice A L.length k) L.length (L.flatMap ncs)) (hL : L = n :: r) :
    ∃ b off : Nat, A = some ⟨b, off, none⟩ ∧ ∀ w', Below w.heap.size w w' → w'.cell? ⟨b, off + 3, none⟩ = some (.int .i64 n.wd) ∧ w'.cell? ⟨b, off + 4, none⟩ = some (.int .i64 n.ht) ∧ w'.cell? ⟨b, off + 5, none⟩ = some (.int .i64 n.dp) ∧ w'.cell? ⟨b, off + 12, none⟩ = some (.int .i64 n.sign) := by
  obtain ⟨b, off, hA, hb, hn⟩ := seg_node (seg_own ho) (k := 0) (n := n) (by rw [hL]; rfl)
  refine ⟨b, off, hA, fun w' h => ?_⟩
  have h2 := hn.below h hb
  rw [Nat.zero_mul, Nat.add_zero] at h2
  exact ⟨h2 3 _ rfl, h2 4 _ rfl, h2 5 _ rfl, h2 12 _ rfl⟩
end Go.Proofs.YtoboecenlangmaaGreat.Pk
end
section
namespace Go.Proofs.YtoboecenlangmaaGreat.Al
open Go.ChangeShapes Go.WideShapes Go.ChangeAt Go.RowKit
open Me Np No Pk
set_option linter.unusedVariables false
set_option linter.unusedSimpArgs false

/-- Two contracts of one call tell of one end. -/
theorem agree {P : Program} {f : FuncId} {args : Array Value} {w : World} {R R' : Value → World → Prop}
    (h : Calls P f args w fun e w' => ∃ v, e = .returned v ∧ R v w') (h' : Calls P f args w fun e w' => ∃ v, e = .returned v ∧ R' v w') (hi : P.inits.idxOf? f = none) : ∃ v w', R v w' ∧ R' v w' := by
  have k : Calls P f args w fun | .returned v, w' => R v w' | _, _ => False := h.mono (by rintro e w' ⟨v, rfl, hr⟩; exact hr)
  have k' : Calls P f args w fun | .returned v, w' => R' v w' | _, _ => False := h'.mono (by rintro e w' ⟨v, rfl, hr⟩; exact hr)
  obtain ⟨n, v, w1, e1, r1⟩ := k.done hi
  obtain ⟨m, v', w2, e2, r2⟩ := k'.done hi
  have a := runN_ended e1 m
  have b := runN_ended e2 n
  rw [Nat.add_comm, a] at b
  injection b with ho hw
  injection ho with hv
  subst hv hw
  exact ⟨_, _, r1, r2⟩

/-- p: the error, and how wide. -/
def HW (l : List Nd) (p : Int × Int) : Prop :=
  (p.1 = 0 → dimB p.2 = true) ∧ ∃ R, R.2.2.2.2 = p.1 ∧ R.1.length ≤ 2002 ∧ R.2.1.length ≤ 2000 ∧ (p.1 = 0 → ∃ n r, R.1 = n :: r ∧ n.wd = p.2) ∧ (¬ p.1 = 0 → R.1 = []) ∧
    ∀ (A : Option Addr) (k : Nat) (w : World), l.length ≤ k → Seg w w.heap.size A (l.flatMap ncs) → Calls Tryz.prog 16 #[.slice A l.length k, .int .i64 0, .bool false] w (HOut R w)
theorem hw_ex (l : List Nd) (hl : l.length ≤ 9223372036854775806) : ∃ p, HW l p := by
  obtain ⟨R, h1, h2, hG, hc⟩ := hpk1_case l 0 false hl
  rcases hG with ⟨S, O, x, a, b, c, d, p, q, r, s, h, v, W, F, hS, hch, M, hW, hd, hF, hw, hR⟩ | ⟨hN1, _, _, _, hN⟩
  · refine ⟨(0, W), fun _ => hd, R, ?_, h1, h2, fun _ => ⟨_, _, by rw [hR]; rfl, rfl⟩, fun h => absurd rfl h, hc⟩
    rw [hR]
  · exact ⟨(R.2.2.2.2, 0), fun h => absurd h hN, R, rfl, h1, h2, fun h => absurd h hN, fun _ => hN1, hc⟩
open Classical in
noncomputable def wd (l : List Nd) : Int × Int := if h : ∃ p, HW l p then Classical.choose h else (0, 0)
theorem wd_is (l : List Nd) (hl : l.length ≤ 9223372036854775806) : HW l (wd l) := by
  have h := hw_ex l hl
  unfold wd
  rw [dif_pos h]
  exact Classical.choose_spec h
/-- What is known of one call is known of all. -/
theorem wd_of (w : World) (l : List Nd) (hl : l.length ≤ 9223372036854775806) (n : Nd) (r O : List Nd) (b o : Int)
    (hc : ∀ (A : Option Addr) (k : Nat) (w : World), l.length ≤ k → Seg w w.heap.size A (l.flatMap ncs) → Calls Tryz.prog 16 #[.slice A l.length k, .int .i64 0, .bool false] w (HOut (n :: r, O, b, o, 0) w)) : wd l = (0, n.wd) := by
  obtain ⟨_, R, hE, _, _, hg, _, hcall⟩ := wd_is l hl
  have hs : Seg (w.alloc (.cells (l.flatMap ncs).toArray 101)) (w.alloc (.cells (l.flatMap ncs).toArray 101)).heap.size (some ⟨w.heap.size, 0, none⟩) (l.flatMap ncs) :=
    .inr ⟨w.heap.size, 0, rfl, by simp, fun j u hu => by rw [Nat.zero_add, (Blk.new w _ _).cell j]; simpa using hu⟩
  have k1 := hcall (some ⟨w.heap.size, 0, none⟩) l.length _ (Nat.le_refl _) hs
  have k2 := hc (some ⟨w.heap.size, 0, none⟩) l.length _ (Nat.le_refl _) hs
  generalize w.alloc (.cells (l.flatMap ncs).toArray 101) = W at k1 k2
  obtain ⟨v, w', r1, r2⟩ := agree (R := fun v w' => ∃ x u, v = .tuple #[x, u, .int .i64 R.2.2.1, .int .i64 R.2.2.2.1, .int .i64 R.2.2.2.2] ∧ Own2 w' W.heap.size x u R.1 R.2.1)
    (R' := fun v w' => ∃ x u, v = .tuple #[x, u, .int .i64 b, .int .i64 o, .int .i64 0] ∧ Own2 w' W.heap.size x u (n :: r) O)
    (k1.mono (by rintro e w' ⟨x, u, rfl, ho, _⟩; exact ⟨_, rfl, x, u, rfl, ho⟩)) (k2.mono (by rintro e w' ⟨x, u, rfl, ho, _⟩; exact ⟨_, rfl, x, u, rfl, ho⟩)) (by kernel_rfl)
  obtain ⟨x, u, rfl, o1⟩ := r1
  obtain ⟨x', u', hv, o2⟩ := r2
  injection hv with hv
  injection hv with hv
  simp only [List.cons.injEq, Value.int.injEq, true_and, and_true] at hv
  obtain ⟨rfl, rfl, _, _, hz⟩ := hv
  rw [hz] at hE
  obtain ⟨n', r', hR1, hn'⟩ := hg hE.symm
  have q1 := o1.one
  have q2 := o2.one
  obtain ⟨A1, c1, rfl, _⟩ := val_own q1
  have hlen : R.1.length = (n :: r).length := by
    have e1 := q1.1
    have e2 := q2.1
    obtain ⟨A2, c2, e3, _⟩ := val_own q2
    injection e3
  rw [hlen] at q1
  have q1' : w'.ownsRow W.heap.size 101 19 (.slice A1 R.1.length c1) R.1.length (R.1.flatMap ncs) := by rw [hlen]; exact q1
  rw [hlen] at q2
  obtain ⟨b1, o1', hA1, hc1⟩ := head_cells q1' hR1
  obtain ⟨b2, o2', hA2, hc2⟩ := head_cells q2 rfl
  rw [hA1] at hA2
  simp only [Option.some.injEq, Addr.mk.injEq, and_true] at hA2
  obtain ⟨rfl, rfl⟩ := hA2
  have e1 := (hc1 w' (Below.refl _ _)).1
  have e2 := (hc2 w' (Below.refl _ _)).1
  rw [e1] at e2
  simp only [Option.some.injEq, Value.int.injEq, true_and] at e2
  exact Prod.ext hE.symm (hn'.symm.trans e2)

/-! ### a Kern alone -/
theorem end_right : right (nz 6) = true := right_s (nz 6) 6 rfl rfl rfl rfl
def kernN (x : Int) : Nd := { nz 8 with wd := x }
theorem kern_wd (w : World) (x : Int) (hx : dimB x = true) (hr : right (kernN x) = true) (hb : right (fitN (hN x 0 0) (0, 0, 0, 0)) = true) : wd [kernN x] = (0, x) := by
  have hc : chk [kernN x] = 0 := by
    have h : Np.run [kernN x] ([], 0) = some ([], 1) := by
      simp only [Np.run, stp, hr]
      rfl
    unfold chk
    rw [h]
    rfl
  have hi : Its [0] [kernN x] 0 := ⟨rfl, 1, rfl, rfl⟩
  have hS : partD [kernN x] = ([kernN x], []) := by
    unfold partD
    rw [itsD_of hi]
    rfl
  have ha : alD [kernN x] false 0 = x := alD_of ⟨kernN x, rfl, rfl⟩
  have ht : totD [kernN x] false [0] = ⟨x, [0, 0, 0, 0], [0, 0, 0, 0]⟩ := by
    have h : ∀ al : Nat → Int, al 0 = x → tsum [kernN x] al [0] tz = ⟨x, [0, 0, 0, 0], [0, 0, 0, 0]⟩ := by
      intro al h0
      simp only [tsum, h0]
      simp [kernN, nz, tz, tstep]
    exact h _ ha
  have he : extD [kernN x] false [0] = (0, 0) := by
    have h0 : roD [kernN x] 0 = (0, 0) := roD_of ⟨kernN x, rfl, rfl⟩
    have h : ∀ ra : Nat → Int × Int, ra 0 = (0, 0) → rfold ra [0] (0, 0) = (0, 0) := by
      intro ra h0
      simp only [rfold, h0]
      rfl
    exact h _ h0
  have hm : Msr [kernN x] false x 0 0 0 0 0 0 0 0 0 0 0 0 := by
    have h1 := fun A k w h hs => totals_any A [kernN x] k [0] false w hc h hs hi
    have hR : totR [kernN x] false [0] = ⟨x, [0, 0, 0, 0], [0, 0, 0, 0]⟩ := by
      unfold totR
      rw [ht, if_pos hx]
    have hu := fun A k w h hs => extent_good A [kernN x] k [0] false w hc h hs hi
    simp only [hR, ht, hx] at h1
    simp only [he] at hu
    exact ⟨h1, hu, fun _ => hx, fun _ => ⟨rfl, rfl, rfl, rfl, rfl, rfl, rfl, rfl⟩, fun _ => .inl rfl, fun _ => ⟨rfl, rfl⟩⟩
  have hbc : chk (wrapL (fitN (hN x 0 0) (0, 0, 0, 0)) [kernN x]) = 0 := by
    have h : Np.run (wrapL (fitN (hN x 0 0) (0, 0, 0, 0)) [kernN x]) ([], 0) = some ([], 2) := by
      simp only [wrapL, List.cons_append, List.nil_append, Np.run, stp, hr, hb, end_right]
      rfl
    unfold chk
    rw [h]
    rfl
  have hf : Gl.fit 0 0 0 0 0 0 0 0 (x - x) = (0, 0, 0, 0) := by rw [Int.sub_self]; rfl
  refine wd_of w [kernN x] (by simp) (fitN (hN x 0 0) (0, 0, 0, 0)) ([kernN x] ++ [nz 6]) [] 0 0 fun A k w hk hs => ?_
  have h := hpack_f A [kernN x] [kernN x] [] (wrapL (fitN (hN x 0 0) (0, 0, 0, 0)) [kernN x]) k 0 w hc hk hs rfl hS x 0 0 0 0 0 0 0 0 0 0 0 0 0 x hm (by omega) (fun A c' w hs => by
    rw [hf]
    exact (wrap_ok (fitN (hN x 0 0) (0, 0, 0, 0)) A [kernN x] c' w hs hb rfl (by simp [fitN, hN, nz]) hc hbc).mono (by rintro e w' ⟨v, rfl, h, hb⟩; exact ⟨v, rfl, h, hb⟩))
  have e : hpkR 0 0 (dimB x) 0 (wrapL (fitN (hN x 0 0) (0, 0, 0, 0)) [kernN x]) [] (setV (fitN (hN x 0 0) (Gl.fit 0 0 0 0 0 0 0 0 (x - x))) 0 0 (([kernN x].length : Int) == 0) (x - x) (0, 0)).1 (setV (fitN (hN x 0 0) (Gl.fit 0 0 0 0 0 0 0 0 (x - x))) 0 0 (([kernN x].length : Int) == 0) (x - x) (0, 0)).2 = (wrapL (fitN (hN x 0 0) (0, 0, 0, 0)) [kernN x], [], 0, 0, 0) := by
    rw [hf, Int.sub_self, hx]
    rfl
  rw [e] at h
  exact h
theorem kern_four (w : World) : wd [kernN 327680] = (0, 327680) ∧ wd [kernN 196608] = (0, 196608) ∧ wd [kernN 131072] = (0, 131072) ∧ wd [kernN 458752] = (0, 458752) :=
  ⟨kern_wd w _ rfl (right_s _ 8 rfl rfl rfl rfl) (right_s _ 4 rfl rfl rfl rfl), kern_wd w _ rfl (right_s _ 8 rfl rfl rfl rfl) (right_s _ 4 rfl rfl rfl rfl), kern_wd w _ rfl (right_s _ 8 rfl rfl rfl rfl) (right_s _ 4 rfl rfl rfl rfl), kern_wd w _ rfl (right_s _ 8 rfl rfl rfl rfl) (right_s _ 4 rfl rfl rfl rfl)⟩
end Go.Proofs.YtoboecenlangmaaGreat.Al
end
section
namespace Go.Proofs.YtoboecenlangmaaGreat.Al
open Go.RowKit (wrap64)
open Gl

/-- What is left of a width when the columns a .. a + k - 1 are taken away. -/
def less (f : Nat → Int) : Nat → Nat → Int → Int
  | _, 0, n => n
  | a, k + 1, n => less f (a + 1) k (wrap64 (n - f a))
/-- What a row asks of column j: of its cell that ends there. -/
def ask (f : Nat → Int) (j : Nat) : Nat → List (Int × Nat) → Option Int
  | _, [] => none
  | a, c :: r => if j < a + c.2 - 1 then none else if a + c.2 - 1 = j then some (less f a (j - a) c.1) else ask f j (a + c.2) r
def mx : Option Int → Option Int → Option Int
  | m, none => m
  | none, some n => some n
  | some m, some n => some (if m < n then n else m)
def colM (f : Nat → Int) (j : Nat) : Option Int → List (List (Int × Nat)) → Option Int
  | m, [] => m
  | m, r :: rs => colM f j (mx m (ask f j 0 r)) rs
def gz : G := ⟨0, 0, 0, 0, 0⟩
structure Co where
  w : List Int
  g : List Bool
  s : List G
def Co.f (c : Co) (i : Nat) : Int := wrap64 (c.w.getD i 0 + (c.s.getD (i + 1) gz).n)
def Co.next (rows : List (List (Int × Nat))) (c : Co) (j : Nat) : Co :=
  match colM c.f j none rows with
  | none => ⟨c.w ++ [0], c.g ++ [true], c.s.set (j + 1) gz⟩
  | some n => ⟨c.w ++ [n], c.g ++ [false], c.s⟩
def cols (rows : List (List (Int × Nat))) (ss : List G) : Nat → Co
  | 0 => ⟨[], [], ss⟩
  | j + 1 => (cols rows ss j).next rows j

theorem less_snoc (f : Nat → Int) : ∀ (k a : Nat) (n : Int), less f a (k + 1) n = wrap64 (less f a k n - f (a + k))
  | 0, a, n => rfl
  | k + 1, a, n => by
    rw [less, less_snoc f k (a + 1)]
    show _ = wrap64 (less f (a + 1) k (wrap64 (n - f a)) - f (a + (k + 1)))
    rw [show a + 1 + k = a + (k + 1) by omega]
theorem less_congr {f g : Nat → Int} : ∀ (k a : Nat) (n : Int), (∀ i, a ≤ i → i < a + k → f i = g i) → less f a k n = less g a k n
  | 0, _, _, _ => rfl
  | k + 1, a, n, h => by
    rw [less, less, h a (by omega) (by omega)]
    exact less_congr k (a + 1) _ fun i h1 h2 => h i (by omega) (by omega)
theorem ask_congr {f g : Nat → Int} {j : Nat} (h : ∀ i, i < j → f i = g i) : ∀ (r : List (Int × Nat)) (a : Nat), ask f j a r = ask g j a r
  | [], _ => rfl
  | c :: r, a => by
    unfold ask
    rw [ask_congr h r, less_congr (f := f) (g := g) (j - a) a c.1 fun i h1 h2 => h i (by omega)]
theorem colM_congr {f g : Nat → Int} {j : Nat} (h : ∀ i, i < j → f i = g i) : ∀ (rs : List (List (Int × Nat))) (m : Option Int), colM f j m rs = colM g j m rs
  | [], _ => rfl
  | r :: rs, m => by rw [colM, colM, ask_congr h, colM_congr h rs]

/-! ### the greatest -/
theorem mx_none {a b : Option Int} : mx a b = none ↔ a = none ∧ b = none := by
  cases a <;> cases b <;> simp [mx]
theorem mx_ge {a b : Option Int} {x : Int} (h : mx a b = some x) : (∀ y, a = some y → y ≤ x) ∧ ∀ y, b = some y → y ≤ x := by
  cases a <;> cases b <;> simp [mx] at h ⊢ <;> omega
theorem mx_is {a b : Option Int} {x : Int} (h : mx a b = some x) : a = some x ∨ b = some x := by
  cases a <;> cases b <;> simp [mx] at h ⊢ <;> omega
theorem colM_none {f : Nat → Int} {j : Nat} : ∀ {rs : List (List (Int × Nat))} {m : Option Int}, colM f j m rs = none ↔ m = none ∧ ∀ r ∈ rs, ask f j 0 r = none
  | [], m => by simp [colM]
  | r :: rs, m => by
    rw [colM, colM_none (rs := rs), mx_none]
    simp [and_assoc]
theorem colM_ge {f : Nat → Int} {j : Nat} {x : Int} : ∀ {rs : List (List (Int × Nat))} {m : Option Int}, colM f j m rs = some x → (∀ y, m = some y → y ≤ x) ∧ ∀ r ∈ rs, ∀ y, ask f j 0 r = some y → y ≤ x
  | [], m, h => ⟨fun y hy => by rw [colM] at h; rw [h] at hy; injection hy; omega, by simp⟩
  | r :: rs, m, h => by
    obtain ⟨h1, h2⟩ := colM_ge (rs := rs) (by simpa only [colM] using h)
    have h3 : ∀ z, mx m (ask f j 0 r) = some z → z ≤ x := h1
    have h4 : (∀ y, m = some y → y ≤ x) ∧ ∀ y, ask f j 0 r = some y → y ≤ x := by
      cases hm : mx m (ask f j 0 r) with
      | none =>
        rw [mx_none] at hm
        rw [hm.1, hm.2]
        exact ⟨by simp, by simp⟩
      | some z =>
        obtain ⟨h5, h6⟩ := mx_ge hm
        have := h3 z hm
        exact ⟨fun y hy => by have := h5 y hy; omega, fun y hy => by have := h6 y hy; omega⟩
    refine ⟨h4.1, fun r' hr => ?_⟩
    rcases List.mem_cons.1 hr with rfl | hr
    · exact h4.2
    · exact h2 r' hr
theorem colM_is {f : Nat → Int} {j : Nat} {x : Int} : ∀ {rs : List (List (Int × Nat))} {m : Option Int}, colM f j m rs = some x → m = some x ∨ ∃ r ∈ rs, ask f j 0 r = some x
  | [], m, h => .inl h
  | r :: rs, m, h => by
    rcases colM_is (rs := rs) (by simpa only [colM] using h) with h1 | ⟨r', h1, h2⟩
    · rcases mx_is h1 with h2 | h2
      · exact .inl h2
      · exact .inr ⟨r, by simp, h2⟩
    · exact .inr ⟨r', by simp [h1], h2⟩
theorem colM_same {f : Nat → Int} {j : Nat} {rs qs : List (List (Int × Nat))} (h : ∀ r, r ∈ rs ↔ r ∈ qs) : colM f j none rs = colM f j none qs := by
  cases h1 : colM f j none rs with
  | none =>
    rw [colM_none] at h1
    exact (colM_none.2 ⟨rfl, fun r hr => h1.2 r ((h r).2 hr)⟩).symm
  | some x =>
    cases h2 : colM f j none qs with
    | none =>
      rw [colM_none] at h2
      rcases colM_is h1 with h3 | ⟨r, h3, h4⟩
      · cases h3
      · rw [h2.2 r ((h r).1 h3)] at h4; cases h4
    | some y =>
      have h3 : y ≤ x := by
        rcases colM_is h2 with h3 | ⟨r, h3, h4⟩
        · cases h3
        · exact (colM_ge h1).2 r ((h r).2 h3) y h4
      have h4 : x ≤ y := by
        rcases colM_is h1 with h5 | ⟨r, h5, h6⟩
        · cases h5
        · exact (colM_ge h2).2 r ((h r).1 h5) x h6
      rw [show x = y by omega]
theorem cols_same {rs qs : List (List (Int × Nat))} (h : ∀ r, r ∈ rs ↔ r ∈ qs) (ss : List G) : ∀ j, cols rs ss j = cols qs ss j
  | 0 => rfl
  | j + 1 => by
    rw [cols, cols, cols_same h ss j]
    unfold Co.next
    rw [colM_same h]

/-! ### columns, one by one -/
section
variable (rs : List (List (Int × Nat))) (ss : List G)
theorem cols_len : ∀ j, (cols rs ss j).w.length = j ∧ (cols rs ss j).g.length = j ∧ (cols rs ss j).s.length = ss.length
  | 0 => ⟨rfl, rfl, rfl⟩
  | j + 1 => by
    obtain ⟨h1, h2, h3⟩ := cols_len j
    rw [cols]
    unfold Co.next
    split <;> simp [h1, h2, h3]
theorem cols_step (j : Nat) : (∀ i, i < j → (cols rs ss (j + 1)).w[i]? = (cols rs ss j).w[i]?) ∧ (∀ i, i < j → (cols rs ss (j + 1)).g[i]? = (cols rs ss j).g[i]?) ∧ (∀ i, i ≠ j + 1 → (cols rs ss (j + 1)).s[i]? = (cols rs ss j).s[i]?) := by
  obtain ⟨h1, h2, h3⟩ := cols_len rs ss j
  rw [cols]
  unfold Co.next
  split
  · refine ⟨fun i hi => ?_, fun i hi => ?_, fun i hi => ?_⟩
    · exact List.getElem?_append_left (by omega)
    · exact List.getElem?_append_left (by omega)
    · exact List.getElem?_set_ne (by omega)
  · exact ⟨fun i hi => List.getElem?_append_left (by omega), fun i hi => List.getElem?_append_left (by omega), fun i hi => rfl⟩
theorem cols_keep {j : Nat} : ∀ {n : Nat}, j ≤ n → (∀ i, i < j → (cols rs ss n).w[i]? = (cols rs ss j).w[i]?) ∧ (∀ i, i < j → (cols rs ss n).g[i]? = (cols rs ss j).g[i]?) ∧ (∀ i, i ≤ j → (cols rs ss n).s[i]? = (cols rs ss j).s[i]?)
  | 0, h => by
    obtain rfl : j = 0 := by omega
    exact ⟨fun _ _ => rfl, fun _ _ => rfl, fun _ _ => rfl⟩
  | n + 1, h => by
    rcases Nat.lt_or_ge n j with h1 | h1
    · obtain rfl : j = n + 1 := by omega
      exact ⟨fun _ _ => rfl, fun _ _ => rfl, fun _ _ => rfl⟩
    · obtain ⟨a, b, c⟩ := cols_keep h1
      obtain ⟨a1, b1, c1⟩ := cols_step rs ss n
      exact ⟨fun i hi => (a1 i (by omega)).trans (a i hi), fun i hi => (b1 i (by omega)).trans (b i hi), fun i hi => (c1 i (by omega)).trans (c i hi)⟩
/-- The skips behind what is already measured stay. -/
theorem cols_late (j : Nat) : ∀ i, j < i → (cols rs ss j).s[i]? = ss[i]? := by
  induction j with
  | zero => intro i _; rfl
  | succ j ih =>
    intro i hi
    rw [(cols_step rs ss j).2.2 i (by omega)]
    exact ih i (by omega)
theorem cols_f {j n : Nat} (h : j ≤ n) (i : Nat) (hi : i < j) : (cols rs ss n).f i = (cols rs ss j).f i := by
  obtain ⟨a, _, c⟩ := cols_keep rs ss h
  unfold Co.f
  rw [List.getD_eq_getElem?_getD, List.getD_eq_getElem?_getD, List.getD_eq_getElem?_getD, List.getD_eq_getElem?_getD, a i hi, c (i + 1) (by omega)]
/-- Column j, in the end. -/
theorem cols_at {j n : Nat} (h : j < n) : (cols rs ss n).w[j]? = some ((colM (cols rs ss n).f j none rs).getD 0) ∧ (cols rs ss n).g[j]? = some (colM (cols rs ss n).f j none rs).isNone := by
  obtain ⟨a, b, _⟩ := cols_keep rs ss (j := j + 1) (n := n) h
  obtain ⟨h1, h2, h3⟩ := cols_len rs ss j
  rw [a j (by omega), b j (by omega), colM_congr (f := (cols rs ss n).f) (g := (cols rs ss j).f) (fun i hi => cols_f rs ss (by omega) i hi), cols]
  unfold Co.next
  split
  · rename_i he
    rw [he]
    exact ⟨by rw [List.getElem?_append_right (by omega), h1]; simp, by rw [List.getElem?_append_right (by omega), h2]; simp⟩
  · rename_i x he
    rw [he]
    exact ⟨by rw [List.getElem?_append_right (by omega), h1]; simp, by rw [List.getElem?_append_right (by omega), h2]; simp⟩
/-- The skip behind it. -/
theorem cols_skip {j n : Nat} (h : j < n) {g : G} (hg : ss[j + 1]? = some g) : (cols rs ss n).s[j + 1]? = some (if (colM (cols rs ss n).f j none rs).isNone = true then gz else g) := by
  obtain ⟨_, _, c⟩ := cols_keep rs ss (j := j + 1) (n := n) h
  obtain ⟨h1, h2, h3⟩ := cols_len rs ss j
  have hl : j + 1 < ss.length := by
    rcases Nat.lt_or_ge (j + 1) ss.length with h4 | h4
    · exact h4
    · rw [List.getElem?_eq_none h4] at hg; cases hg
  rw [c (j + 1) (by omega), colM_congr (f := (cols rs ss n).f) (g := (cols rs ss j).f) (fun i hi => cols_f rs ss (by omega) i hi), cols]
  unfold Co.next
  split
  · rename_i he
    rw [he]
    show ((cols rs ss j).s.set (j + 1) gz)[j + 1]? = _
    rw [List.getElem?_set_self (by omega)]
    rfl
  · rename_i x he
    rw [he]
    show (cols rs ss j).s[j + 1]? = _
    rw [cols_late rs ss j (j + 1) (by omega), hg]
    rfl
end

/-! ### sums -/
def sumF (f : Nat → Int) : Nat → Nat → Int
  | _, 0 => 0
  | a, k + 1 => f a + sumF f (a + 1) k
theorem sumF_snoc (f : Nat → Int) : ∀ (k a : Nat), sumF f a (k + 1) = sumF f a k + f (a + k)
  | 0, a => by simp [sumF]
  | k + 1, a => by
    rw [sumF, sumF_snoc f k (a + 1), sumF]
    rw [show a + 1 + k = a + (k + 1) by omega]
    omega
theorem sumF_bd {f : Nat → Int} {B : Int} : ∀ (k a : Nat), (∀ i, a ≤ i → i < a + k → -B ≤ f i ∧ f i ≤ B) → -(k * B) ≤ sumF f a k ∧ sumF f a k ≤ k * B
  | 0, a, _ => by simp [sumF]
  | k + 1, a, h => by
    have h1 := sumF_bd k (a + 1) fun i h1 h2 => h i (by omega) (by omega)
    have h2 := h a (by omega) (by omega)
    rw [sumF, Int.natCast_add, Int.add_mul]
    omega
theorem less_sum {f : Nat → Int} {n : Int} (hn : -4294967296 ≤ n ∧ n ≤ 4294967296) (a : Nat) : ∀ (k : Nat), k ≤ 1000 → (∀ i, a ≤ i → i < a + k → -4294967296 ≤ f i ∧ f i ≤ 4294967296) → less f a k n = n - sumF f a k
  | 0, _, _ => by simp [less, sumF]
  | k + 1, hk, h => by
    have h1 := less_sum hn a k (by omega) fun i h1 h2 => h i h1 (by omega)
    have h2 := sumF_bd (B := 4294967296) k a fun i h1 h2 => h i h1 (by omega)
    have h3 := h (a + k) (by omega) (by omega)
    rw [less_snoc, h1, sumF_snoc]
    unfold wrap64
    omega

/-! ### a row's cells -/
/-- Where cell k begins. -/
def pos : List (Int × Nat) → Nat → Nat
  | _, 0 => 0
  | [], _ => 0
  | c :: r, k + 1 => c.2 + pos r k
theorem ask_get {f : Nat → Int} {j : Nat} : ∀ {r : List (Int × Nat)} {k : Nat} {c : Int × Nat} (a : Nat), (∀ x ∈ r, 1 ≤ x.2) → r[k]? = some c → a + pos r k + c.2 - 1 = j → ask f j a r = some (less f (a + pos r k) (c.2 - 1) c.1)
  | [], k, c, a, _, h, _ => by simp at h
  | x :: r, 0, c, a, h1, h, hj => by
    simp at h
    subst h
    have := h1 x (by simp)
    simp only [pos, Nat.add_zero] at hj ⊢
    rw [ask, if_neg (by omega), if_pos hj]
    rw [show j - a = x.2 - 1 by omega]
  | x :: r, k + 1, c, a, h1, h, hj => by
    have h2 := h1 x (by simp)
    have h3 := h1 c (by simpa using List.mem_cons_of_mem _ (List.mem_of_getElem? (by simpa using h)))
    simp only [pos] at hj ⊢
    have ih := ask_get (f := f) (j := j) (r := r) (k := k) (c := c) (a + x.2) (fun y hy => h1 y (by simp [hy])) (by simpa using h) (by omega)
    rw [ask, if_neg (by omega), if_neg (by omega), ih]
    rw [show a + x.2 + pos r k = a + (x.2 + pos r k) by omega]
theorem ask_some {f : Nat → Int} {j : Nat} {y : Int} : ∀ {r : List (Int × Nat)} (a : Nat), (∀ x ∈ r, 1 ≤ x.2) → ask f j a r = some y → ∃ k c, r[k]? = some c ∧ a + pos r k + c.2 - 1 = j ∧ y = less f (a + pos r k) (c.2 - 1) c.1
  | [], a, _, h => by simp [ask] at h
  | x :: r, a, h1, h => by
    have h2 := h1 x (by simp)
    rw [ask] at h
    split at h
    · cases h
    · split at h
      · rename_i h3
        injection h with h
        refine ⟨0, x, rfl, by simpa [pos] using h3, ?_⟩
        rw [← h]
        simp only [pos, Nat.add_zero]
        rw [show j - a = x.2 - 1 by omega]
      · obtain ⟨k, c, h3, h4, h5⟩ := ask_some (a + x.2) (fun y hy => h1 y (by simp [hy])) h
        refine ⟨k + 1, c, by simpa using h3, by simp only [pos]; omega, ?_⟩
        rw [h5]
        simp only [pos]
        rw [show a + x.2 + pos r k = a + (x.2 + pos r k) by omega]
end Go.Proofs.YtoboecenlangmaaGreat.Al
end
section
namespace Go.Proofs.YtoboecenlangmaaGreat.Dv

theorem split_mul (q y1 y0 : Int) : q * (y1 * 4294967296 + y0) = q * y1 * 4294967296 + q * y0 := by
  rw [Int.mul_add, ← Int.mul_assoc]

/-- The trial quotient is too great. -/
theorem too_great {q y1 y0 r un u1 : Int} (hy0 : 0 ≤ y0) (hy1 : 1 ≤ y1) (hI : un = q * y1 + r) (_hu1 : 0 ≤ u1) (hu1' : u1 < 4294967296) (hun : un < y1 * 4294967296 + y0)
    (ht : 4294967296 ≤ q ∨ r * 4294967296 + u1 < q * y0) : (un * 4294967296 + u1) / (y1 * 4294967296 + y0) ≤ q - 1 := by
  have hy : 0 < y1 * 4294967296 + y0 := by omega
  have h : un * 4294967296 + u1 < q * (y1 * 4294967296 + y0) := by
    rcases ht with h | h
    · have := Int.mul_le_mul_of_nonneg_right h (Int.le_of_lt hy)
      omega
    · rw [split_mul, hI]
      omega
  have := Int.ediv_lt_of_lt_mul hy h
  omega

theorem fits {q y1 y0 r un u1 : Int} (hI : un = q * y1 + r) (hle : q * y0 ≤ r * 4294967296 + u1) : q * (y1 * 4294967296 + y0) ≤ un * 4294967296 + u1 := by
  rw [split_mul, hI]
  omega

/-- It is the quotient: it is no less, and it fits. -/
theorem just {q y1 y0 r un u1 : Int} (hy0 : 0 ≤ y0) (hy1 : 1 ≤ y1) (hI : un = q * y1 + r) (hq : (un * 4294967296 + u1) / (y1 * 4294967296 + y0) ≤ q)
    (hle : q * y0 ≤ r * 4294967296 + u1) : (un * 4294967296 + u1) / (y1 * 4294967296 + y0) = q := by
  have hy : 0 < y1 * 4294967296 + y0 := by omega
  have := Int.le_ediv_of_mul_le hy (fits hI hle)
  omega

/-- Behind a break: the rest is past one word, so the quotient fits. -/
theorem breaks {q y1 y0 r un u1 : Int} (hy0 : 0 ≤ y0) (hy0' : y0 < 4294967296) (hy1 : 1 ≤ y1) (hI : un = q * y1 + r) (hq0 : 0 ≤ q) (hu1 : 0 ≤ u1) (hr : 4294967296 ≤ r)
    (hun : un < y1 * 4294967296 + y0) : q * y0 ≤ r * 4294967296 + u1 := by
  have hq : q < 4294967296 := by
    rcases Int.lt_or_le q 4294967296 with h | h
    · exact h
    · have := Int.mul_le_mul_of_nonneg_right h (show 0 ≤ y1 by omega)
      omega
  have h1 := Int.mul_le_mul_of_nonneg_left (show y0 ≤ 4294967296 by omega) hq0
  omega

/-- The first trial: no less than the quotient. -/
theorem first_ge {y1 y0 un u1 : Int} (hy0 : 0 ≤ y0) (hy1 : 1 ≤ y1) (hun : 0 ≤ un) (hu1' : u1 < 4294967296) :
    (un * 4294967296 + u1) / (y1 * 4294967296 + y0) ≤ un / y1 := by
  have hy : 0 < y1 * 4294967296 + y0 := by omega
  have h1 := Int.mul_ediv_add_emod un y1
  have h2 := Int.emod_lt_of_pos un (show 0 < y1 by omega)
  have h0 : 0 ≤ un / y1 := Int.ediv_nonneg hun (by omega)
  have h : un * 4294967296 + u1 < (un / y1 + 1) * (y1 * 4294967296 + y0) := by
    rw [split_mul, Int.add_mul (un / y1) 1 y1, Int.add_mul (un / y1) 1 y0, Int.one_mul, Int.one_mul]
    have h3 := Int.mul_nonneg h0 hy0
    rw [Int.mul_comm] at h1
    omega
  have := Int.ediv_lt_of_lt_mul hy h
  omega

theorem first_rest (un y1 : Int) : un = un / y1 * y1 + (un - un / y1 * y1) := by omega

theorem rest_eq {N y q : Int} (h : N / y = q) : N - q * y = N % y := by
  subst h
  have := Int.mul_ediv_add_emod N y
  rw [Int.mul_comm] at this
  omega
/-! ### The loop that mends a trial: what holds at each round's head, and what it leaves -/

/-- At a round's head. -/
def Tr (un u1 y1 y0 q r : Int) : Prop := un = q * y1 + r ∧ 0 ≤ r ∧ r < 4294967296 ∧ 0 ≤ q ∧ q < 18446744073709551616 ∧ (un * 4294967296 + u1) / (y1 * 4294967296 + y0) ≤ q

theorem Tr.first {un u1 y1 y0 : Int} (hy0 : 0 ≤ y0) (hy1 : 2147483648 ≤ y1) (hy1' : y1 < 4294967296) (hun : 0 ≤ un) (hun' : un < 18446744073709551616) (hu1' : u1 < 4294967296) :
    Tr un u1 y1 y0 (un / y1) (un - un / y1 * y1) := by
  have h1 := Int.mul_ediv_add_emod un y1
  have h2 := Int.emod_lt_of_pos un (show 0 < y1 by omega)
  have h3 := Int.emod_nonneg un (show y1 ≠ 0 by omega)
  have h4 : un / y1 ≤ un := Int.ediv_le_self _ hun
  rw [Int.mul_comm] at h1
  exact ⟨by omega, by omega, by omega, Int.ediv_nonneg hun (by omega), by omega, first_ge hy0 (by omega) hun hu1'⟩

/-- The test says no: it is the quotient. -/
theorem Tr.stop {un u1 y1 y0 q r : Int} (hy0 : 0 ≤ y0) (hy1 : 1 ≤ y1) (h : Tr un u1 y1 y0 q r) (hle : q * y0 ≤ 4294967296 * r + u1) : (un * 4294967296 + u1) / (y1 * 4294967296 + y0) = q :=
  just hy0 hy1 h.1 h.2.2.2.2.2 (by omega)

/-- The test says yes: one less, and a greater rest; q y0 of a word. -/
theorem Tr.less {un u1 y1 y0 q r : Int} (hy0 : 0 ≤ y0) (hy1 : 2147483648 ≤ y1) (hun0 : 0 ≤ un) (hu1 : 0 ≤ u1) (hu1' : u1 < 4294967296) (hun : un < y1 * 4294967296 + y0) (h : Tr un u1 y1 y0 q r)
    (ht : 4294967296 ≤ q ∨ 4294967296 * r + u1 < q * y0) : 1 ≤ q ∧ un = (q - 1) * y1 + (r + y1) ∧ (un * 4294967296 + u1) / (y1 * 4294967296 + y0) ≤ q - 1 := by
  have hg := too_great hy0 (by omega) h.1 hu1 hu1' hun (by omega)
  have h0 : 0 ≤ (un * 4294967296 + u1) / (y1 * 4294967296 + y0) := Int.ediv_nonneg (by omega) (by omega)
  refine ⟨by omega, ?_, hg⟩
  have := h.1
  rw [Int.sub_mul, Int.one_mul]
  omega

theorem Tr.next {un u1 y1 y0 q r : Int} (hy1 : 2147483648 ≤ y1) (h : Tr un u1 y1 y0 q r) (hl : 1 ≤ q ∧ un = (q - 1) * y1 + (r + y1) ∧ (un * 4294967296 + u1) / (y1 * 4294967296 + y0) ≤ q - 1)
    (hr : r + y1 < 4294967296) : Tr un u1 y1 y0 (q - 1) (r + y1) := by
  obtain ⟨_, h2, h3, h4, h5, _⟩ := h
  exact ⟨hl.2.1, by omega, hr, by omega, by omega, hl.2.2⟩

theorem Tr.out {un u1 y1 y0 q r : Int} (hy0 : 0 ≤ y0) (hy0' : y0 < 4294967296) (hy1 : 2147483648 ≤ y1) (hu1 : 0 ≤ u1) (hun : un < y1 * 4294967296 + y0)
    (hl : 1 ≤ q ∧ un = (q - 1) * y1 + (r + y1) ∧ (un * 4294967296 + u1) / (y1 * 4294967296 + y0) ≤ q - 1) (hr : 4294967296 ≤ r + y1) :
    (un * 4294967296 + u1) / (y1 * 4294967296 + y0) = q - 1 :=
  just hy0 (by omega) hl.2.1 hl.2.2 (breaks hy0 hy0' (by omega) hl.2.1 (by omega) hu1 hr hun)

theorem word_mul {q y : Int} (q0 : 0 ≤ q) (q1 : q < 4294967296) (y0 : 0 ≤ y) (y1 : y < 4294967296) : 0 ≤ q * y ∧ q * y ≤ 18446744065119617025 := by
  refine ⟨Int.mul_nonneg q0 y0, ?_⟩
  have h1 := Int.mul_le_mul_of_nonneg_left (show y ≤ 4294967295 by omega) q0
  omega
/-- What a round of division leaves. -/
theorem leaves {un u1 Y Q : Int} (hY : 0 < Y) (hun0 : 0 ≤ un) (hun : un < Y) (hu1 : 0 ≤ u1) (hu1' : u1 < 4294967296) (h : (un * 4294967296 + u1) / Y = Q) :
    0 ≤ Q ∧ Q < 4294967296 ∧ (un * 4294967296 + u1) % Y = un * 4294967296 + u1 - Q * Y ∧ 0 ≤ un * 4294967296 + u1 - Q * Y ∧ un * 4294967296 + u1 - Q * Y < Y := by
  have e := rest_eq h
  have e0 := Int.emod_nonneg (un * 4294967296 + u1) (show Y ≠ 0 by omega)
  have e1 := Int.emod_lt_of_pos (un * 4294967296 + u1) hY
  refine ⟨?_, ?_, e.symm, by omega, by omega⟩
  · rw [← h]; exact Int.ediv_nonneg (by omega) (by omega)
  · rw [← h]; exact Int.ediv_lt_of_lt_mul hY (by omega)
end Go.Proofs.YtoboecenlangmaaGreat.Dv
end
section
namespace Go.Proofs.YtoboecenlangmaaGreat.Dv

theorem len_spec (y : Nat) (h0 : y ≠ 0) (h1 : y < 18446744073709551616) : 1 ≤ Lib.bitLen y ∧ Lib.bitLen y ≤ 64 ∧ 2 ^ (Lib.bitLen y - 1) ≤ y ∧ y < 2 ^ Lib.bitLen y := by
  obtain ⟨a, b, c⟩ := Lib.bitLenAux_bounds 64 y (by simpa using h1) h0
  refine ⟨a, ?_, b, c⟩
  unfold Lib.bitLen
  rcases Nat.lt_or_ge 64 (Lib.bitLenAux 64 y) with h | h
  · have : 2 ^ 64 ≤ 2 ^ (Lib.bitLenAux 64 y - 1) := Nat.pow_le_pow_right (by omega) (by omega)
    omega
  · exact h

theorem pow_join {s : Nat} (h : s ≤ 64) : 2 ^ (64 - s) * 2 ^ s = 18446744073709551616 := by
  rw [← Nat.pow_add, Nat.sub_add_cancel h]

theorem norm {y s : Nat} (h0 : y ≠ 0) (h1 : y < 18446744073709551616) (hs : s + Lib.bitLen y = 64) : 9223372036854775808 ≤ y * 2 ^ s ∧ y * 2 ^ s < 18446744073709551616 := by
  obtain ⟨a, b, c, d⟩ := len_spec y h0 h1
  have e1 : 2 ^ (Lib.bitLen y - 1) * 2 ^ s = 9223372036854775808 := by rw [← Nat.pow_add, show Lib.bitLen y - 1 + s = 63 by omega]
  have e2 : 2 ^ Lib.bitLen y * 2 ^ s = 18446744073709551616 := by rw [← Nat.pow_add, show Lib.bitLen y + s = 64 by omega]
  have hp : 0 < 2 ^ s := Nat.two_pow_pos s
  refine ⟨?_, ?_⟩
  · rw [← e1]; exact Nat.mul_le_mul_right _ c
  · rw [← e2]; exact Nat.mul_lt_mul_of_pos_right d hp

theorem low_split {lo s : Nat} (hs : s ≤ 64) : lo * 2 ^ s = lo / 2 ^ (64 - s) * 18446744073709551616 + lo * 2 ^ s % 18446744073709551616 := by
  have h := Nat.mul_div_mul_right lo (2 ^ (64 - s)) (Nat.two_pow_pos s)
  rw [pow_join hs] at h
  rw [← h]
  omega

theorem low_lt {lo s : Nat} (hl : lo < 18446744073709551616) (hs : s ≤ 64) : lo / 2 ^ (64 - s) < 2 ^ s := by
  rw [Nat.div_lt_iff_lt_mul (Nat.two_pow_pos _), Nat.mul_comm, pow_join hs]
  exact hl

/-- The upper word, shifted. -/
theorem upper {hi lo y s : Nat} (hl : lo < 18446744073709551616) (hh : hi < y) (hs : s ≤ 64) :
    (hi * 2 ^ s + lo / 2 ^ (64 - s)) * 18446744073709551616 + lo * 2 ^ s % 18446744073709551616 = (hi * 18446744073709551616 + lo) * 2 ^ s ∧ hi * 2 ^ s + lo / 2 ^ (64 - s) < y * 2 ^ s := by
  have e := low_split (lo := lo) hs
  have l := low_lt hl hs
  refine ⟨?_, ?_⟩
  · rw [Nat.add_mul (hi * 18446744073709551616) lo, Nat.add_mul, Nat.mul_right_comm hi]
    omega
  · have h1 : (hi + 1) * 2 ^ s ≤ y * 2 ^ s := Nat.mul_le_mul_right _ hh
    rw [Nat.add_mul, Nat.one_mul] at h1
    omega

theorem or_join {hi lo s : Nat} (hl : lo < 18446744073709551616) (hs : s ≤ 64) : hi * 2 ^ s ||| lo / 2 ^ (64 - s) = hi * 2 ^ s + lo / 2 ^ (64 - s) :=
  nat_join s _ _ (Nat.mul_mod_left _ _) (low_lt hl hs)

/-- Both halves together. -/
theorem whole {un u1 u0 y Q1 R1 : Int} (hy : 0 < y) (h1 : (un * 4294967296 + u1) / y = Q1) (h2 : (un * 4294967296 + u1) % y = R1) :
    (un * 18446744073709551616 + (u1 * 4294967296 + u0)) / y = Q1 * 4294967296 + (R1 * 4294967296 + u0) / y ∧ (un * 18446744073709551616 + (u1 * 4294967296 + u0)) % y = (R1 * 4294967296 + u0) % y := by
  have e := Int.mul_ediv_add_emod (un * 4294967296 + u1) y
  rw [h1, h2] at e
  have hx : un * 18446744073709551616 + (u1 * 4294967296 + u0) = (R1 * 4294967296 + u0) + y * (Q1 * 4294967296) := by
    rw [← Int.mul_assoc]
    omega
  rw [hx, Int.add_mul_ediv_left _ _ (by omega), Int.add_mul_emod_self_left]
  exact ⟨by omega, rfl⟩

/-- Shifted back. -/
theorem back {X y p : Int} (hp : 0 < p) : X * p / (y * p) = X / y ∧ X * p % (y * p) / p = X % y := by
  refine ⟨Int.mul_ediv_mul_of_pos_left _ _ hp, ?_⟩
  have h : X * p % (y * p) = X % y * p := by
    rw [Int.emod_def, Int.emod_def, Int.mul_ediv_mul_of_pos_left _ _ hp, Int.sub_mul, Int.mul_right_comm y p]
  rw [h, Int.mul_ediv_cancel _ (by omega)]

/-- A word's worth of a difference that fits in one word. -/
theorem wrap_diff (a b P : Int) (h0 : 0 ≤ a * 4294967296 + b - P) (h1 : a * 4294967296 + b - P ≤ 18446744073709551615) :
    IntKind.u64.wrap (IntKind.u64.wrap (IntKind.u64.wrap (a * 4294967296) + b) - IntKind.u64.wrap P) = a * 4294967296 + b - P := by
  have e : ∀ n : Int, IntKind.u64.wrap n = n % 18446744073709551616 := fun n => by simp [IntKind.wrap, IntKind.bits, IntKind.signed]
  rw [e, e, e, e]
  omega
theorem u64_wrap (n : Int) : IntKind.u64.wrap n = n % 18446744073709551616 := by simp [IntKind.wrap, IntKind.bits, IntKind.signed]
theorem low_mask (Y : Nat) (h : Y < 18446744073709551616) : bits .and .u64 (Y : Int) 4294967295 = ((Y % 4294967296 : Nat) : Int) := by
  have h1 := u64_and_nat Y 4294967295 h (by omega)
  rw [show (Y &&& 4294967295) = Y % 4294967296 from Nat.and_two_pow_sub_one_eq_mod Y 32] at h1
  exact h1
/-- What Div64's first lines make: letters for each word, and what is known of them. -/
theorem laid {hi lo y s : Nat} (hl1 : lo < 18446744073709551616) (hh0 : 1 ≤ hi) (hhy : hi < y) (hy1 : y < 18446744073709551616) (hs : s + Lib.bitLen y = 64) (hs63 : s ≤ 63) :
    ∃ Y y1 y0 un lw u1 u0 : Int, IntKind.u64.wrap ((y : Int) * 2 ^ s) = Y ∧ Y / 4294967296 = y1 ∧ bits .and .u64 Y 4294967295 = y0 ∧
      bits .or .u64 (IntKind.u64.wrap ((hi : Int) * 2 ^ s)) ((lo : Int) / 2 ^ (64 - s)) = un ∧ IntKind.u64.wrap ((lo : Int) * 2 ^ s) = lw ∧ lw / 4294967296 = u1 ∧ bits .and .u64 lw 4294967295 = u0 ∧
      Y = y1 * 4294967296 + y0 ∧ 2147483648 ≤ y1 ∧ y1 < 4294967296 ∧ 0 ≤ y0 ∧ y0 < 4294967296 ∧ lw = u1 * 4294967296 + u0 ∧ 0 ≤ u1 ∧ u1 < 4294967296 ∧ 0 ≤ u0 ∧ u0 < 4294967296 ∧ 0 ≤ un ∧ un < Y ∧
      un * 18446744073709551616 + lw = ((hi : Int) * 18446744073709551616 + lo) * 2 ^ s ∧ Y = y * 2 ^ s := by
  obtain ⟨y63, y64⟩ := norm (by omega) hy1 hs
  obtain ⟨hU, hlt⟩ := upper hl1 hhy (show s ≤ 64 by omega)
  have hor := or_join (hi := hi) hl1 (show s ≤ 64 by omega)
  have hh64 : hi * 2 ^ s < 18446744073709551616 := Nat.lt_of_le_of_lt (Nat.le_add_right _ _) (Nat.lt_trans hlt y64)
  have hl64 : lo / 2 ^ (64 - s) < 18446744073709551616 := Nat.lt_of_le_of_lt (Nat.div_le_self _ _) hl1
  have small : ∀ n : Nat, n < 18446744073709551616 → IntKind.u64.wrap (n : Int) = n := fun n hn => by rw [u64_wrap]; omega
  have hY : IntKind.u64.wrap ((y : Int) * 2 ^ s) = ((y * 2 ^ s : Nat) : Int) := by
    rw [show (y : Int) * 2 ^ s = ((y * 2 ^ s : Nat) : Int) by push_cast; rfl]
    exact small _ y64
  have hH : IntKind.u64.wrap ((hi : Int) * 2 ^ s) = ((hi * 2 ^ s : Nat) : Int) := by
    rw [show (hi : Int) * 2 ^ s = ((hi * 2 ^ s : Nat) : Int) by push_cast; rfl]
    exact small _ hh64
  have hL : IntKind.u64.wrap ((lo : Int) * 2 ^ s) = ((lo * 2 ^ s % 18446744073709551616 : Nat) : Int) := by
    rw [u64_wrap, show (lo : Int) * 2 ^ s = ((lo * 2 ^ s : Nat) : Int) by push_cast; rfl]
    exact (Int.natCast_emod _ _).symm
  have hO : bits .or .u64 (IntKind.u64.wrap ((hi : Int) * 2 ^ s)) ((lo : Int) / 2 ^ (64 - s)) = ((hi * 2 ^ s + lo / 2 ^ (64 - s) : Nat) : Int) := by
    rw [hH, show (lo : Int) / 2 ^ (64 - s) = ((lo / 2 ^ (64 - s) : Nat) : Int) by push_cast; rfl, u64_or_nat _ _ hh64 hl64, hor]
  have hU' : ((hi * 2 ^ s + lo / 2 ^ (64 - s) : Nat) : Int) * 18446744073709551616 + ((lo * 2 ^ s % 18446744073709551616 : Nat) : Int) = ((hi : Int) * 18446744073709551616 + lo) * 2 ^ s := by
    have := congrArg (fun n : Nat => (n : Int)) hU
    simpa using this
  have hYc : ((y * 2 ^ s : Nat) : Int) = (y : Int) * 2 ^ s := by push_cast; rfl
  generalize hYg : y * 2 ^ s = Y at *
  generalize hi * 2 ^ s + lo / 2 ^ (64 - s) = un at *
  generalize hLg : lo * 2 ^ s % 18446744073709551616 = lw at *
  have hlw64 : lw < 18446744073709551616 := by rw [← hLg]; exact Nat.mod_lt _ (by omega)
  refine ⟨Y, Y / 4294967296, ((Y % 4294967296 : Nat) : Int), un, lw, lw / 4294967296, ((lw % 4294967296 : Nat) : Int), hY, rfl, low_mask Y y64, hO, hL, rfl, low_mask lw hlw64, ?_⟩
  refine ⟨by omega, by omega, by omega, by omega, by omega, by omega, by omega, by omega, by omega, by omega, by omega, by omega, hU', hYc⟩
end Go.Proofs.YtoboecenlangmaaGreat.Dv
end
section
namespace Go.Proofs.YtoboecenlangmaaGreat.Dv
open Go.ChangeShapes Go.WideShapes Go.ChangeAt Go.RowKit

theorem ret_two' {k l : IntKind} {a b c d : Int} (h : a = b) (h' : c = d) : Ending.returned (.tuple #[.int k a, .int l c]) = .returned (.tuple #[.int k b, .int l d]) := by rw [h, h']

set_option maxHeartbeats 1000000 in
theorem div_small (lo y : Int) (w : World) (hl0 : 0 ≤ lo) (hl1 : lo ≤ 18446744073709551615) (hy0 : 1 ≤ y) (hy1 : y ≤ 18446744073709551615) :
    Calls Tryz.prog 191 #[.int .u64 0, .int .u64 lo, .int .u64 y] w fun e w' => e = .returned (.tuple #[.int .u64 (lo / y), .int .u64 (lo % y)]) ∧ ∃ n, w' = w.drewN n := by
  go_enter Tryz.func191, Tryz.ntmps191
  go_wp2_with fail
  go_quiet (fail)
  go_wp2
  go_ret2
  exact ⟨rfl, _, rfl⟩

/-- Leading zeros, as a shift that brings y up to a full word. -/
theorem lead (y : Nat) (h0 : y ≠ 0) (h1 : y < 18446744073709551616) : ∃ s : Nat, s + Lib.bitLen y = 64 ∧ s ≤ 63 ∧ ∀ w : World,
    Calls Tryz.prog 193 #[.int .u64 y] w fun e w' => e = .returned (.int .i64 s) ∧ w = w' := by
  obtain ⟨a, b, _, _⟩ := len_spec y h0 h1
  refine ⟨64 - Lib.bitLen y, by omega, by omega, fun w => (Tryz.bits_LeadingZeros64 y w (by omega) (by omega)).mono fun e w' h => ⟨?_, h.2.symm⟩⟩
  rw [h.1, Int.toNat_natCast]
  congr 2
  omega

set_option maxHeartbeats 1000000 in
theorem div_great (hi lo y : Nat) (w : World) (hl1 : lo < 18446744073709551616) (hh0 : 1 ≤ hi) (hhy : hi < y) (hy1 : y < 18446744073709551616) :
    Calls Tryz.prog 191 #[.int .u64 hi, .int .u64 lo, .int .u64 y] w fun e w' => e = .returned (.tuple #[.int .u64 (((hi : Int) * 18446744073709551616 + lo) / y), .int .u64 (((hi : Int) * 18446744073709551616 + lo) % y)]) ∧ w = w' := by
  obtain ⟨s, hs, hs63, hlz⟩ := lead y (by omega) hy1
  obtain ⟨Y, y1, y0, un, lw, u1, u0, eY, ey1, ey0, eun, elw, eu1, eu0, fY, y1a, y1b, y0a, y0b, flw, u1a, u1b, u0a, u0b, una, unb, fU, fYs⟩ := laid hl1 hh0 hhy hy1 hs hs63
  have hmin : min s 64 = s := by omega
  have HLZ := Lib.hid hlz
  have FU := Lib.hid fU
  have FYS := Lib.hid fYs
  have FY := Lib.hid fY
  have FLW := Lib.hid flw
  clear hlz fU fYs fY flw hs
  have Ya : 1 ≤ Y := by have := FY.out; omega
  have Yb : Y ≤ 18446744073709551615 := by have := FY.out; omega
  have d1 : IntKind.u64.wrap (un.tdiv y1) = un / y1 := by
    rw [IntWalk.u64_quo _ _ ⟨una, by omega, by omega⟩]
  have q0 : 0 ≤ un / y1 := Int.ediv_nonneg una (by omega)
  have p0 : 0 ≤ un / y1 * y1 := Int.mul_nonneg q0 (by omega)
  have p1 : un / y1 * y1 ≤ un := Int.ediv_mul_le _ (by omega)
  go_enter Tryz.func191, Tryz.ntmps191
  go_upto_block 0 with (go_at_call 193; refine (HLZ.out _).mono ?_; rintro e w' ⟨rfl, rfl⟩)
  go_cut [15, 16] (fun v15 v16 wx => (∃ Q1 : Int, v15 = .int .u64 Q1 ∧ (un * 4294967296 + u1) / (y1 * 4294967296 + y0) = Q1) ∧ (∃ z : Int, v16 = .int .u64 z) ∧ w = wx)
  case first =>
    go_wp2_with fail
    go_loop [15, 16] (fun q r => ∃ a b : Int, q = .int .u64 a ∧ r = .int .u64 b ∧ Tr un u1 y1 y0 a b) (fun q _ => (intOf q).toNat)
    case atStart => exact ⟨_, _, rfl, rfl, Tr.first y0a y1a y1b una (by omega) u1b⟩
    case round =>
      obtain ⟨q, r, rfl, rfl, hT⟩ := hrel
      have hr0 : 0 ≤ r := hT.2.1
      have hr1 : r < 4294967296 := hT.2.2.1
      have hq0 : 0 ≤ q := hT.2.2.2.1
      have hq1 : q < 18446744073709551616 := hT.2.2.2.2.1
      have hun' : un < y1 * 4294967296 + y0 := by have := FY.out; omega
      by_cases hq : 4294967296 ≤ q
      · have hl := Tr.less y0a y1a una u1a u1b hun' hT (.inl hq)
        have HL := Lib.hid hl
        have HT := Lib.hid hT
        have hl1 := hl.1
        clear hl hT d1 q0 p0 p1
        go_wp2_with fail
        · have hx : 4294967296 ≤ r + y1 := by assumption
          go_meet
          exact ⟨⟨_, rfl, Tr.out y0a y0b y1a u1a hun' HL.out hx⟩, ⟨_, rfl⟩, rfl⟩
        · have hx : r + y1 < 4294967296 := by assumption
          go_round
          case rel => exact ⟨_, _, rfl, rfl, Tr.next y1a HT.out HL.out hx⟩
          case measure => simp [intOf]; omega
      · obtain ⟨m0, m1⟩ := word_mul hq0 (by omega) y0a y0b
        by_cases hm : 4294967296 * r + u1 < q * y0
        · have hl := Tr.less y0a y1a una u1a u1b hun' hT (.inr hm)
          have HL := Lib.hid hl
          have HT := Lib.hid hT
          have hl1 := hl.1
          clear hl hT d1 q0 p0 p1
          go_wp2_with fail
          · have hx : 4294967296 ≤ r + y1 := by assumption
            go_meet
            exact ⟨⟨_, rfl, Tr.out y0a y0b y1a u1a hun' HL.out hx⟩, ⟨_, rfl⟩, rfl⟩
          · have hx : r + y1 < 4294967296 := by assumption
            go_round
            case rel => exact ⟨_, _, rfl, rfl, Tr.next y1a HT.out HL.out hx⟩
            case measure => simp [intOf]; omega
        · have hs := Tr.stop y0a (by omega) hT (by omega)
          have HS := Lib.hid hs
          clear hs hT d1 q0 p0 p1
          go_wp2_with fail
          go_meet
          exact ⟨⟨_, rfl, HS.out⟩, ⟨_, rfl⟩, rfl⟩
  case rest =>
    obtain ⟨⟨Q1, rfl, hQ1⟩, ⟨z, rfl⟩, rfl⟩ := hcut
    rw [← FY.out] at hQ1
    obtain ⟨Qa, Qb, eR, Ra, Rb⟩ := leaves (by omega) una unb u1a u1b hQ1
    have eW := wrap_diff un u1 (Q1 * Y) Ra (by omega)
    rw [← eR] at eW Ra Rb
    have HQ1 := Lib.hid hQ1
    clear d1 q0 p0 p1 hQ1 eR
    generalize hR1 : (un * 4294967296 + u1) % Y = R1 at *
    have HR1 := Lib.hid hR1
    clear hR1
    have d1 : IntKind.u64.wrap (R1.tdiv y1) = R1 / y1 := by
      rw [IntWalk.u64_quo _ _ ⟨Ra, by omega, by omega⟩]
    have q0 : 0 ≤ R1 / y1 := Int.ediv_nonneg Ra (by omega)
    have p0 : 0 ≤ R1 / y1 * y1 := Int.mul_nonneg q0 (by omega)
    have p1 : R1 / y1 * y1 ≤ R1 := Int.ediv_mul_le _ (by omega)
    go_upto_block 2 with fail
    go_cut [18, 16] (fun v18 v16 wx => (∃ Q0 : Int, v18 = .int .u64 Q0 ∧ (R1 * 4294967296 + u0) / (y1 * 4294967296 + y0) = Q0) ∧ (∃ z : Int, v16 = .int .u64 z) ∧ w = wx)
    case first =>
      go_wp2_with fail
      go_loop [18, 16] (fun q r => ∃ a b : Int, q = .int .u64 a ∧ r = .int .u64 b ∧ Tr R1 u0 y1 y0 a b) (fun q _ => (intOf q).toNat)
      case atStart => exact ⟨_, _, rfl, rfl, Tr.first y0a y1a y1b Ra (by omega) u0b⟩
      case round =>
        obtain ⟨q, r, rfl, rfl, hT⟩ := hrel
        have hr0 : 0 ≤ r := hT.2.1
        have hr1 : r < 4294967296 := hT.2.2.1
        have hq0 : 0 ≤ q := hT.2.2.2.1
        have hq1 : q < 18446744073709551616 := hT.2.2.2.2.1
        have hun' : R1 < y1 * 4294967296 + y0 := by have := FY.out; omega
        by_cases hq : 4294967296 ≤ q
        · have hl := Tr.less y0a y1a Ra u0a u0b hun' hT (.inl hq)
          have HL := Lib.hid hl
          have HT := Lib.hid hT
          have hl1 := hl.1
          clear hl hT d1 q0 p0 p1
          go_wp2_with fail
          · have hx : 4294967296 ≤ r + y1 := by assumption
            go_meet
            exact ⟨⟨_, rfl, Tr.out y0a y0b y1a u0a hun' HL.out hx⟩, ⟨_, rfl⟩, rfl⟩
          · have hx : r + y1 < 4294967296 := by assumption
            go_round
            case rel => exact ⟨_, _, rfl, rfl, Tr.next y1a HT.out HL.out hx⟩
            case measure => simp [intOf]; omega
        · obtain ⟨m0, m1⟩ := word_mul hq0 (by omega) y0a y0b
          by_cases hm : 4294967296 * r + u0 < q * y0
          · have hl := Tr.less y0a y1a Ra u0a u0b hun' hT (.inr hm)
            have HL := Lib.hid hl
            have HT := Lib.hid hT
            have hl1 := hl.1
            clear hl hT d1 q0 p0 p1
            go_wp2_with fail
            · have hx : 4294967296 ≤ r + y1 := by assumption
              go_meet
              exact ⟨⟨_, rfl, Tr.out y0a y0b y1a u0a hun' HL.out hx⟩, ⟨_, rfl⟩, rfl⟩
            · have hx : r + y1 < 4294967296 := by assumption
              go_round
              case rel => exact ⟨_, _, rfl, rfl, Tr.next y1a HT.out HL.out hx⟩
              case measure => simp [intOf]; omega
          · have hs := Tr.stop y0a (by omega) hT (by omega)
            have HS := Lib.hid hs
            clear hs hT d1 q0 p0 p1
            go_wp2_with fail
            go_meet
            exact ⟨⟨_, rfl, HS.out⟩, ⟨_, rfl⟩, rfl⟩
    case rest =>
      obtain ⟨⟨Q0, rfl, hQ0⟩, ⟨z, rfl⟩, rfl⟩ := hcut
      rw [← FY.out] at hQ0
      obtain ⟨Q0a, Q0b, eR0, R0a, R0b⟩ := leaves (by omega) Ra Rb u0a u0b hQ0
      have eW0 := wrap_diff R1 u0 (Q0 * Y) R0a (by omega)
      rw [← eR0] at eW0
      obtain ⟨w1, w2⟩ := whole (u0 := u0) (y := Y) (by omega) HQ1.out HR1.out
      rw [← FLW.out, FU.out, FYS.out] at w1 w2
      have hp : (0 : Int) < 2 ^ s := Int.pow_pos (by omega)
      obtain ⟨b1, b2⟩ := back (X := (hi : Int) * 18446744073709551616 + lo) (y := y) hp
      rw [w2] at b2
      rw [w1] at b1
      rw [← FYS.out] at b1 b2
      rw [hQ0] at b1
      have B1 := Lib.hid b1
      have B2 := Lib.hid b2
      clear b1 b2 w1 w2 hQ0 eR0 d1 q0 p0 p1
      go_wp2
      go_ret2
      exact ⟨ret_two' B1.out B2.out, rfl⟩
/-- Div64, in letters. -/
theorem div_any (hi lo y : Nat) (hl1 : lo < 18446744073709551616) (hhy : hi < y) (hy1 : y < 18446744073709551616) :
    ∃ Q R : Nat, (hi * 18446744073709551616 + lo) / y = Q ∧ (hi * 18446744073709551616 + lo) % y = R ∧ ∀ w : World,
      Calls Tryz.prog 191 #[.int .u64 hi, .int .u64 lo, .int .u64 y] w fun e w' => e = .returned (.tuple #[.int .u64 Q, .int .u64 R]) ∧ ∃ n, w' = w.drewN n := by
  refine ⟨_, _, rfl, rfl, fun w => ?_⟩
  rcases Nat.eq_zero_or_pos hi with h | h
  · subst h
    refine (div_small lo y w (by omega) (by omega) (by omega) (by omega)).mono fun e w' h => ⟨?_, h.2⟩
    rw [h.1]
    simp
  · refine (div_great hi lo y w hl1 h hhy hy1).mono fun e w' h => ⟨?_, 0, h.2.symm⟩
    rw [h.1]
    simp

/-- Mul64, in letters. -/
theorem mul_any (x y : Nat) (hx : x < 18446744073709551616) (hy : y < 18446744073709551616) :
    ∃ H L : Nat, H * 18446744073709551616 + L = x * y ∧ L < 18446744073709551616 ∧ ∀ w : World,
      Calls Tryz.prog 190 #[.int .u64 x, .int .u64 y] w fun e w' => e = .returned (.tuple #[.int .u64 H, .int .u64 L]) ∧ w = w' :=
  ⟨x * y / 18446744073709551616, x * y % 18446744073709551616, by omega, by omega, fun w => (Tryz.bits_Mul64 x y hx hy w).mono fun _ _ h => ⟨h.1, h.2.symm⟩⟩
end Go.Proofs.YtoboecenlangmaaGreat.Dv
end
section
namespace Go.Proofs.YtoboecenlangmaaGreat.Gl
open Go.ChangeShapes Go.WideShapes Go.ChangeAt Go.RowKit

def RoundIs (p d : Int) (e : Ending) : Prop := if pOk p d = true then e = .returned (.tuple #[.int .i64 (pq p d), .bool true]) else ∃ v, e = .returned (.tuple #[.int .i64 v, .bool false])
theorem RoundIs.yes {p d a : Int} {b : Bool} (h : pOk p d = true) (ha : a = pq p d) (hb : b = true) : RoundIs p d (.returned (.tuple #[.int .i64 a, .bool b])) := by
  unfold RoundIs; rw [if_pos h, ha, hb]
theorem RoundIs.no {p d a : Int} {b : Bool} (h : pOk p d = false) (hb : b = false) : RoundIs p d (.returned (.tuple #[.int .i64 a, .bool b])) := by
  unfold RoundIs; rw [if_neg (by simp [h]), hb]; exact ⟨_, rfl⟩

/-- glue.round, wrap and all. -/
theorem round_any (N S D : Nat) (hN : N ≤ 70368744177664) (hS : S ≤ 70368744177664) (hD0 : 0 < D) (hD : D ≤ 70368744177664) (w : World) :
    Calls Tryz.prog 184 #[.int .i64 N, .int .i64 S, .int .i64 D] w fun e w' => RoundIs ((N : Int) * S) D e ∧ ∃ n, w' = w.drewN n := by
  obtain ⟨H, L, hHL, hL, hmul⟩ := Dv.mul_any N S (by omega) (by omega)
  have HM := Lib.hid hmul
  clear hmul
  have hHLi : (H : Int) * 18446744073709551616 + L = (N : Int) * S := by
    have h := congrArg (fun n : Nat => (n : Int)) hHL
    rw [← Int.natCast_mul, ← h]
    omega
  by_cases hDH : D ≤ H
  · have hfar : pOk ((N : Int) * S) D = false := by
      refine pOk_far (Int.le_ediv_of_mul_le (by omega) ?_)
      rw [W64_eq]
      omega
    have HF := Lib.hid hfar
    have HH := Lib.hid hHL
    clear hHL hHLi hfar
    go_enter Tryz.func184, Tryz.ntmps184
    go_wp2_with (go_at_call 190; refine (HM.out _).mono ?_; rintro e w' ⟨rfl, rfl⟩)
    go_ret2
    exact ⟨.no HF.out rfl, 0, rfl⟩
  · obtain ⟨Q, R, hQ, hR, hdiv⟩ := Dv.div_any H L D hL (by omega) (by omega)
    rw [hHL] at hQ hR
    have hQi : (N : Int) * S / D = Q := by rw [← hQ]; push_cast; rfl
    have hRi : (N : Int) * S % D = R := by rw [← hR]; push_cast; rfl
    have hRD : R < D := by rw [← hR]; exact Nat.mod_lt _ hD0
    have hQu : (Q : Int) < 18446744073709551616 := by
      rw [← hQi]
      exact Int.ediv_lt_of_lt_mul (by omega) (by omega)
    have hP := pOk_near (p := (N : Int) * S) (d := D) (by rw [hQi, W64_eq]; exact hQu)
    have HD := Lib.hid hdiv
    have HH := Lib.hid hHL
    have hQu' : (Q : Int) ≤ 18446744073709551615 := by omega
    have hL' : L ≤ 18446744073709551615 := by omega
    clear hdiv hHL hHLi hQ hR hQu hL
    by_cases hup : D - R ≤ R
    · have hr := pq_up (p := (N : Int) * S) (d := D) (by rw [hRi]; omega)
      rw [W64_eq] at hr
      have e1 : IntKind.u64.wrap ((Q : Int) + 1) = ((Q : Int) + 1) % 18446744073709551616 := Dv.u64_wrap _
      rw [hQi] at hr
      have v0 := Int.emod_nonneg ((Q : Int) + 1) (show (18446744073709551616 : Int) ≠ 0 by omega)
      have v1 : ((Q : Int) + 1) % 18446744073709551616 ≤ 18446744073709551615 := by omega
      rw [hr] at hP
      generalize ((Q : Int) + 1) % 18446744073709551616 = V at *
      have HR' := Lib.hid hr
      have HP' := Lib.hid hP
      clear hr hP hQi hRi
      by_cases hfit : V ≤ 70368744177664
      · go_enter Tryz.func184, Tryz.ntmps184
        go_wp2_with (first | (go_at_call 190; refine (HM.out _).mono ?_; rintro e w' ⟨rfl, rfl⟩) | (go_at_call 191; refine (HD.out _).mono ?_; rintro e w' ⟨rfl, n, rfl⟩))
        go_ret2
        exact ⟨.yes (by rw [HP'.out]; exact decide_eq_true hfit) (by rw [HR'.out]) rfl, _, rfl⟩
      · go_enter Tryz.func184, Tryz.ntmps184
        go_wp2_with (first | (go_at_call 190; refine (HM.out _).mono ?_; rintro e w' ⟨rfl, rfl⟩) | (go_at_call 191; refine (HD.out _).mono ?_; rintro e w' ⟨rfl, n, rfl⟩))
        go_ret2
        exact ⟨.no (by rw [HP'.out]; exact decide_eq_false (by omega)) (decide_eq_false (by omega)), _, rfl⟩
    · have hr := pq_down (p := (N : Int) * S) (d := D) (by rw [hRi]; omega)
      rw [hQi] at hr
      rw [hr] at hP
      have HR' := Lib.hid hr
      have HP' := Lib.hid hP
      clear hr hP hQi hRi
      by_cases hfit : (Q : Int) ≤ 70368744177664
      · go_enter Tryz.func184, Tryz.ntmps184
        go_wp2_with (first | (go_at_call 190; refine (HM.out _).mono ?_; rintro e w' ⟨rfl, rfl⟩) | (go_at_call 191; refine (HD.out _).mono ?_; rintro e w' ⟨rfl, n, rfl⟩))
        go_ret2
        exact ⟨.yes (by rw [HP'.out]; exact decide_eq_true hfit) (by rw [HR'.out]) rfl, _, rfl⟩
      · go_enter Tryz.func184, Tryz.ntmps184
        go_wp2_with (first | (go_at_call 190; refine (HM.out _).mono ?_; rintro e w' ⟨rfl, rfl⟩) | (go_at_call 191; refine (HD.out _).mono ?_; rintro e w' ⟨rfl, n, rfl⟩))
        go_ret2
        exact ⟨.no (by rw [HP'.out]; exact decide_eq_false (by omega)) (decide_eq_false (by omega)), _, rfl⟩
theorem share_range (s n d : Int) (w : World) (hok : shOk s n d = false) :
    Calls Tryz.prog 169 #[.int .i64 s, .int .i64 n, .int .i64 d] w fun e w' => e = .returned (.tuple #[.int .i64 0, .int .i64 11]) ∧ w = w' := by
  by_cases hd : d < 1
  · go_enter Tryz.func169, Tryz.ntmps169
    go_wp2_with (first | (go_at_call 150; refine (near_any _ _).mono ?_; rintro e w' ⟨rfl, rfl⟩))
    go_ret2
    exact ⟨rfl, rfl⟩
  · cases hs : nearB s
    · go_enter Tryz.func169, Tryz.ntmps169
      go_wp2_with (first | (go_at_call 150; refine (near_any _ _).mono ?_; rintro e w' ⟨rfl, rfl⟩))
      go_ret2
      exact ⟨rfl, rfl⟩
    · cases hn : nearB n
      · go_enter Tryz.func169, Tryz.ntmps169
        go_wp2_with (first | (go_at_call 150; refine (near_any _ _).mono ?_; rintro e w' ⟨rfl, rfl⟩))
        go_ret2
        exact ⟨rfl, rfl⟩
      · have hd' : nearB d = false := by
          cases hx : nearB d
          · rfl
          · rw [show shOk s n d = true by simp [shOk, hs, hn, hx]; omega] at hok; cases hok
        go_enter Tryz.func169, Tryz.ntmps169
        go_wp2_with (first | (go_at_call 150; refine (near_any _ _).mono ?_; rintro e w' ⟨rfl, rfl⟩))
        go_ret2
        exact ⟨rfl, rfl⟩

/-- What Share hands back, past its tests. -/
def ShareIs (s n d : Int) (e : Ending) : Prop := e = .returned (.tuple #[.int .i64 (psV s n d), .int .i64 (psE s n d)])
theorem ShareIs.far {s n d a b : Int} (hok : shOk s n d = true) (h : pOk (mag n * mag s) d = false) (ha : a = 0) (hb : b = 20) : ShareIs s n d (.returned (.tuple #[.int .i64 a, .int .i64 b])) := by
  have h1 := psE_far hok h
  have h2 : psV s n d = 0 := psV_err (by omega)
  unfold ShareIs; rw [h1, h2, ha, hb]
theorem ShareIs.ok {s n d a b : Int} (hok : shOk s n d = true) (h : pOk (mag n * mag s) d = true) (ha : a = sgn s n * pq (mag n * mag s) d) (hb : b = 0) : ShareIs s n d (.returned (.tuple #[.int .i64 a, .int .i64 b])) := by
  have h1 := psE_ok hok h
  have h2 := psV_ok h1
  unfold ShareIs; rw [h1, h2, ha, hb]

theorem pOk_bd {p d : Int} (h : pOk p d = true) (hp : 0 ≤ p) (hd : 1 ≤ d) : 0 ≤ pq p d ∧ pq p d ≤ 70368744177664 := by
  unfold pOk at h
  simp only [Bool.and_eq_true, decide_eq_true_eq] at h
  refine ⟨?_, h.2⟩
  have h0 : 0 ≤ p / d := Int.ediv_nonneg hp (by omega)
  unfold pq
  split
  · exact Int.emod_nonneg _ (by rw [W64_eq]; omega)
  · exact h0

theorem share_in (s n d : Int) (w : World) (hok : shOk s n d = true) :
    Calls Tryz.prog 169 #[.int .i64 s, .int .i64 n, .int .i64 d] w fun e w' => ShareIs s n d e ∧ ∃ k, w' = w.drewN k := by
  obtain ⟨h1, ⟨s0, s1⟩, ⟨n0, n1⟩, d0, d1⟩ := shOk_iff.1 hok
  have hs := nearB_yes s0 s1
  have hn := nearB_yes n0 n1
  have hd := nearB_yes d0 d1
  have hdd : decide (d < 1) = false := decide_eq_false (by omega)
  obtain ⟨N, hN, hN', hN1⟩ := mag_cast n0 n1
  obtain ⟨S, hS, hS', hS1⟩ := mag_cast s0 s1
  obtain ⟨D, rfl⟩ := Int.eq_ofNat_of_zero_le (show 0 ≤ d by omega)
  have hround := fun w => round_any N S D (by omega) (by omega) (by omega) (by omega) w
  have far := fun a b h => ShareIs.far (a := a) (b := b) hok h
  have fin := fun a b h => ShareIs.ok (a := a) (b := b) hok h
  have hbd := fun h => pOk_bd (p := mag n * mag s) (d := D) h (Int.mul_nonneg (mag_nonneg n) (mag_nonneg s)) (by omega)
  rw [hN, hS] at far fin hbd
  have HR := Lib.hid hround
  have FAR := Lib.hid far
  have FIN := Lib.hid fin
  have HBD := Lib.hid hbd
  clear hround far fin hok hN hS hbd
  cases hp : pOk ((N : Int) * S) D
  · have HP := Lib.hid hp
    clear hp
    go_enter Tryz.func169, Tryz.ntmps169
    go_wp2_with (first | (go_at_call 150; refine (near_any _ _).mono ?_; rintro e w' ⟨rfl, rfl⟩))
    refine (HR.out _).mono ?_
    rintro e w' ⟨hr, k, rfl⟩
    unfold RoundIs at hr
    rw [if_neg (by rw [HP.out]; simp)] at hr
    obtain ⟨v, rfl⟩ := hr
    go_wp2_with fail
    go_ret2
    exact ⟨FAR.out _ _ HP.out rfl rfl, _, rfl⟩
  · obtain ⟨v0, v1⟩ := HBD.out hp
    have HP := Lib.hid hp
    clear hp
    have hsg1 := sgn_mul (s := s) (n := n) (q := pq ((N : Int) * S) D)
    have HSG := Lib.hid hsg1
    clear hsg1
    by_cases hs0 : s < 0
    · have hs0' : decide (s < 0) = true := decide_eq_true hs0
      by_cases hn0 : n < 0
      · have hn0' : decide (n < 0) = true := decide_eq_true hn0
        go_enter Tryz.func169, Tryz.ntmps169
        go_wp2_with (first | (go_at_call 150; refine (near_any _ _).mono ?_; rintro e w' ⟨rfl, rfl⟩))
        refine (HR.out _).mono ?_
        rintro e w' ⟨hr, k, rfl⟩
        unfold RoundIs at hr
        rw [if_pos HP.out] at hr
        subst hr
        go_wp2_with fail
        go_ret2
        exact ⟨FIN.out _ _ HP.out (by rw [← HSG.out]; simp [hs0, hn0]) rfl, _, rfl⟩
      · have hn0' : decide (n < 0) = false := decide_eq_false hn0
        go_enter Tryz.func169, Tryz.ntmps169
        go_wp2_with (first | (go_at_call 150; refine (near_any _ _).mono ?_; rintro e w' ⟨rfl, rfl⟩))
        refine (HR.out _).mono ?_
        rintro e w' ⟨hr, k, rfl⟩
        unfold RoundIs at hr
        rw [if_pos HP.out] at hr
        subst hr
        go_wp2_with fail
        go_ret2
        exact ⟨FIN.out _ _ HP.out (by rw [← HSG.out]; simp [hs0, Int.not_lt.2 hn0]) rfl, _, rfl⟩
    · have hs0' : decide (s < 0) = false := decide_eq_false hs0
      by_cases hn0 : n < 0
      · have hn0' : decide (n < 0) = true := decide_eq_true hn0
        go_enter Tryz.func169, Tryz.ntmps169
        go_wp2_with (first | (go_at_call 150; refine (near_any _ _).mono ?_; rintro e w' ⟨rfl, rfl⟩))
        refine (HR.out _).mono ?_
        rintro e w' ⟨hr, k, rfl⟩
        unfold RoundIs at hr
        rw [if_pos HP.out] at hr
        subst hr
        go_wp2_with fail
        go_ret2
        exact ⟨FIN.out _ _ HP.out (by rw [← HSG.out]; simp [Int.not_lt.2 hs0, hn0]) rfl, _, rfl⟩
      · have hn0' : decide (n < 0) = false := decide_eq_false hn0
        go_enter Tryz.func169, Tryz.ntmps169
        go_wp2_with (first | (go_at_call 150; refine (near_any _ _).mono ?_; rintro e w' ⟨rfl, rfl⟩))
        refine (HR.out _).mono ?_
        rintro e w' ⟨hr, k, rfl⟩
        unfold RoundIs at hr
        rw [if_pos HP.out] at hr
        subst hr
        go_wp2_with fail
        go_ret2
        exact ⟨FIN.out _ _ HP.out (by rw [← HSG.out]; simp [Int.not_lt.2 hs0, Int.not_lt.2 hn0]) rfl, _, rfl⟩

/-- glue.Share: what it answers, wrap and all. -/
theorem share_any (s n d : Int) (w : World) :
    Calls Tryz.prog 169 #[.int .i64 s, .int .i64 n, .int .i64 d] w fun e w' => e = .returned (.tuple #[.int .i64 (psV s n d), .int .i64 (psE s n d)]) ∧ ∃ k, w' = w.drewN k := by
  cases h : shOk s n d
  · refine (share_range s n d w h).mono ?_
    rintro e w' ⟨rfl, rfl⟩
    have h1 := psE_range h
    exact ⟨by rw [h1, psV_err (by omega)], 0, rfl⟩
  · exact share_in s n d w h
end Go.Proofs.YtoboecenlangmaaGreat.Gl
end
section
namespace Go.Proofs.YtoboecenlangmaaGreat.Gl
open Go.ChangeShapes Go.WideShapes Go.ChangeAt Go.RowKit

theorem dimen_any (x : Int) (w : World) :
    Calls Tryz.prog 180 #[.int .i64 x] w fun e w' => e = .returned (.bool (dimB x)) ∧ w = w' := by
  by_cases h0 : -1073741823 ≤ x
  · by_cases h1 : x ≤ 1073741823
    · go_enter Tryz.func180, Tryz.ntmps180
      go_wp2
      go_ret
      exact ⟨ret_bool (dimB_yes h0 h1).symm, rfl⟩
    · go_enter Tryz.func180, Tryz.ntmps180
      go_wp2
      go_ret
      exact ⟨ret_bool (dimB_no (by omega)).symm, rfl⟩
  · go_enter Tryz.func180, Tryz.ntmps180
    go_wp2
    go_ret
    exact ⟨ret_bool (dimB_no (by omega)).symm, rfl⟩

theorem check_any (n s h a b : Int) (w : World) :
    Calls Tryz.prog 123 #[.agg #[.int .i64 n, .int .i64 s, .int .i64 h, .int .i64 a, .int .i64 b]] w fun e w' =>
      e = .returned (.int .i64 (chk n s h a b)) ∧ w.alloc (.cells #[.int .i64 n, .int .i64 s, .int .i64 h, .int .i64 a, .int .i64 b] 96) = w' := by
  have i0 : ∀ w : World, (Instr.index 238 (.agg #[.int .i64 n, .int .i64 s, .int .i64 h]) (.int .i64 0)).run Tryz.prog w = .ok (.int .i64 n) w := fun _ => by kernel_rfl
  have i1 : ∀ w : World, (Instr.index 238 (.agg #[.int .i64 n, .int .i64 s, .int .i64 h]) (.int .i64 1)).run Tryz.prog w = .ok (.int .i64 s) w := fun _ => by kernel_rfl
  have i2 : ∀ w : World, (Instr.index 238 (.agg #[.int .i64 n, .int .i64 s, .int .i64 h]) (.int .i64 2)).run Tryz.prog w = .ok (.int .i64 h) w := fun _ => by kernel_rfl
  have j0 : ∀ w : World, (Instr.index 206 (.agg #[.int .i64 a, .int .i64 b]) (.int .i64 0)).run Tryz.prog w = .ok (.int .i64 a) w := fun _ => by kernel_rfl
  have j1 : ∀ w : World, (Instr.index 206 (.agg #[.int .i64 a, .int .i64 b]) (.int .i64 1)).run Tryz.prog w = .ok (.int .i64 b) w := fun _ => by kernel_rfl
  cases g : glueB n s h a b
  · have hno := chk_no g
    have hnot : ¬ ((-1073741823 ≤ n ∧ n ≤ 1073741823) ∧ (-1073741823 ≤ s ∧ s ≤ 1073741823) ∧ (-1073741823 ≤ h ∧ h ≤ 1073741823) ∧ (0 ≤ a ∧ a ≤ 3) ∧ (0 ≤ b ∧ b ≤ 3)) := by
      rw [← glueB_iff, g]; simp
    have HN := Lib.hid hno
    have HX := Lib.hid hnot
    clear g hno hnot
    go_enter Tryz.func123, Tryz.ntmps123
    go_wp2_with fail
    refine wp_loop_rounds 4 ?_
    repeat any_goals (rw [rounds_succ]; go_wp2_with (go_at_call 180; refine (dimen_any _ _).mono ?_; rintro e w' ⟨rfl, rfl⟩))
    all_goals try (go_ret; exact ⟨ret_int HN.out.symm, rfl⟩)
    go_rounds 3
    all_goals first | (go_ret; exact ⟨ret_int HN.out.symm, rfl⟩) | (exfalso; have e1 : (!dimB n) = false := (by assumption); have e2 : (!dimB s) = false := (by assumption); have e3 : (!dimB h) = false := (by assumption); rw [Bool.not_eq_false', dimB_iff] at e1 e2 e3; exact HX.out (by omega))
  · obtain ⟨⟨n0, n1⟩, ⟨s0, s1⟩, ⟨h0, h1⟩, ⟨a0, a1⟩, b0, b1⟩ := glueB_iff.1 g
    have hyes := chk_yes g
    have HY := Lib.hid hyes
    clear g hyes
    go_enter Tryz.func123, Tryz.ntmps123
    go_wp2_with fail
    go_rounds 4
    go_rounds 3
    go_ret
    exact ⟨ret_int HY.out.symm, rfl⟩
end Go.Proofs.YtoboecenlangmaaGreat.Gl
end
section
namespace Go.Proofs.YtoboecenlangmaaGreat.Gl
open Go.ChangeShapes Go.WideShapes Go.ChangeAt Go.RowKit
open Me

def G.vals (g : G) : List Value := [.int .i64 g.n, .int .i64 g.s, .int .i64 g.h, .int .i64 g.a, .int .i64 g.b]
theorem G.vals_len (g : G) : g.vals.length = 5 := rfl

/-- A slice of glue that reads as the list l. -/
def Row (w : World) (A : Option Addr) (l : List G) : Prop := Seg w w.heap.size A (l.flatMap G.vals)

/-- The five cells of the k-th piece. -/
theorem Row.cells {w wr : World} {A : Option Addr} {l : List G} (h : Row w A l) (hb : Below w.heap.size w wr) {k : Nat} {g : G} (hk : l[k]? = some g) :
    ∃ b off : Nat, A = some ⟨b, off, none⟩ ∧ wr.cell? ⟨b, off + k * 5, none⟩ = some (.int .i64 g.n) ∧ wr.cell? ⟨b, off + k * 5 + 1, none⟩ = some (.int .i64 g.s) ∧
      wr.cell? ⟨b, off + k * 5 + 2, none⟩ = some (.int .i64 g.h) ∧ wr.cell? ⟨b, off + k * 5 + 3, none⟩ = some (.int .i64 g.a) ∧ wr.cell? ⟨b, off + k * 5 + 4, none⟩ = some (.int .i64 g.b) := by
  obtain ⟨b, off, rfl, hB, hc⟩ := Seg.row G.vals_len h hk (by omega)
  have hx : ∀ j u, g.vals[j]? = some u → wr.cell? ⟨b, off + k * 5 + j, none⟩ = some u := fun j u hu => (hb.cell (p := ⟨b, off + k * 5 + j, none⟩) hB).trans (hc j u hu)
  exact ⟨b, off, rfl, hx 0 _ rfl, hx 1 _ rfl, hx 2 _ rfl, hx 3 _ rfl, hx 4 _ rfl⟩

theorem row_any (A : Option Addr) (l : List G) (c : Nat) (w : World) (h63 : l.length ≤ maxLen) (hrow : Row w A l) :
    Calls Tryz.prog 167 #[.slice A l.length c] w fun e w' => e = .returned (.int .i64 (rowE l)) ∧ Below w.heap.size w w' := by
  unfold maxLen at h63
  have HR := Lib.hid hrow
  clear hrow
  by_cases hlen : 2000 < l.length
  · have h6 := rowE_long hlen
    have H6 := Lib.hid h6
    clear h6
    go_enter Tryz.func167, Tryz.ntmps167
    go_wp2_with fail
    go_ret
    exact ⟨ret_int H6.out.symm, Below.refl _ _⟩
  · generalize hn : l.length = n at *
    have HN := Lib.hid hn
    clear hn
    go_enter Tryz.func167, Tryz.ntmps167
    go_wp2_with fail
    go_loopw [4, 10] (fun p i wr => ∃ k : Nat, k ≤ n ∧ i = .int .i64 k ∧ (l.take k).all G.ok = true ∧ Below w.heap.size w wr) (fun _ i _ => n - (intOf i).toNat)
    case atStart => exact ⟨0, Nat.zero_le _, rfl, by simp, Below.refl _ _⟩
    case round =>
      obtain ⟨k, hk, rfl, hall, hb⟩ := hrel
      have HA := Lib.hid hall
      clear hall
      have hsz := hb.size
      by_cases hlt : k < n
      · obtain ⟨g, hg⟩ : ∃ g, l[k]? = some g := ⟨_, List.getElem?_eq_getElem (by rw [HN.out]; exact hlt)⟩
        obtain ⟨b, off, rfl, c0, c1, c2, c3, c4⟩ := HR.out.cells hb hg
        have HG := Lib.hid hg
        clear hg
        cases hok : g.ok
        · have hchk : (chk g.n g.s g.h g.a g.b != 0) = true := by have := G.chk_bad hok; unfold G.chk at this; rw [this]; rfl
          have HO := Lib.hid hok
          clear hok
          go_wp2_with (go_at_call 123; refine (check_any _ _ _ _ _ _).mono ?_; rintro e w' ⟨rfl, rfl⟩)
          go_ret
          exact ⟨ret_int (rowE_bad (by rw [HN.out]; omega) HG.out HO.out).symm, (hb.alloc hsz _).alloc (by simp; omega) _⟩
        · have hchk : (chk g.n g.s g.h g.a g.b != 0) = false := by have := G.chk_ok hok; unfold G.chk at this; rw [this]; rfl
          have HO := Lib.hid hok
          clear hok
          go_wp2_with (go_at_call 123; refine (check_any _ _ _ _ _ _).mono ?_; rintro e w' ⟨rfl, rfl⟩)
          go_roundw
          case rel => exact ⟨k + 1, by omega, by go_num, take_all HG.out HA.out HO.out, (hb.alloc hsz _).alloc (by simp; omega) _⟩
          case measure => simp [intOf]; omega
      · obtain rfl : k = n := by omega
        go_wp2_with fail
        go_ret
        refine ⟨ret_int (rowE_ok (by rw [HN.out]; omega) ?_).symm, hb⟩
        have := HA.out
        rwa [List.take_of_length_le (by rw [HN.out]; exact Nat.le_refl _)] at this
end Go.Proofs.YtoboecenlangmaaGreat.Gl
end
section
namespace Go.Proofs.YtoboecenlangmaaGreat.Al
open Np
open Gl (G)
open Go.RowKit (wrap64)
set_option linter.unusedVariables false

abbrev RD := List (List Nd × Int) × List Nd
noncomputable def celE (cols : Int) : Int → List (List Nd × Int) → Int
  | _, [] => 0
  | a, c :: r => if c.2 < 1 ∨ cols - a < c.2 then 220 else if (wd c.1).1 = 0 then celE cols (a + c.2) r else (wd c.1).1
noncomputable def rowErr (cols : Int) (r : RD) : Int := if celE cols 0 r.1 = 0 then chk r.2 else celE cols 0 r.1
noncomputable def rowsE (cols : Int) : List RD → Int
  | [] => 0
  | r :: rs => if rowErr cols r = 0 then rowsE cols rs else rowErr cols r
noncomputable def ckE (ss : List G) (rs : List RD) : Int :=
  if ss.length < 2 ∨ 257 < ss.length ∨ 2000 < rs.length then 220 else if ss.all G.ok = true then rowsE ((ss.length : Int) - 1) rs else 30
noncomputable def wids (r : RD) : List Int := r.1.map fun c => (wd c.1).2
noncomputable def cel (r : RD) : List (Int × Nat) := r.1.map fun c => ((wd c.1).2, c.2.toNat)
/-- Where cell k begins. -/
def posI : List (List Nd × Int) → Nat → Int
  | _, 0 => 0
  | [], _ => 0
  | c :: r, k + 1 => c.2 + posI r k

theorem posI_succ : ∀ {r : List (List Nd × Int)} {k : Nat} {c : List Nd × Int}, r[k]? = some c → posI r (k + 1) = posI r k + c.2
  | [], k, c, h => by simp at h
  | x :: r, 0, c, h => by
    simp at h
    subst h
    simp [posI]
  | x :: r, k + 1, c, h => by
    rw [posI, posI_succ (r := r) (k := k) (c := c) (by simpa using h), posI]
    omega
theorem celE_drop {cols : Int} {r : List (List Nd × Int)} {k : Nat} {c : List Nd × Int} (hk : r[k]? = some c) (a : Int) : celE cols a (r.drop k) = if c.2 < 1 ∨ cols - a < c.2 then 220 else if (wd c.1).1 = 0 then celE cols (a + c.2) (r.drop (k + 1)) else (wd c.1).1 := by
  have hlt : k < r.length := by
    rcases Nat.lt_or_ge k r.length with h | h
    · exact h
    · rw [List.getElem?_eq_none h] at hk; cases hk
  rw [List.drop_eq_getElem_cons hlt]
  rw [List.getElem?_eq_getElem hlt] at hk
  injection hk with hk
  rw [hk]
  rfl
theorem rowsE_take {cols : Int} : ∀ {rs : List RD} {i : Nat} {r : RD}, rs[i]? = some r → (∀ q ∈ rs.take i, rowErr cols q = 0) → ¬ rowErr cols r = 0 → rowsE cols rs = rowErr cols r
  | [], i, r, h, _, _ => by simp at h
  | x :: rs, 0, r, h, _, hr => by
    simp at h
    subst h
    rw [rowsE, if_neg hr]
  | x :: rs, i + 1, r, h, ha, hr => by
    rw [rowsE, if_pos (ha x (by simp))]
    exact rowsE_take (i := i) (by simpa using h) (fun q hq => ha q (by simp [hq])) hr
theorem rowsE_zero {cols : Int} : ∀ {rs : List RD}, (∀ q ∈ rs, rowErr cols q = 0) → rowsE cols rs = 0
  | [], _ => rfl
  | x :: rs, h => by
    rw [rowsE, if_pos (h x (by simp))]
    exact rowsE_zero fun q hq => h q (by simp [hq])
theorem rowsE_all {cols : Int} : ∀ {rs : List RD}, rowsE cols rs = 0 → ∀ q ∈ rs, rowErr cols q = 0
  | [], _, q, hq => by simp at hq
  | x :: rs, h, q, hq => by
    rw [rowsE] at h
    split at h
    · rename_i h0
      rcases List.mem_cons.1 hq with rfl | hq
      · exact h0
      · exact rowsE_all h q hq
    · rename_i h0
      exact absurd h h0
/-- A row that is good. -/
theorem celE_good {cols : Int} : ∀ {r : List (List Nd × Int)} {a : Int}, a ≤ cols → celE cols a r = 0 → (∀ c ∈ r, 1 ≤ c.2 ∧ (wd c.1).1 = 0) ∧ ∀ k, a + posI r k ≤ cols
  | [], a, ha, _ => ⟨by simp, fun k => by cases k <;> simp [posI, ha]⟩
  | c :: r, a, ha, h => by
    rw [celE] at h
    split at h
    · cases h
    · rename_i h1
      split at h
      · rename_i h2
        obtain ⟨h3, h4⟩ := celE_good (a := a + c.2) (by omega) h
        refine ⟨fun x hx => ?_, fun k => ?_⟩
        · rcases List.mem_cons.1 hx with rfl | hx
          · exact ⟨by omega, h2⟩
          · exact h3 x hx
        · cases k with
          | zero => simp [posI, ha]
          | succ k => have := h4 k; rw [posI]; omega
      · rename_i h2
        exact absurd h h2
theorem cel_pos : ∀ {r : List (List Nd × Int)} {ex : List Nd} {k : Nat}, (∀ c ∈ r, 1 ≤ c.2) → ((pos (cel (r, ex)) k : Nat) : Int) = posI r k
  | [], ex, k, _ => by cases k <;> rfl
  | c :: r, ex, 0, _ => rfl
  | c :: r, ex, k + 1, h => by
    have h1 := h c (by simp)
    have ih := cel_pos (r := r) (ex := ex) (k := k) fun x hx => h x (by simp [hx])
    show ((c.2.toNat + pos (cel (r, ex)) k : Nat) : Int) = c.2 + posI r k
    rw [Int.natCast_add, ih]
    omega
end Go.Proofs.YtoboecenlangmaaGreat.Al
end
section
namespace Go.Proofs.YtoboecenlangmaaGreat.Me
open Go.RowKit
set_option linter.unusedVariables false

theorem grown_new (w : World) (o : Obj) : w.grownBy (w.drew.alloc o) none :=
  ⟨rfl, rfl, rfl, by simp, fun k hk _ => Below.heap_alloc w.drew o k hk⟩
theorem run_push_where {P : Program} {w : World} (base : Nat) (t ty e : TypeId) (i : TypeInfo) (z : Value) (ht : P.underlying t = some (.slice e)) (hi : P.info? e = some i) (hz : i.zero = some z)
    (v : Value) (n : Nat) (xs : List Value) (hown : w.ownsRow base e i.size v n xs) (a : Addr) (c : Nat) (news : List Value) (hl : news.length = 1 * i.size) (hnews : ∀ j u, news[j]? = some u → w.cell? (a.add j) = some u) (h1 : ∀ u ∈ news, u.oneCell' = true)
    (hn : n + 1 ≤ 140737488355328) (hbytes : (n + 1) * i.bytes ≤ 140737488355328) :
    ∃ v' w', (Builtin.append_ #[t, t] ty #[v, .slice (some a) 1 c]).run P w = .ok v' w' ∧ (v'.ownBlock = v.ownBlock ∨ (∃ q, v'.ownBlock = some q ∧ w.heap.size ≤ q) ∧ w.grownBy w' none) := by
  rcases hown.2 with ⟨rfl, rfl⟩ | ⟨g, cap, cur, rfl, hbg, hg, hnc, hcm, hcs, htake⟩
  · exact ⟨_, _, run_append_nil (P := P) w t ty e i z ht hi hz a 1 c news hl hnews (by omega) (by omega) (by omega), .inr ⟨⟨_, rfl, Nat.le_refl _⟩, grown_new w _⟩⟩
  · by_cases hroom : n + 1 ≤ cap
    · have hfit : n * i.size + news.length ≤ cur.size := by rw [hl, hcs, ← Nat.add_mul]; exact Nat.mul_le_mul_right _ hroom
      exact ⟨_, _, run_append_room (P := P) w t ty e i ht hi g n cap cur hg a 1 c news hl hnews h1 hroom hfit, .inl rfl⟩
    · have holds : ∀ j u, xs[j]? = some u → w.cell? ((⟨g, 0, none⟩ : Addr).add j) = some u := hown.cells (g := g) rfl
      exact ⟨_, _, run_append_grow (P := P) w t ty e i z ht hi hz ⟨g, 0, none⟩ n cap xs hown.1 holds a 1 c news hl hnews (by omega) (by omega) (growslice_fits (by omega) (by omega)), .inr ⟨⟨_, rfl, Nat.le_refl _⟩, grown_new w _⟩⟩
theorem wpList_push_at {P : Program} {ops : Array Oper} {rest : List Oper} {o : Oper} {a : Act} {Q : Exit → Act → World → Prop} {w : World} (hgd : o.guard = none) (s x : Operand) (t : TypeId)
    (ho : o.op = .call { callee := .builtin .append, args := #[s, x], argTypes := #[t, t] }) (base : Nat) (e : TypeId) (z : Value) (size bytes : Nat) (ht : P.underlying t = some (.slice e))
    (hinfo : (P.info? e).map (fun i => (i.zero, i.size, i.bytes)) = some (some z, size, bytes)) (hzs : z.cells.size = size) (hsz : 0 < size) (hby : 0 < bytes)
    (v : Value) (n : Nat) (xs : List Value) (hs : a.eval s = v) (hown : w.ownsRow base e size v n xs) (hbase : base ≤ w.heap.size)
    (cs : Array Value) (hc : cs.size = size) (h1 : cs.toList.all (fun u => u.oneCell') = true) {g : Nat} (hx : a.eval x = .slice (some ⟨g, 0, none⟩) 1 1) (hg : g = w.heap.size) (hlen : (n + 1) * bytes ≤ 140737488355328)
    (h : ∀ v' w', w'.ownsRow base e size v' (n + 1) (xs ++ cs.toList) → (w.alloc (.cells cs e)).grownBy w' v.ownBlock → (v'.ownBlock = v.ownBlock ∨ (∃ q, v'.ownBlock = some q ∧ w.heap.size ≤ q) ∧ (w.alloc (.cells cs e)).grownBy w' none) → wpList P ops Q rest (a.put o.dst v') w') :
    wpList P ops Q (o :: rest) a (w.alloc (.cells cs e)) :=
  wpList_plain hgd fun K hK => by
    subst hg
    obtain ⟨i, hi, hz, hsi, hbi⟩ := info_parts hinfo
    subst hsi hbi
    have hn : n + 1 ≤ 140737488355328 := Nat.le_trans (Nat.le_mul_of_pos_right _ hby) hlen
    have hnews : ∀ j u, cs.toList[j]? = some u → (w.alloc (.cells cs e)).cell? ((⟨w.heap.size, 0, none⟩ : Addr).add j) = some u := by
      intro j u hu
      have hcell : (w.alloc (.cells cs e)).cell? ⟨w.heap.size, j, none⟩ = some u := by
        rw [(Blk.new w e cs).cell j]
        simpa using hu
      unfold Addr.add
      split
      · rename_i hj; subst hj; exact hcell
      · simpa using hcell
    have h1' : ∀ u ∈ cs.toList, u.oneCell' = true := fun u hu => List.all_eq_true.1 h1 u hu
    obtain ⟨v', w', hr, h2, h3, _⟩ := run_append_own (P := P) (w := w.alloc (.cells cs e)) base t o.type e i z i.size i.bytes ht hi hz rfl rfl hzs hsz v n xs (hown.alloc _) ⟨w.heap.size, 0, none⟩ 1 1 cs.toList (by simp [hc]) hnews h1' (by unfold maxLen; omega) hlen (by simp; omega)
    obtain ⟨v2, w2, hr2, h4⟩ := run_push_where (P := P) (w := w.alloc (.cells cs e)) base t o.type e i z ht hi hz v n xs (hown.alloc _) ⟨w.heap.size, 0, none⟩ 1 cs.toList (by simp [hc]) hnews h1' hn hlen
    rw [hr] at hr2
    injection hr2 with e1 e2
    subst e1
    subst e2
    unfold Oper.wp execOp
    simp only [ho, resolve, invoke, builtin, Sem.run_bind, Sem.run_pure, Result.andThen_ok, List.map_toArray, List.map_cons, List.map_nil, hs, hx, hr]
    refine hK _ _ (h v' w' h2 h3 ?_)
    rcases h4 with h4 | ⟨⟨q, h4, h5⟩, h6⟩
    · exact .inl h4
    · exact .inr ⟨⟨q, h4, by simp at h5; omega⟩, h6⟩
end Go.Proofs.YtoboecenlangmaaGreat.Me
end
section
namespace Go.Proofs.YtoboecenlangmaaGreat.Al
open Go.RowKit
open Me Np No
set_option linter.unusedVariables false

theorem cell_block {w w' : World} {b : Nat} (h : w'.heap[b]? = w.heap[b]?) (o : Nat) : w'.cell? ⟨b, o, none⟩ = w.cell? ⟨b, o, none⟩ := by
  simp only [World.cell?, h]
theorem frozen_block {w w' : World} {b : Nat} (h : w'.heap[b]? = w.heap[b]?) (o : Nat) : w'.frozen? ⟨b, o, none⟩ = w.frozen? ⟨b, o, none⟩ := by
  simp only [World.frozen?, h]
/-- A piece of memory that reads as these cells, in a block that S names. -/
def SegS (w : World) (S : Nat → Prop) (A : Option Addr) (xs : List Value) : Prop :=
  xs = [] ∨ ∃ b off : Nat, A = some ⟨b, off, none⟩ ∧ b < w.heap.size ∧ S b ∧ ∀ j u, xs[j]? = some u → w.cell? ⟨b, off + j, none⟩ = some u
/-- What stays: the blocks that S names. -/
def Kp (S : Nat → Prop) (w w' : World) : Prop := w.heap.size ≤ w'.heap.size ∧ ∀ b, b < w.heap.size → S b → w'.heap[b]? = w.heap[b]?
section
variable {w w' : World} {S S' : Nat → Prop} {A : Option Addr} {xs : List Value}
theorem SegS.keep (h : SegS w S A xs) (k : Kp S w w') : SegS w' S A xs := by
  rcases h with h | ⟨b, off, rfl, hb, hs, hc⟩
  · exact .inl h
  · exact .inr ⟨b, off, rfl, Nat.lt_of_lt_of_le hb k.1, hs, fun j u hu => (cell_block (k.2 b hb hs) _).trans (hc j u hu)⟩
theorem SegS.mono (h : SegS w S A xs) (hS : ∀ b, b < w.heap.size → S b → S' b) : SegS w S' A xs := by
  rcases h with h | ⟨b, off, rfl, hb, hs, hc⟩
  · exact .inl h
  · exact .inr ⟨b, off, rfl, hb, hS b hb hs, hc⟩
theorem SegS.seg (h : SegS w S A xs) : Seg w w.heap.size A xs := by
  rcases h with h | ⟨b, off, rfl, hb, hs, hc⟩
  · exact .inl h
  · exact .inr ⟨b, off, rfl, hb, hc⟩
theorem SegS.of {B : Nat} (h : Seg w B A xs) (hB : B ≤ w.heap.size) (hS : ∀ b, b < B → S b) : SegS w S A xs := by
  rcases h with h | ⟨b, off, rfl, hb, hc⟩
  · exact .inl h
  · exact .inr ⟨b, off, rfl, by omega, hS b hb, hc⟩
/-- What the call owns. -/
theorem SegS.own {base : Nat} {e : TypeId} {size n : Nat} {v : Value} (h : w.ownsRow base e size v n xs) (hS : ∀ b, v.ownBlock = some b → S b) :
    ∃ (A : Option Addr) (c : Nat), v = .slice A n c ∧ n ≤ c ∧ c ≤ maxLen ∧ (A = none → c = 0) ∧ SegS w S A xs := by
  rcases id h.2 with ⟨rfl, rfl⟩ | ⟨g, cap, cur, rfl, hg, hh, hn, hc, hs, hx⟩
  · refine ⟨none, 0, rfl, by omega, by simp [maxLen], fun _ => rfl, .inl ?_⟩
    have := h.1
    simp at this
    exact this
  · refine ⟨_, _, rfl, hn, hc, (by intro hh; cases hh), ?_⟩
    by_cases hx0 : xs = []
    · exact .inl hx0
    · refine .inr ⟨g, 0, rfl, (h.lt g rfl).2, hS g rfl, fun j u hu => ?_⟩
      have := h.cells (g := g) rfl j u hu
      unfold Addr.add at this
      split at this
      · rename_i hj; subst hj; simpa using this
      · simpa using this
theorem Kp.below (S : Nat → Prop) (h : Below w.heap.size w w') : Kp S w w' := ⟨h.size, fun b hb _ => h.block b hb⟩
theorem Kp.grown {g : Option Nat} (h : w.grownBy w' g) (hS : ∀ b, b < w.heap.size → S b → some b ≠ g) : Kp S w w' := ⟨h.size, fun b hb hs => h.block b hb (hS b hb hs)⟩
theorem Kp.alloc (S : Nat → Prop) (w : World) (o : Obj) : Kp S w (w.alloc o) := ⟨by simp, fun b hb _ => Below.heap_alloc w o b hb⟩
theorem Kp.drewN (S : Nat → Prop) (w : World) (n : Nat) : Kp S w (w.drewN n) := ⟨Nat.le_refl _, fun _ _ _ => rfl⟩
theorem Kp.set {p : Addr} {u : Value} (hS : ∀ b, b < w.heap.size → S b → b ≠ p.block) : Kp S w (w.setCell p u) := ⟨by simp, fun b hb hs => Below.heap_setCell w p u b (hS b hb hs)⟩
theorem Kp.trans {a : World} (h : Kp S w a) (k : Kp S a w') : Kp S w w' := ⟨Nat.le_trans h.1 k.1, fun b hb hs => (k.2 b (Nat.lt_of_lt_of_le hb h.1) hs).trans (h.2 b hb hs)⟩
end

/-- A cell; a row. -/
structure Cl where
  (A : Option Addr) (c : Nat) (l : List Nd) (sp : Int)
structure Rw where
  (A : Option Addr) (c : Nat) (cs : List Cl) (E : Option Addr) (k : Nat) (ex : List Nd)
def Cl.vals (x : Cl) : List Value := [.slice x.A x.l.length x.c, .int .i64 x.sp]
def Rw.vals (r : Rw) : List Value := [.slice r.A r.cs.length r.c, .slice r.E r.ex.length r.k]
def Cl.d (x : Cl) : List Nd × Int := (x.l, x.sp)
def Rw.d (r : Rw) : List (List Nd × Int) × List Nd := (r.cs.map Cl.d, r.ex)
theorem Cl.vals_length (x : Cl) : x.vals.length = 2 := rfl
theorem Rw.vals_length (r : Rw) : r.vals.length = 2 := rfl
/-- A list as it lies in memory. -/
structure LsOk (w : World) (S : Nat → Prop) (A : Option Addr) (c : Nat) (l : List Nd) : Prop where
  cap : l.length ≤ c
  len : l.length ≤ 879609302220
  nil : A = none → c = 0
  seg : SegS w S A (l.flatMap ncs)
structure Rw.Ok (w : World) (S : Nat → Prop) (r : Rw) : Prop where
  cap : r.cs.length ≤ r.c
  len : r.cs.length ≤ 4398046511103
  seg : SegS w S r.A (r.cs.flatMap Cl.vals)
  cells : ∀ x ∈ r.cs, LsOk w S x.A x.c x.l
  extra : LsOk w S r.E r.k r.ex
structure RsOk (w : World) (S : Nat → Prop) (A : Option Addr) (c : Nat) (rs : List Rw) : Prop where
  cap : rs.length ≤ c
  len : rs.length ≤ 2932031007402
  seg : SegS w S A (rs.flatMap Rw.vals)
  rows : ∀ r ∈ rs, r.Ok w S
section
variable {w w' : World} {S S' : Nat → Prop}
theorem LsOk.keep {A : Option Addr} {c : Nat} {l : List Nd} (h : LsOk w S A c l) (k : Kp S w w') : LsOk w' S A c l := ⟨h.cap, h.len, h.nil, h.seg.keep k⟩
theorem LsOk.mono {A : Option Addr} {c : Nat} {l : List Nd} (h : LsOk w S A c l) (hS : ∀ b, b < w.heap.size → S b → S' b) : LsOk w S' A c l := ⟨h.cap, h.len, h.nil, h.seg.mono hS⟩
theorem Rw.Ok.keep {r : Rw} (h : r.Ok w S) (k : Kp S w w') : r.Ok w' S := ⟨h.cap, h.len, h.seg.keep k, fun x hx => (h.cells x hx).keep k, h.extra.keep k⟩
theorem Rw.Ok.mono {r : Rw} (h : r.Ok w S) (hS : ∀ b, b < w.heap.size → S b → S' b) : r.Ok w S' := ⟨h.cap, h.len, h.seg.mono hS, fun x hx => (h.cells x hx).mono hS, h.extra.mono hS⟩
theorem RsOk.keep {A : Option Addr} {c : Nat} {rs : List Rw} (h : RsOk w S A c rs) (k : Kp S w w') : RsOk w' S A c rs := ⟨h.cap, h.len, h.seg.keep k, fun x hx => (h.rows x hx).keep k⟩
theorem RsOk.below {A : Option Addr} {c : Nat} {rs : List Rw} (h : RsOk w S A c rs) (k : Below w.heap.size w w') : RsOk w' S A c rs := h.keep (Kp.below S k)
/-- The cells of row i. -/
theorem RsOk.row {A : Option Addr} {c : Nat} {rs : List Rw} (h : RsOk w S A c rs) {i : Nat} {r : Rw} (hi : rs[i]? = some r) :
    ∃ b off : Nat, A = some ⟨b, off, none⟩ ∧ b < w.heap.size ∧ w.cell? ⟨b, off + i * 2, none⟩ = some (.slice r.A r.cs.length r.c) ∧ w.cell? ⟨b, off + i * 2 + 1, none⟩ = some (.slice r.E r.ex.length r.k) := by
  obtain ⟨b, off, hA, hb, hc⟩ := h.seg.seg.row Rw.vals_length hi (by decide)
  exact ⟨b, off, hA, hb, by simpa using hc 0 _ rfl, hc 1 _ rfl⟩
/-- The cells of cell k. -/
theorem Rw.Ok.cell {r : Rw} (h : r.Ok w S) {k : Nat} {x : Cl} (hk : r.cs[k]? = some x) :
    ∃ b off : Nat, r.A = some ⟨b, off, none⟩ ∧ b < w.heap.size ∧ w.cell? ⟨b, off + k * 2, none⟩ = some (.slice x.A x.l.length x.c) ∧ w.cell? ⟨b, off + k * 2 + 1, none⟩ = some (.int .i64 x.sp) := by
  obtain ⟨b, off, hA, hb, hc⟩ := h.seg.seg.row Cl.vals_length hk (by decide)
  exact ⟨b, off, hA, hb, by simpa using hc 0 _ rfl, hc 1 _ rfl⟩
theorem RsOk.get {A : Option Addr} {c : Nat} {rs : List Rw} (h : RsOk w S A c rs) {i : Nat} {r : Rw} (hi : rs[i]? = some r) : r.Ok w S := h.rows r (List.mem_of_getElem? hi)
theorem Rw.Ok.get {r : Rw} (h : r.Ok w S) {k : Nat} {x : Cl} (hk : r.cs[k]? = some x) : LsOk w S x.A x.c x.l := h.cells x (List.mem_of_getElem? hk)
end
theorem get_some {α : Type} {l : List α} {i : Nat} (h : i < l.length) : ∃ x, l[i]? = some x := ⟨_, List.getElem?_eq_getElem h⟩
theorem info_cell : (Tryz.prog.info? 87).map (fun i => (i.zero, i.size, i.bytes)) = some (some (.agg #[.slice none 0 0, .int .i64 0]), 2, 32) := by kernel_rfl
theorem info_row : (Tryz.prog.info? 84).map (fun i => (i.zero, i.size, i.bytes)) = some (some (.agg #[.slice none 0 0, .slice none 0 0]), 2, 48) := by kernel_rfl
end Go.Proofs.YtoboecenlangmaaGreat.Al
end
section
namespace Go.Proofs.YtoboecenlangmaaGreat.Me
open Go.RowKit

/-- 'append(s, l...)' onto what the call owns, at a step of a region that draws its order. -/
theorem step_append_src {P : Program} {ops : Array Oper} {o : Oper} {a : Act} {w : World} {K : Act → World → Prop} {Q : Exit → Act → World → Prop} {E : Prop} (hgd : o.guard = none) (s x : Operand) (t : TypeId)
    (ho : o.op = .call { callee := .builtin .append, args := #[s, x], argTypes := #[t, t] })
    (base : Nat) (e : TypeId) (z : Value) (size bytes : Nat) (ht : P.underlying t = some (.slice e)) (hinfo : (P.info? e).map (fun i => (i.zero, i.size, i.bytes)) = some (some z, size, bytes))
    (hzs : z.cells.size = size) (hsz : 0 < size)
    (v : Value) (n : Nat) (xs : List Value) (hs : a.eval s = v) (hown : w.ownsRow base e size v n xs)
    (ad : Addr) (m c : Nat) (news : List Value) (hx : a.eval x = .slice (some ad) m c) (hl : news.length = m * size) (hnews : ∀ j u, news[j]? = some u → w.cell? (ad.add j) = some u) (h1 : ∀ u ∈ news, u.oneCell' = true)
    (h63 : n + m ≤ maxLen) (hbytes : (n + m) * bytes ≤ 140737488355328) (hbase : base ≤ w.heap.size)
    (h : ∀ v' w', w'.ownsRow base e size v' (n + m) (xs ++ news) → w.grownBy w' v.ownBlock → K (a.put o.dst v') w') :
    if Region.wanted o (yielded ops a.tmps) = true then Oper.wp P o a w K Q else E := by
  obtain ⟨i, hi, hz, hsi, hbi⟩ := info_parts hinfo
  have hw : Region.wanted o (yielded ops a.tmps) = true := by simp [Region.wanted, hgd]
  rw [if_pos hw]
  obtain ⟨v', w', hr, h2, h3, _⟩ := run_append_own (P := P) w base t o.type e i z size bytes ht hi hz hsi hbi hzs hsz v n xs hown ad m c news hl hnews h1 h63 hbytes hbase
  unfold Oper.wp execOp
  simp only [ho, resolve, invoke, builtin, Sem.run_bind, Sem.run_pure, Result.andThen_ok, List.map_toArray, List.map_cons, List.map_nil, hs, hx, hr]
  exact h v' w' h2 h3
theorem seg_cells {w : World} {B b off : Nat} {xs : List Value} (h : Seg w B (some ⟨b, off, none⟩) xs) : ∀ j u, xs[j]? = some u → w.cell? ((⟨b, off, none⟩ : Addr).add j) = some u := by
  intro j u hu
  rcases h with rfl | ⟨b', off', he, _, hc⟩
  · simp at hu
  · simp only [Option.some.injEq, Addr.mk.injEq, and_true] at he
    obtain ⟨rfl, rfl⟩ := he
    have hadd : (⟨b, off, none⟩ : Addr).add j = ⟨b, off + j, none⟩ := by unfold Addr.add; split <;> simp_all
    rw [hadd]
    exact hc j u hu
end Go.Proofs.YtoboecenlangmaaGreat.Me
end
section
namespace Go.Proofs.YtoboecenlangmaaGreat.Al
open Go.ChangeShapes Go.WideShapes Go.ChangeAt Go.RowKit
open Me Np No
set_option linter.unusedVariables false

theorem run_append_long {w : World} (ty : TypeId) (base : Nat) (hbase : base ≤ w.heap.size) (v : Value) (n : Nat) (xs : List Value) (hown : w.ownsRow base 101 19 v n xs) (A : Option Addr) (c : Nat) (l : List Nd) (hs : Src w A c l) (hn : (n + l.length) * 160 ≤ 140737488355328) :
    ∃ v' w', (Builtin.append_ #[39, 39] ty #[v, .slice A l.length c]).run Tryz.prog w = .ok v' w' ∧ w'.ownsRow base 101 19 v' (n + l.length) (xs ++ l.flatMap ncs) ∧ w.grownBy w' v.ownBlock := by
  obtain ⟨i, hi, hz, hsi, hbi⟩ := info_parts node_row
  rcases hs with ⟨b, off, rfl, hb, hc⟩ | ⟨rfl, rfl, rfl⟩ | ⟨ad, rfl, rfl⟩
  · obtain ⟨v', w', hr, h2, h3, _⟩ := run_append_own (P := Tryz.prog) w base 39 ty 101 i _ 19 160 Tryz.underlying39 hi hz hsi hbi rfl (by decide) v n xs hown ⟨b, off, none⟩ l.length c (l.flatMap ncs) (flat_length ncs_length l) (fun j u hu => by
      have hadd : (⟨b, off, none⟩ : Addr).add j = ⟨b, off + j, none⟩ := by unfold Addr.add; split <;> simp_all
      rw [hadd]
      exact hc j u hu) (ncs_one l) (by simp only [maxLen]; omega) (by omega) hbase
    exact ⟨v', w', hr, h2, h3⟩
  · refine ⟨v, w, run_append_owned_none w base 39 ty 101 i 19 Tryz.underlying39 hi v n xs hown, by simpa using hown, ?_⟩
    exact ⟨rfl, rfl, rfl, Nat.le_refl _, fun k _ _ => rfl⟩
  · obtain ⟨v', w', hr, h2, h3, _⟩ := run_append_own (P := Tryz.prog) w base 39 ty 101 i _ 19 160 Tryz.underlying39 hi hz hsi hbi rfl (by decide) v n xs hown ad 0 c [] rfl (fun j u hu => by simp at hu) (by simp) (by simp only [maxLen]; omega) (by omega) hbase
    exact ⟨v', w', by simpa using hr, by simpa using h2, h3⟩
theorem wpList_append_long {ops : Array Oper} {rest : List Oper} {o : Oper} {a : Act} {w : World} {Q : Exit → Act → World → Prop} (hgd : o.guard = none) (s x : Operand) (ho : o.op = .call { callee := .builtin .append, args := #[s, x], argTypes := #[39, 39] })
    (base : Nat) (hbase : base ≤ w.heap.size) (v : Value) (n : Nat) (xs : List Value) (hs : a.eval s = v) (hown : w.ownsRow base 101 19 v n xs) (A : Option Addr) (c : Nat) (l : List Nd) (hx : a.eval x = .slice A l.length c) (hsrc : Src w A c l) (hn : (n + l.length) * 160 ≤ 140737488355328)
    (h : ∀ v' w', w'.ownsRow base 101 19 v' (n + l.length) (xs ++ l.flatMap ncs) → w.grownBy w' v.ownBlock → wpList Tryz.prog ops Q rest (a.put o.dst v') w') : wpList Tryz.prog ops Q (o :: rest) a w :=
  wpList_plain hgd fun K hK => by
    obtain ⟨v', w', hr, h2, h3⟩ := run_append_long o.type base hbase v n xs hown A c l hsrc hn
    unfold Oper.wp execOp
    simp only [ho, resolve, invoke, builtin, Sem.run_bind, Sem.run_pure, Result.andThen_ok, List.map_toArray, List.map_cons, List.map_nil, hs, hx, hr]
    exact hK _ _ (h v' w' h2 h3)
theorem step_append_long {ops : Array Oper} {o : Oper} {a : Act} {w : World} {K : Act → World → Prop} {Q : Exit → Act → World → Prop} {E : Prop} (hgd : o.guard = none) (s x : Operand) (ho : o.op = .call { callee := .builtin .append, args := #[s, x], argTypes := #[39, 39] })
    (base : Nat) (hbase : base ≤ w.heap.size) (v : Value) (n : Nat) (xs : List Value) (hs : a.eval s = v) (hown : w.ownsRow base 101 19 v n xs) (A : Option Addr) (c : Nat) (l : List Nd) (hx : a.eval x = .slice A l.length c) (hsrc : Src w A c l) (hn : (n + l.length) * 160 ≤ 140737488355328)
    (h : ∀ v' w', w'.ownsRow base 101 19 v' (n + l.length) (xs ++ l.flatMap ncs) → w.grownBy w' v.ownBlock → K (a.put o.dst v') w') :
    if Region.wanted o (yielded ops a.tmps) = true then Oper.wp Tryz.prog o a w K Q else E := by
  have hw : Region.wanted o (yielded ops a.tmps) = true := by simp [Region.wanted, hgd]
  rw [if_pos hw]
  obtain ⟨v', w', hr, h2, h3⟩ := run_append_long o.type base hbase v n xs hown A c l hsrc hn
  unfold Oper.wp execOp
  simp only [ho, resolve, invoke, builtin, Sem.run_bind, Sem.run_pure, Result.andThen_ok, List.map_toArray, List.map_cons, List.map_nil, hs, hx, hr]
  exact h v' w' h2 h3
/-- An append of one element: what comes of it. -/
theorem run_push {P : Program} {w : World} (base : Nat) (t ty e : TypeId) (z : Value) (size bytes : Nat) (ht : P.underlying t = some (.slice e)) (hinfo : (P.info? e).map (fun i => (i.zero, i.size, i.bytes)) = some (some z, size, bytes)) (hzs : z.cells.size = size) (hsz : 0 < size) (hby : 0 < bytes)
    (v : Value) (n : Nat) (xs : List Value) (hown : w.ownsRow base e size v n xs) (hbase : base ≤ w.heap.size) (a : Addr) (c : Nat) (news : List Value) (hl : news.length = size) (hnews : ∀ j u, news[j]? = some u → w.cell? (a.add j) = some u) (h1 : ∀ u ∈ news, u.oneCell' = true) (hlen : (n + 1) * bytes ≤ 140737488355328) :
    ∃ v' w', (Builtin.append_ #[t, t] ty #[v, .slice (some a) 1 c]).run P w = .ok v' w' ∧ w'.ownsRow base e size v' (n + 1) (xs ++ news) ∧ w.grownBy w' v.ownBlock ∧ (v'.ownBlock = v.ownBlock ∨ ∃ q, v'.ownBlock = some q ∧ w.heap.size ≤ q) := by
  obtain ⟨i, hi, hz, hsi, hbi⟩ := info_parts hinfo
  subst hsi hbi
  have hn : n + 1 ≤ 140737488355328 := Nat.le_trans (Nat.le_mul_of_pos_right _ hby) hlen
  obtain ⟨v', w', hr, h2, h3, _⟩ := run_append_own (P := P) (w := w) base t ty e i z i.size i.bytes ht hi hz rfl rfl hzs hsz v n xs hown a 1 c news (by omega) hnews h1 (by unfold maxLen; omega) hlen hbase
  obtain ⟨v2, w2, hr2, h4⟩ := run_push_where (P := P) (w := w) base t ty e i z ht hi hz v n xs hown a c news (by omega) hnews h1 hn hlen
  rw [hr] at hr2
  injection hr2 with e1 e2
  subst e1
  subst e2
  refine ⟨v', w', hr, h2, h3, ?_⟩
  rcases h4 with h4 | ⟨h5, h6⟩
  · exact .inl h4
  · exact .inr h5
theorem step_push {P : Program} {ops : Array Oper} {o : Oper} {a : Act} {w : World} {K : Act → World → Prop} {Q : Exit → Act → World → Prop} {E : Prop} (hgd : o.guard = none) (s x : Operand) (t : TypeId)
    (ho : o.op = .call { callee := .builtin .append, args := #[s, x], argTypes := #[t, t] })
    (base : Nat) (e : TypeId) (z : Value) (size bytes : Nat) (ht : P.underlying t = some (.slice e)) (hinfo : (P.info? e).map (fun i => (i.zero, i.size, i.bytes)) = some (some z, size, bytes)) (hzs : z.cells.size = size) (hsz : 0 < size) (hby : 0 < bytes)
    (v : Value) (n : Nat) (xs : List Value) (hs : a.eval s = v) (hown : w.ownsRow base e size v n xs) (hbase : base ≤ w.heap.size)
    (ad : Addr) (c : Nat) (news : List Value) (hx : a.eval x = .slice (some ad) 1 c) (hl : news.length = size) (hnews : ∀ j u, news[j]? = some u → w.cell? (ad.add j) = some u) (h1 : ∀ u ∈ news, u.oneCell' = true) (hlen : (n + 1) * bytes ≤ 140737488355328)
    (h : ∀ v' w', w'.ownsRow base e size v' (n + 1) (xs ++ news) → w.grownBy w' v.ownBlock → (v'.ownBlock = v.ownBlock ∨ ∃ q, v'.ownBlock = some q ∧ w.heap.size ≤ q) → K (a.put o.dst v') w') :
    if Region.wanted o (yielded ops a.tmps) = true then Oper.wp P o a w K Q else E := by
  have hw : Region.wanted o (yielded ops a.tmps) = true := by simp [Region.wanted, hgd]
  rw [if_pos hw]
  obtain ⟨v', w', hr, h2, h3, h4⟩ := run_push base t o.type e z size bytes ht hinfo hzs hsz hby v n xs hown hbase ad c news hl hnews h1 hlen
  unfold Oper.wp execOp
  simp only [ho, resolve, invoke, builtin, Sem.run_bind, Sem.run_pure, Result.andThen_ok, List.map_toArray, List.map_cons, List.map_nil, hs, hx, hr]
  exact h v' w' h2 h3 h4
theorem wpList_push2 {P : Program} {ops : Array Oper} {rest : List Oper} {o : Oper} {a : Act} {Q : Exit → Act → World → Prop} {w : World} (hgd : o.guard = none) (s x : Operand) (t : TypeId)
    (ho : o.op = .call { callee := .builtin .append, args := #[s, x], argTypes := #[t, t] })
    (base : Nat) (e : TypeId) (z : Value) (size bytes : Nat) (ht : P.underlying t = some (.slice e)) (hinfo : (P.info? e).map (fun i => (i.zero, i.size, i.bytes)) = some (some z, size, bytes)) (hzs : z.cells.size = size) (hsz : 0 < size) (hby : 0 < bytes)
    (v : Value) (n : Nat) (xs : List Value) (hs : a.eval s = v) (hown : w.ownsRow base e size v n xs) (hbase : base ≤ w.heap.size)
    (ad : Addr) (c : Nat) (news : List Value) (hx : a.eval x = .slice (some ad) 1 c) (hl : news.length = size) (hnews : ∀ j u, news[j]? = some u → w.cell? (ad.add j) = some u) (h1 : ∀ u ∈ news, u.oneCell' = true) (hlen : (n + 1) * bytes ≤ 140737488355328)
    (h : ∀ v' w', w'.ownsRow base e size v' (n + 1) (xs ++ news) → w.grownBy w' v.ownBlock → (v'.ownBlock = v.ownBlock ∨ ∃ q, v'.ownBlock = some q ∧ w.heap.size ≤ q) → wpList P ops Q rest (a.put o.dst v') w') :
    wpList P ops Q (o :: rest) a w :=
  wpList_plain hgd fun K hK => by
    obtain ⟨v', w', hr, h2, h3, h4⟩ := run_push base t o.type e z size bytes ht hinfo hzs hsz hby v n xs hown hbase ad c news hl hnews h1 hlen
    unfold Oper.wp execOp
    simp only [ho, resolve, invoke, builtin, Sem.run_bind, Sem.run_pure, Result.andThen_ok, List.map_toArray, List.map_cons, List.map_nil, hs, hx, hr]
    exact hK _ _ (h v' w' h2 h3 h4)
theorem new_cells {w : World} {g : Nat} {t : TypeId} {cs : Array Value} (h : Blk w g t cs) : ∀ j u, cs.toList[j]? = some u → w.cell? ((⟨g, 0, none⟩ : Addr).add j) = some u := by
  intro j u hu
  have hcell : w.cell? ⟨g, j, none⟩ = some u := by
    rw [h.cell j]
    simpa using hu
  unfold Addr.add
  split
  · rename_i hj; subst hj; exact hcell
  · simpa using hcell
end Go.Proofs.YtoboecenlangmaaGreat.Al
end
section
namespace Go.Proofs.YtoboecenlangmaaGreat.Al
open Go.ChangeShapes Go.WideShapes Go.ChangeAt Go.RowKit
open Me Np No
open Gl (G Row)
set_option linter.unusedVariables false
set_option linter.unusedSimpArgs false

structure Ir where
  (A : Option Addr) (c : Nat) (xs : List Int)
def Ir.vals (x : Ir) : List Value := [.slice x.A x.xs.length x.c]
theorem Ir.vals_length (x : Ir) : x.vals.length = 1 := rfl
def intV (x : Int) : Value := .int .i64 x
structure IrsOk (w : World) (S : Nat → Prop) (A : Option Addr) (irs : List Ir) : Prop where
  seg : SegS w S A (irs.flatMap Ir.vals)
  rows : ∀ x ∈ irs, SegS w S x.A (x.xs.map intV)
def CkOut (ss : List G) (ds : List RD) (w : World) (e : Ending) (w' : World) : Prop :=
  ∃ v, e = .returned (.tuple #[v, .int .i64 (ckE ss ds)]) ∧ Below w.heap.size w w' ∧ (ckE ss ds = 0 → ∃ A c irs, v = .slice A irs.length c ∧ IrsOk w' (fun _ => True) A irs ∧ irs.map Ir.xs = ds.map wids)
theorem CkOut.no {ss : List G} {ds : List RD} {w w' : World} {E : Int} (h : ckE ss ds = E) (h0 : ¬ E = 0) (hb : Below w.heap.size w w') : CkOut ss ds w (.returned (.tuple #[.slice none 0 0, .int .i64 E])) w' :=
  ⟨_, by rw [h], hb, fun e => absurd (h ▸ e) h0⟩
theorem CkOut.yes {ss : List G} {ds : List RD} {w w' : World} {v : Value} (h : ckE ss ds = 0) (hb : Below w.heap.size w w') (hi : ∃ A c irs, v = .slice A irs.length c ∧ IrsOk w' (fun _ => True) A irs ∧ irs.map Ir.xs = ds.map wids) : CkOut ss ds w (.returned (.tuple #[v, .int .i64 0])) w' :=
  ⟨_, by rw [h], hb, fun _ => hi⟩

theorem check_size (A : Option Addr) (ss : List G) (c : Nat) (B : Option Addr) (rs : List Rw) (k : Nat) (w : World) (h63 : ss.length ≤ maxLen) (hr63 : rs.length ≤ maxLen) (h : ss.length < 2 ∨ 257 < ss.length ∨ 2000 < rs.length) :
    Calls Tryz.prog 72 #[.slice A ss.length c, .slice B rs.length k] w (CkOut ss (rs.map Rw.d) w) := by
  have hE : ckE ss (rs.map Rw.d) = 220 := by unfold ckE; rw [if_pos (by simpa using h)]
  have HE := Lib.hid hE
  clear hE
  unfold maxLen at h63 hr63
  by_cases h1 : (ss.length : Int) < 2
  · clear h
    go_enter Tryz.func72, Tryz.ntmps72
    go_wp2_with fail
    go_returns
    exact CkOut.no HE.out (by decide) (Below.refl _ _)
  · by_cases h2 : (257 : Int) < ss.length
    · clear h
      go_enter Tryz.func72, Tryz.ntmps72
      go_wp2_with fail
      go_returns
      exact CkOut.no HE.out (by decide) (Below.refl _ _)
    · have h3 : (2000 : Int) < rs.length := by omega
      clear h
      go_enter Tryz.func72, Tryz.ntmps72
      go_wp2_with fail
      go_returns
      exact CkOut.no HE.out (by decide) (Below.refl _ _)
end Go.Proofs.YtoboecenlangmaaGreat.Al
end
section
namespace Go.Proofs.YtoboecenlangmaaGreat.Al
open Go.ChangeShapes Go.WideShapes Go.ChangeAt Go.RowKit
open Me Np No
open Gl (G Row)
set_option linter.unusedVariables false
set_option linter.unusedSimpArgs false

theorem info_i : (Tryz.prog.info? 3).map (fun i => (i.zero, i.size, i.bytes)) = some (some (.int .i64 0), 1, 8) := by kernel_rfl
theorem info_is : (Tryz.prog.info? 26).map (fun i => (i.zero, i.size, i.bytes)) = some (some (.slice none 0 0), 1, 24) := by kernel_rfl
theorem make_none (n : Nat) (hn : n ≤ 4398046511103) (u : World) : (Instr.makeSlice 26 (.int .i64 0) (.int .i64 (n : Int))).run Tryz.prog u = .ok (.slice (some ⟨u.heap.size, 0, none⟩) 0 n) (u.alloc (.cells (madeCells #[.int .i64 0] n) 3)) := by
  obtain ⟨i, hi, hz, hsi, hbi⟩ := info_parts info_i
  have h := run_make (P := Tryz.prog) u 26 3 i (.int .i64 0) Tryz.underlying26 hi hz .i64 .i64 0 (n : Int) (Int.le_refl _) (by omega) (by rw [hbi]; omega) (by omega)
  simpa [hsi, Value.cells] using h
structure CI (w : World) (rs : List Rw) (cols : Int) (i : Nat) (v : Value) (done : List Ir) (wr : World) : Prop where
  own : wr.ownsRow w.heap.size 26 1 v i (done.flatMap Ir.vals)
  dat : done.map Ir.xs = (rs.take i).map fun r => wids r.d
  ok : ∀ x ∈ done, SegS wr (fun b => w.heap.size ≤ b ∧ v.ownBlock ≠ some b) x.A (x.xs.map intV)
  err : ∀ q ∈ (rs.map Rw.d).take i, rowErr cols q = 0
  low : Below w.heap.size w wr
structure CJ (W0 : World) (r : Rw) (cols : Int) (k : Nat) (a : Int) (v : Value) (wr : World) : Prop where
  blk : Blk wr W0.heap.size 84 #[.slice r.A r.cs.length r.c, .slice r.E r.ex.length r.k]
  own : wr.ownsRow (W0.heap.size + 1) 3 1 v k (((wids r.d).take k).map intV)
  err : celE cols 0 r.d.1 = celE cols a (r.d.1.drop k)
  a0 : 0 ≤ a
  a1 : a ≤ cols
  low : Below W0.heap.size W0 wr
theorem CJ.next {W0 wr w5 W8 : World} {r : Rw} {cols a : Int} {k : Nat} {v v' : Value} {x : Cl} (h : CJ W0 r cols k a v wr) (hx : r.cs[k]? = some x) (hb : Below wr.heap.size wr w5) (h1 : ¬ x.sp < 1) (h2 : ¬ cols - a < x.sp) (hE : (wd x.l).1 = 0)
    (hown : W8.ownsRow (W0.heap.size + 1) 3 1 v' (k + 1) (((wids r.d).take k).map intV ++ [.int .i64 (wd x.l).2])) (hg : (w5.alloc (.cells #[.int .i64 (wd x.l).2] 3)).grownBy W8 v.ownBlock) : CJ W0 r cols (k + 1) (a + x.sp) v' W8 := by
  have hl := h.blk.lt
  have hs := hb.size
  have hd : r.d.1[k]? = some x.d := by show (r.cs.map Cl.d)[k]? = _; rw [List.getElem?_map, hx]; rfl
  have hw : (wids r.d)[k]? = some (wd x.l).2 := by unfold wids; rw [List.getElem?_map, hd]; rfl
  refine ⟨?_, ?_, ?_, by have := h.a0; omega, by omega, ?_⟩
  · exact (hg.block _ (by simp; omega) (fun e => by have := (h.own.lt _ e.symm).1; omega)).trans ((Blk.below h.blk hb hl).alloc _)
  · rw [List.take_add_one, hw, List.map_append]
    exact hown
  · rw [h.err, celE_drop hd, if_neg (by show ¬ (x.sp < 1 ∨ cols - a < x.sp); omega)]
    exact if_pos hE
  · exact below_grown (Nat.le_refl _) (andAlloc (andThen h.low hb) _) hg fun q hq => by have := (h.own.lt q hq).1; omega
/-- A row that is not good. -/
theorem ck_bad {w W0 : World} {ss : List G} {rs : List Rw} {cols E : Int} {i : Nat} {v : Value} {done : List Ir} {r : Rw} (h : CI w rs cols i v done W0) (hr : rs[i]? = some r) (hck : ckE ss (rs.map Rw.d) = rowsE cols (rs.map Rw.d)) (hE : rowErr cols r.d = E) (h0 : ¬ E = 0) : ckE ss (rs.map Rw.d) = E := by
  rw [hck, rowsE_take (i := i) (r := r.d) (by rw [List.getElem?_map, hr]; rfl) h.err (by rw [hE]; exact h0), hE]
/-- .. at its cell k. -/
theorem CJ.bad {W0 wr : World} {r : Rw} {cols a E : Int} {k : Nat} {v : Value} {x : Cl} (h : CJ W0 r cols k a v wr) (hx : r.cs[k]? = some x) (h0 : ¬ E = 0) (hE : (if x.sp < 1 ∨ cols - a < x.sp then 220 else (wd x.l).1) = E) : rowErr cols r.d = E := by
  have hd : r.d.1[k]? = some x.d := by show (r.cs.map Cl.d)[k]? = _; rw [List.getElem?_map, hx]; rfl
  have h1 : celE cols 0 r.d.1 = E := by
    rw [h.err, celE_drop hd]
    show (if x.sp < 1 ∨ cols - a < x.sp then 220 else if (wd x.l).1 = 0 then celE cols (a + x.sp) (r.d.1.drop (k + 1)) else (wd x.l).1) = E
    by_cases h2 : x.sp < 1 ∨ cols - a < x.sp
    · rw [if_pos h2] at hE ⊢
      exact hE
    · rw [if_neg h2] at hE ⊢
      rw [if_neg (by rw [hE]; exact h0), hE]
  unfold rowErr
  rw [h1, if_neg h0]
theorem CJ.good {W0 wr : World} {r : Rw} {cols a : Int} {v : Value} (h : CJ W0 r cols r.cs.length a v wr) : rowErr cols r.d = chk r.ex := by
  have h1 : celE cols 0 r.d.1 = 0 := by
    rw [h.err, List.drop_of_length_le (by show (r.cs.map Cl.d).length ≤ _; simp)]
    rfl
  unfold rowErr
  rw [if_pos h1]
  rfl

theorem take_map2 {α β γ : Type} {f : α → γ} {g : β → γ} {l : List α} {k : Nat} {x : α} {dn : List β} {y : β} (h : dn.map g = (l.take k).map f) (hx : l[k]? = some x) (hy : g y = f x) : (dn ++ [y]).map g = (l.take (k + 1)).map f := by
  rw [List.map_append, h, List.take_add_one, hx, List.map_append]
  simp [hy]
theorem CI.next {w W0 wr w5 W9 : World} {rs : List Rw} {cols a : Int} {i : Nat} {v v' : Value} {done : List Ir} {r : Rw} {A9 : Option Addr} {c9 : Nat} (h : CI w rs cols i v done W0) (hr : rs[i]? = some r) (hJ : CJ W0 r cols r.cs.length a (.slice A9 r.cs.length c9) wr) (he : rowErr cols r.d = 0) (hb : Below wr.heap.size wr w5)
    (hown : W9.ownsRow w.heap.size 26 1 v' (i + 1) (done.flatMap Ir.vals ++ [.slice A9 r.cs.length r.cs.length])) (hg : (w5.alloc (.cells #[.slice A9 r.cs.length r.cs.length] 26)).grownBy W9 v.ownBlock)
    (hv : v'.ownBlock = v.ownBlock ∨ ∃ q, v'.ownBlock = some q ∧ (w5.alloc (.cells #[.slice A9 r.cs.length r.cs.length] 26)).heap.size ≤ q) : CI w rs cols (i + 1) v' (done ++ [⟨A9, r.cs.length, wids r.d⟩]) W9 := by
  have hs := hb.size
  have hs0 := hJ.low.size
  have hlw := h.low.size
  have hwl : (wids r.d).length = r.cs.length := by show ((r.cs.map Cl.d).map _).length = _; simp
  have hvl : ∀ q, v.ownBlock = some q → w.heap.size ≤ q ∧ q < W0.heap.size := fun q hq => h.own.lt q hq
  have hv8 : ∀ b, v'.ownBlock = some b → v.ownBlock = some b ∨ w5.heap.size < b := fun b hb => by
    rcases hv with hv | ⟨q, hv, hq⟩
    · exact .inl (hv ▸ hb)
    · rw [hv] at hb
      injection hb with hb
      simp at hq
      exact .inr (by omega)
  refine ⟨by simpa [List.flatMap_append, Ir.vals, hwl] using hown, take_map2 h.dat hr rfl, ?_, ?_, below_grown (Nat.le_refl _) (andAlloc (andThen (andThen h.low hJ.low) hb) _) hg fun q hq => (hvl q hq).1⟩
  · intro y hy
    rcases List.mem_append.1 hy with hy | hy
    · have h1 := (h.ok y hy).mono (S' := fun b => (w.heap.size ≤ b ∧ v.ownBlock ≠ some b) ∧ b < W0.heap.size) fun b hb hs => ⟨hs, hb⟩
      have k1 : Kp (fun b => (w.heap.size ≤ b ∧ v.ownBlock ≠ some b) ∧ b < W0.heap.size) W0 W9 :=
        (((Kp.below _ hJ.low).trans (Kp.below _ hb)).trans (Kp.alloc _ _ _)).trans (Kp.grown hg fun b _ hs e => hs.1.2 e.symm)
      refine (h1.keep k1).mono fun b _ hs => ⟨hs.1.1, fun e => ?_⟩
      rcases hv8 b e with h2 | h2
      · exact hs.1.2 h2
      · have := hs.2; omega
    · obtain rfl := List.mem_singleton.1 hy
      obtain ⟨A1, c1, e1, _, _, _, h4⟩ := SegS.own (S := fun b => W0.heap.size < b) hJ.own (fun b hb => (hJ.own.lt b hb).1)
      injection e1 with e1 _ e2
      subst e1 e2
      rw [List.take_of_length_le (by rw [hwl]; exact Nat.le_refl _)] at h4
      have h1 := h4.mono (S' := fun b => W0.heap.size < b ∧ b < wr.heap.size) fun b hb hs => ⟨hs, hb⟩
      have k1 : Kp (fun b => W0.heap.size < b ∧ b < wr.heap.size) wr W9 := ((Kp.below _ hb).trans (Kp.alloc _ _ _)).trans (Kp.grown hg fun b _ hs e => by have := hvl b e.symm; omega)
      refine (h1.keep k1).mono fun b _ hs => ⟨by omega, fun e => ?_⟩
      rcases hv8 b e with h2 | h2
      · have := hvl b h2; omega
      · omega
  · intro q hq
    rw [List.take_add_one, List.getElem?_map, hr] at hq
    rcases List.mem_append.1 hq with hq | hq
    · exact h.err q hq
    · simp at hq
      subst hq
      exact he

set_option maxHeartbeats 4000000 in
set_option maxRecDepth 100000 in
theorem check_go (A : Option Addr) (ss : List G) (c : Nat) (B : Option Addr) (rs : List Rw) (kk : Nat) (w : World) (hS : Row w A ss) (hR : RsOk w (fun _ => True) B kk rs) (h2 : 2 ≤ ss.length) (h257 : ss.length ≤ 257) (h2000 : rs.length ≤ 2000) :
    Calls Tryz.prog 72 #[.slice A ss.length c, .slice B rs.length kk] w (CkOut ss (rs.map Rw.d) w) := by
  have hE : ckE ss (rs.map Rw.d) = if ss.all G.ok = true then rowsE ((ss.length : Int) - 1) (rs.map Rw.d) else 30 := by unfold ckE; rw [if_neg (by simp; omega)]
  have HE := Lib.hid hE
  have HS := Lib.hid hS
  have HR := Lib.hid hR
  clear hE hS hR
  have t1 : ¬ (ss.length : Int) < 2 := by omega
  have t2 : ¬ (257 : Int) < ss.length := by omega
  have t3 : ¬ (2000 : Int) < rs.length := by omega
  generalize hn : ss.length = n at *
  have HN := Lib.hid hn
  clear hn
  generalize hm : rs.length = m at *
  have HM := Lib.hid hm
  clear hm
  go_enter Tryz.func72, Tryz.ntmps72
  go_wp2_with fail
  go_loopw [37] (fun v37 wr => ∃ i : Nat, i ≤ n ∧ v37 = .int .i64 (i : Int) ∧ (ss.take i).all G.ok = true ∧ Below w.heap.size w wr) (fun v37 _ => n - (intOf v37).toNat)
  case atStart => exact ⟨0, by omega, rfl, by simp, Below.refl _ _⟩
  case round =>
    obtain ⟨i, hi, rfl, hall, hb⟩ := hrel
    have HA := Lib.hid hall
    have HB := Lib.hid hb
    clear hall
    by_cases hlt : i < n
    · obtain ⟨g, hg⟩ := get_some (l := ss) (i := i) (by rw [HN.out]; exact hlt)
      obtain ⟨b, off, rfl, c0, c1, c2, c3, c4⟩ := HS.out.cells hb hg
      have hsz := hb.size
      have HG := Lib.hid hg
      clear hb hg
      cases hok : g.ok
      · have H30 := Lib.hid (show Gl.chk g.n g.s g.h g.a g.b = 30 by have := G.chk_bad hok; unfold G.chk at this; exact this)
        have HC' := Lib.hid (show ckE ss (rs.map Rw.d) = 30 by
          rw [HE.out, if_neg]
          intro h
          have h1 := List.all_eq_true.1 h g (List.mem_of_getElem? HG.out)
          rw [hok] at h1
          cases h1)
        clear hok
        go_wp2_with (go_at_call 123; refine (Gl.check_any _ _ _ _ _ _).mono ?_; rintro e w' ⟨rfl, rfl⟩; rw [H30.out])
        go_returns
        exact CkOut.no HC'.out (by decide) (andAlloc (andAlloc HB.out _) _)
      · have H0 := Lib.hid (show Gl.chk g.n g.s g.h g.a g.b = 0 by have := G.chk_ok hok; unfold G.chk at this; exact this)
        have HOK := Lib.hid hok
        clear hok
        go_wp2_with (go_at_call 123; refine (Gl.check_any _ _ _ _ _ _).mono ?_; rintro e w' ⟨rfl, rfl⟩; rw [H0.out])
        go_roundw
        case rel => exact ⟨i + 1, by omega, by go_num, by rw [List.take_add_one, HG.out, List.all_append, HA.out]; simp [HOK.out], andAlloc (andAlloc HB.out _) _⟩
        case measure => simp [intOf]; omega
    · obtain rfl : i = n := by omega
      have HE2 := Lib.hid (show ckE ss (rs.map Rw.d) = rowsE ((i : Int) - 1) (rs.map Rw.d) by rw [HE.out, if_pos]; have := HA.out; rwa [List.take_of_length_le (by rw [HN.out]; exact Nat.le_refl _)] at this)
      obtain ⟨n, rfl⟩ : ∃ z, z = i := ⟨_, rfl⟩
      clear HA HE hi hlt hb
      go_wp2_with fail
      go_loopw [9, 49] (fun v9 v49 wr => ∃ (i : Nat) (done : List Ir), i ≤ m ∧ v49 = .int .i64 (i : Int) ∧ CI w rs ((n : Int) - 1) i v9 done wr) (fun _ v49 _ => m - (intOf v49).toNat)
      case atStart => exact ⟨0, [], by omega, rfl, ⟨World.ownsRow_nil _ _ _ _, rfl, by simp, by simp, HB.out⟩⟩
      case round =>
        obtain ⟨i, done, hi, rfl, hI⟩ := hrel
        have HI := Lib.hid hI
        obtain ⟨W0, rfl⟩ : ∃ W, W = wr := ⟨_, rfl⟩
        by_cases hlt : i < m
        · obtain ⟨r, hr⟩ := get_some (l := rs) (i := i) (by rw [HM.out]; exact hlt)
          have hw := HR.out.below hI.low
          obtain ⟨b, off, rfl, hb, hc0, hc1⟩ := hw.row hr
          have HRO := Lib.hid (hw.get hr)
          have HRK := Lib.hid hr
          have hrl := HRO.out.len
          have hmk := make_none r.cs.length hrl
          clear hI hw hr
          go_upto_region 16 with fail
          have hJ0 : CJ W0 r ((n : Int) - 1) 0 0 (.slice (some ⟨W0.heap.size + 1, 0, none⟩) 0 r.cs.length) ((W0.alloc (.cells #[.slice r.A r.cs.length r.c, .slice r.E r.ex.length r.k] 84)).alloc (.cells (madeCells #[.int .i64 0] r.cs.length) 3)) :=
            ⟨(Blk.new _ _ _).alloc _, by simpa using World.ownsRow_made (base := W0.heap.size + 1) (e := 3) (size := 1) (W0.alloc (.cells #[.slice r.A r.cs.length r.c, .slice r.E r.ex.length r.k] 84)) (madeCells #[.int .i64 0] r.cs.length) r.cs.length (by simp) (by simp [maxLen]; omega) (by rw [size_madeCells, Nat.mul_one]), rfl, by omega, by omega, andAlloc (andAlloc (Below.refl _ _) _) _⟩
          have HJ0 := Lib.hid hJ0
          have hg0 := hJ0.blk.cell 0
          have hg1 := hJ0.blk.cell 1
          have hgl := hJ0.blk.lt
          clear hJ0 hmk
          generalize (W0.alloc (.cells #[.slice r.A r.cs.length r.c, .slice r.E r.ex.length r.k] 84)).alloc (.cells (madeCells #[.int .i64 0] r.cs.length) 3) = W2 at *
          have hg0' : W2.cell? ⟨W0.heap.size, 0, none⟩ = some (.slice r.A r.cs.length r.c) := hg0.trans rfl
          clear hg0 hg1
          go_wp2_with fail
          clear hg0'
          go_loopw [12, 13, 60] (fun v12 v13 v60 wr => ∃ (k : Nat) (a : Int), k ≤ r.cs.length ∧ v60 = .int .i64 (k : Int) ∧ v12 = .int .i64 a ∧ CJ W0 r ((n : Int) - 1) k a v13 wr) (fun _ _ v60 _ => r.cs.length - (intOf v60).toNat)
          case atStart => exact ⟨0, 0, by omega, rfl, rfl, HJ0.out⟩
          case round =>
            obtain ⟨k, a, hk, rfl, rfl, hC⟩ := hrel
            have HC := Lib.hid hC
            have ha0 := hC.a0
            have ha1 := hC.a1
            by_cases hlt2 : k < r.cs.length
            · obtain ⟨x, hx⟩ := get_some hlt2
              have hro := HRO.out.keep (Kp.below _ hC.low)
              obtain ⟨b2, off2, hA2, hb2, hx0, hx1⟩ := hro.cell hx
              have HXO := Lib.hid (hro.get hx)
              have HXK := Lib.hid hx
              have hkl : (k : Int) < (r.cs.length : Int) := by omega
              have hxl := HXO.out.len
              rw [hA2]
              clear hro hx hC
              by_cases q1 : x.sp < 1
              · have HBAD := Lib.hid (ck_bad HI.out HRK.out HE2.out (CJ.bad (E := 220) HC.out HXK.out (by decide) (if_pos (.inl q1))) (by decide))
                go_wp2_with fail
                go_returns
                exact CkOut.no HBAD.out (by decide) (andAlloc (andThen HI.out.low HC.out.low) _)
              · have hw1 : IntKind.i64.wrap ((n : Int) - 1) = (n : Int) - 1 := IntWalk.i64_in _ (by omega)
                have hw2 : IntKind.i64.wrap ((n : Int) - 1 - a) = (n : Int) - 1 - a := IntWalk.i64_in _ (by omega)
                by_cases q2 : (n : Int) - 1 - a < x.sp
                · have HBAD := Lib.hid (ck_bad HI.out HRK.out HE2.out (CJ.bad (E := 220) HC.out HXK.out (by decide) (if_pos (.inr q2))) (by decide))
                  go_wp2_with fail
                  go_returns
                  exact CkOut.no HBAD.out (by decide) (andAlloc (andThen HI.out.low HC.out.low) _)
                · have hw3 : IntKind.i64.wrap (a + x.sp) = a + x.sp := IntWalk.i64_in _ (by omega)
                  obtain ⟨hdim, ⟨Lb, Lo, bad, ov, E⟩, hRE, hl1, hl2, hgd, hbd, hcall⟩ := wd_is x.l (by omega)
                  simp only at hRE hl1 hl2 hgd hbd
                  have HCALL := Lib.hid (fun (w' : World) (hb : Below wr.heap.size wr w') => hcall x.A x.c w' HXO.out.cap (Seg.belowW HXO.out.seg.seg hb))
                  have HRE := Lib.hid hRE
                  clear hcall hRE
                  by_cases q3 : E = 0
                  · have q4 : (E != 0) = false := by simp [q3]
                    obtain ⟨n0, r0, hLb, hn0⟩ := hgd (by rw [← HRE.out]; exact q3)
                    have hla : 0 < Lb.length := by rw [hLb]; simp
                    have hlb : (0 : Int) < (Lb.length : Int) := by omega
                    have HLB := Lib.hid (And.intro hLb hn0)
                    clear hLb hn0 hgd hbd hdim
                    go_wp2_with fail
                    refine (HCALL.out _ (andAlloc (Below.refl _ _) _)).mono ?_
                    rintro e w5 ⟨vb, vo, rfl, oao, hb5⟩
                    obtain ⟨Ab, xb, f0, hxb⟩ := Pk.val_own oao.one
                    obtain ⟨Ao, xo, f1, _⟩ := Pk.val_own oao.two
                    simp only at f0 f1
                    subst f0 f1
                    obtain ⟨b1, o1, rfl, hce⟩ := Pk.head_cells oao.one HLB.out.1
                    have hcw := (hce w5 (Below.refl _ _)).1
                    rw [HLB.out.2] at hcw
                    have HB5 := Lib.hid (andThen (andAlloc (Below.refl wr.heap.size wr) (.cells #[.slice x.A x.l.length x.c, .int .i64 x.sp] 87)) hb5)
                    have hown := Lib.hid (own_below HC.out.own (andAlloc HB5.out (.cells #[.int .i64 (wd x.l).2] 3)))
                    have hl8 : (k + 1) * 8 ≤ 140737488355328 := by omega
                    have hz5 := HB5.out.size
                    have hzr := HC.out.blk.lt
                    clear oao hb5 hce HLB hxb
                    simp only
                    go_wp2_with (at_builtin; refine wpList_push2 rfl (.tmp 93) (.tmp 98) 26 rfl (W0.heap.size + 1) 3 (.int .i64 0) 1 8 Tryz.underlying26 info_i rfl (by decide) (by decide) u13 k (((wids r.d).take k).map intV) rfl hown.out (by simp; omega) ⟨w5.heap.size, 0, none⟩ 1 [.int .i64 (wd x.l).2] rfl rfl (new_cells (Blk.new _ _ _)) (by simp [Value.oneCell']) hl8 ?_; intro v8 W8 hown8 hg8 _)
                    have HNX := Lib.hid (CJ.next HC.out HXK.out HB5.out (by omega) (by omega) (by rw [← HRE.out]; exact q3) hown8 hg8)
                    clear hown8 hg8
                    go_wp2_with fail
                    go_roundw
                    case rel => exact ⟨k + 1, a + x.sp, by omega, by go_num, by go_num, HNX.out⟩
                    case measure => simp [intOf]; omega
                  · have HBAD := Lib.hid (ck_bad HI.out HRK.out HE2.out (CJ.bad (E := E) HC.out HXK.out q3 ((if_neg (by omega)).trans HRE.out.symm)) q3)
                    have q4 : (E != 0) = true := by simp [q3]
                    clear hgd hbd hdim
                    go_wp2_with fail
                    refine (HCALL.out _ (andAlloc (Below.refl _ _) _)).mono ?_
                    rintro e w5 ⟨vb, vo, rfl, oao, hb5⟩
                    have HB5 := Lib.hid (andThen (andAlloc (Below.refl wr.heap.size wr) (.cells #[.slice x.A x.l.length x.c, .int .i64 x.sp] 87)) hb5)
                    clear oao hb5
                    simp only
                    go_wp2_with fail
                    go_returns
                    exact CkOut.no HBAD.out q3 (andThen (andThen HI.out.low HC.out.low) HB5.out)
            · obtain rfl : k = r.cs.length := by omega
              have hg1 : wr.cell? ⟨W0.heap.size, 1, none⟩ = some (.slice r.E r.ex.length r.k) := (hC.blk.cell 1).trans rfl
              have hown := hC.own
              obtain ⟨A9, c9, rfl, hc9, _⟩ := SegS.own (S := fun _ => True) hC.own (fun _ _ => trivial)
              have HEX := Lib.hid (HRO.out.extra.keep (Kp.below _ hC.low))
              have hCK := check_any r.E r.ex r.k wr (by have := HEX.out.len; omega) HEX.out.seg.seg
              have hGD := hC.good
              have HCK := Lib.hid hCK
              have HGD := Lib.hid hGD
              clear hCK hGD hC hown
              generalize hce : chk r.ex = ce at HCK HGD
              by_cases q3 : ce = 0
              · have q4 : (ce != 0) = false := by simp [q3]
                go_wp2_with fail
                refine HCK.out.mono ?_
                rintro e w5 ⟨rfl, hb5⟩
                have HB5 := Lib.hid hb5
                clear hb5
                have hls : (r.cs.length : Int) ≤ (c9 : Int) := by omega
                have hown := Lib.hid (own_below (own_below HI.out.own (andThen HC.out.low HB5.out)) (andAlloc (Below.refl w5.heap.size w5) (.cells #[.slice A9 r.cs.length r.cs.length] 26)))
                have hl24 : (i + 1) * 24 ≤ 140737488355328 := by omega
                have hz5 := HB5.out.size
                have hzr := HC.out.blk.lt
                have hsw := HI.out.low.size
                go_wp2_with (at_builtin; refine wpList_push2 rfl (.tmp 107) (.tmp 114) 99 rfl w.heap.size 26 (.slice none 0 0) 1 24 Tryz.underlying99 info_is rfl (by decide) (by decide) u9 i (done.flatMap Ir.vals) rfl hown.out (by simp; omega) ⟨w5.heap.size, 0, none⟩ 1 [.slice A9 r.cs.length r.cs.length] rfl rfl (new_cells (Blk.new _ _ _)) (by simp [Value.oneCell']) hl24 ?_; intro v9 W9 hown9 hg9 hv9)
                have HNX := Lib.hid (CI.next HI.out HRK.out HC.out (by rw [HGD.out]; exact q3) HB5.out hown9 hg9 hv9)
                clear hown9 hg9 hv9
                go_roundw
                case rel => exact ⟨i + 1, _, by omega, by go_num, HNX.out⟩
                case measure => simp [intOf]; omega
              · have HBAD := Lib.hid (ck_bad HI.out HRK.out HE2.out HGD.out q3)
                have q4 : (ce != 0) = true := by simp [q3]
                go_wp2_with fail
                refine HCK.out.mono ?_
                rintro e w5 ⟨rfl, hb5⟩
                have HB5 := Lib.hid hb5
                clear hb5
                go_wp2_with fail
                go_returns
                exact CkOut.no HBAD.out q3 (andThen (andThen HI.out.low HC.out.low) HB5.out)
        · obtain rfl : i = m := by omega
          have h0 : ckE ss (rs.map Rw.d) = 0 := by
            rw [HE2.out]
            refine rowsE_zero fun q hq => hI.err q ?_
            rwa [List.take_of_length_le (by rw [List.length_map, HM.out]; exact Nat.le_refl _)]
          obtain ⟨A9, c9, rfl, _, _, _, hs9⟩ := SegS.own (S := fun _ => True) hI.own (fun _ _ => trivial)
          have hdl : done.length = i := by
            have h1 := congrArg List.length hI.dat
            rw [List.length_map, List.length_map, List.length_take, HM.out] at h1
            omega
          have H9 := Lib.hid (And.intro h0 (And.intro hs9 hdl))
          clear hI h0 hs9
          go_wp2_with fail
          go_returns
          refine CkOut.yes H9.out.1 HI.out.low ⟨A9, c9, done, (by rw [H9.out.2.2]; rfl), ⟨H9.out.2.1, fun x hx => (HI.out.ok x hx).mono fun _ _ _ => trivial⟩, ?_⟩
          have h1 := HI.out.dat
          rw [List.take_of_length_le (by rw [HM.out]; exact Nat.le_refl _)] at h1
          rw [h1, List.map_map]
          rfl
theorem check_al (A : Option Addr) (ss : List G) (c : Nat) (B : Option Addr) (rs : List Rw) (k : Nat) (w : World) (hS : Row w A ss) (hR : RsOk w (fun _ => True) B k rs) (h63 : ss.length ≤ maxLen) :
    Calls Tryz.prog 72 #[.slice A ss.length c, .slice B rs.length k] w (CkOut ss (rs.map Rw.d) w) := by
  by_cases h : ss.length < 2 ∨ 257 < ss.length ∨ 2000 < rs.length
  · exact check_size A ss c B rs k w h63 (by have := hR.len; simp [maxLen]; omega) h
  · exact check_go A ss c B rs k w hS hR (by omega) (by omega) (by omega)
end Go.Proofs.YtoboecenlangmaaGreat.Al
end
section
namespace Go.Proofs.YtoboecenlangmaaGreat.Al
open Go.ChangeShapes Go.WideShapes Go.ChangeAt Go.RowKit
open Me Np No
open Gl (G Row)
set_option linter.unusedVariables false
set_option linter.unusedSimpArgs false

theorem own_apart {w : World} {b1 b2 : Nat} {e1 e2 : TypeId} {s1 s2 n1 n2 : Nat} {v1 v2 : Value} {x1 x2 : List Value} (h1 : w.ownsRow b1 e1 s1 v1 n1 x1) (h2 : w.ownsRow b2 e2 s2 v2 n2 x2) (hne : e1 ≠ e2) : v1.ownBlock = none ∨ v1.ownBlock ≠ v2.ownBlock := by
  rcases h1.2 with ⟨rfl, _⟩ | ⟨g, cap, cur, rfl, _, hg, _⟩
  · exact .inl rfl
  · refine .inr ?_
    rcases h2.2 with ⟨rfl, _⟩ | ⟨g', cap', cur', rfl, _, hg', _⟩
    · intro e; cases e
    · intro e
      have e' : g = g' := by simpa [Value.ownBlock] using e
      subst e'
      rw [hg] at hg'
      simp only [Option.some.injEq, Obj.cells.injEq] at hg'
      exact hne hg'.2.1
theorem own_blk {w : World} {b : Nat} {e t : TypeId} {s n g : Nat} {v : Value} {xs : List Value} {cs : Array Value} (h : w.ownsRow b e s v n xs) (k : Blk w g t cs) (hne : e ≠ t) : v.ownBlock ≠ some g := by
  rcases h.2 with ⟨rfl, _⟩ | ⟨g', cap, cur, rfl, _, hg, _⟩
  · intro e; cases e
  · intro e'
    have e1 : g' = g := by simpa [Value.ownBlock] using e'
    subst e1
    have k' : w.heap[g']? = some (.cells cs t (0, 0)) := k
    rw [k'] at hg
    simp only [Option.some.injEq, Obj.cells.injEq] at hg
    exact hne hg.2.1.symm
theorem gr_refl (w : World) (r : Option Nat) : w.grownBy w r := ⟨rfl, rfl, rfl, Nat.le_refl _, fun _ _ _ => rfl⟩
theorem gr_trans {w a b : World} {r : Option Nat} (h : w.grownBy a r) (k : a.grownBy b r) : w.grownBy b r :=
  ⟨k.os.trans h.os, k.tape.trans h.tape, k.output.trans h.output, Nat.le_trans h.size k.size, fun q hq hne => (k.block q (by have := h.size; omega) hne).trans (h.block q hq hne)⟩
theorem gr_set (w : World) (g j : Nat) (u : Value) : w.grownBy (w.setCell ⟨g, j, none⟩ u) (some g) := ⟨rfl, rfl, rfl, by simp, fun k _ hk => heap_setCell_other w ⟨g, j, none⟩ k u (fun e => hk (by simp [e]))⟩
theorem gr_cells (g : Nat) : ∀ (vs : List Value) (o : Nat) (w : World), w.grownBy (w.setCells g o vs) (some g)
  | [], _, w => gr_refl w _
  | v :: r, o, w => gr_trans (gr_set w g o v) (gr_cells g r (o + 1) _)
/-- A list, written over from a place on. -/
def ovr : List Value → Nat → List Value → List Value
  | xs, _, [] => xs
  | xs, o, v :: r => ovr (xs.set o v) (o + 1) r
theorem ovr_length : ∀ (vs : List Value) (xs : List Value) (o : Nat), (ovr xs o vs).length = xs.length
  | [], _, _ => rfl
  | v :: r, xs, o => by rw [ovr, ovr_length r, List.length_set]
theorem ovr_out : ∀ (vs : List Value) (xs : List Value) (o i : Nat), i < o ∨ o + vs.length ≤ i → (ovr xs o vs)[i]? = xs[i]?
  | [], _, _, _, _ => rfl
  | v :: r, xs, o, i, h => by
    simp only [List.length_cons] at h
    rw [ovr, ovr_out r _ _ _ (by omega), List.getElem?_set_ne (by omega)]
theorem ovr_in : ∀ (vs : List Value) (xs : List Value) (o i : Nat), o + vs.length ≤ xs.length → i < vs.length → (ovr xs o vs)[o + i]? = vs[i]?
  | [], _, _, _, _, h => by simp at h
  | v :: r, xs, o, 0, h, _ => by
    simp only [List.length_cons] at h
    show (ovr (xs.set o v) (o + 1) r)[o]? = some v
    rw [ovr_out r (xs.set o v) (o + 1) o (by omega), List.getElem?_set_self (by omega)]
  | v :: r, xs, o, i + 1, h, hi => by
    simp only [List.length_cons] at h hi
    rw [ovr, show o + (i + 1) = o + 1 + i by omega, ovr_in r _ _ _ (by rw [List.length_set]; omega) (by omega)]
    rfl
theorem ovr_glue (l : List G) (k : Nat) (x : G) (hk : k < l.length) : ovr (l.flatMap G.vals) (k * 5) x.vals = (l.set k x).flatMap G.vals := by
  apply List.ext_getElem?
  intro i
  have h1 := flat_length Gl.G.vals_len l
  have h2 := flat_length Gl.G.vals_len (l.set k x)
  rw [List.length_set] at h2
  have hx : x.vals.length = 5 := x.vals_len
  rcases Nat.lt_or_ge i (l.length * 5) with hi | hi
  · obtain ⟨r, q, hr, hq, rfl⟩ : ∃ r q, r < l.length ∧ q < 5 ∧ i = r * 5 + q := ⟨i / 5, i % 5, by omega, by omega, by omega⟩
    obtain ⟨y, hy⟩ : ∃ y, l[r]? = some y := ⟨l[r], List.getElem?_eq_getElem hr⟩
    by_cases hrk : r = k
    · subst hrk
      rw [ovr_in _ _ _ _ (by rw [h1, hx]; omega) (by rw [hx]; exact hq)]
      exact (flat_get Gl.G.vals_len _ r x q (by rw [List.getElem?_set_self hr]) hq).symm
    · rw [ovr_out _ _ _ _ (by rw [hx]; omega), flat_get Gl.G.vals_len _ r y q hy hq, flat_get Gl.G.vals_len _ r y q (by rw [List.getElem?_set_ne (by omega)]; exact hy) hq]
  · rw [List.getElem?_eq_none (by rw [ovr_length]; omega), List.getElem?_eq_none (by omega)]
theorem own_ovrs {base : Nat} {e : TypeId} {size g n cap : Nat} : ∀ (vs : List Value) (o : Nat) (w : World) (xs : List Value), w.ownsRow base e size (.slice (some ⟨g, 0, none⟩) n cap) n xs → (w.setCells g o vs).ownsRow base e size (.slice (some ⟨g, 0, none⟩) n cap) n (ovr xs o vs)
  | [], _, _, _, h => h
  | v :: r, o, w, xs, h => own_ovrs r (o + 1) _ _ (h.stored o v).1
theorem own_here {w : World} {base g n cap size : Nat} {e : TypeId} {xs : List Value} (h : w.ownsRow base e size (.slice (some ⟨g, 0, none⟩) n cap) n xs) (k : Nat) (hk : k < n) : w.there g (k * size) size := by
  intro j hj
  have hl := h.1
  have hlt : k * size + j < xs.length := by
    rw [hl]
    have : (k + 1) * size ≤ n * size := Nat.mul_le_mul_right _ hk
    rw [Nat.add_mul] at this
    omega
  refine ⟨?_, h.frozenAt _⟩
  rw [h.cellAt _ (by rw [← hl]; exact hlt)]
  rw [List.getElem?_eq_getElem hlt]
  rfl

theorem own_some {w : World} {base n size : Nat} {e : TypeId} {v : Value} {xs : List Value} (h : w.ownsRow base e size v n xs) (hn : 0 < n) : ∃ g c, v = .slice (some ⟨g, 0, none⟩) n c ∧ n ≤ c := by
  rcases h.2 with ⟨_, h0⟩ | ⟨g, cap, cur, rfl, _, _, hc, _⟩
  · omega
  · exact ⟨g, cap, rfl, hc⟩
def boolV (b : Bool) : Value := .bool b
/-- The sheet: skips, widths, which are gone. -/
structure MJ (w1 : World) (gs : Nat) (S : List G) (W : List Int) (D : List Bool) (vs vw vd : Value) (wr : World) : Prop where
  blk : Blk wr gs 92 #[vs, vw, vd]
  os : wr.ownsRow w1.heap.size 96 5 vs S.length (S.flatMap G.vals)
  ow : wr.ownsRow w1.heap.size 3 1 vw W.length (W.map intV)
  od : wr.ownsRow w1.heap.size 4 1 vd D.length (D.map boolV)
  low : Below w1.heap.size w1 wr
  ge : w1.heap.size ≤ gs
section
variable {w1 wr W8 : World} {gs : Nat} {S : List G} {W : List Int} {D : List Bool} {vs vw vd v8 : Value}
theorem MJ.below (h : MJ w1 gs S W D vs vw vd wr) (hb : Below wr.heap.size wr W8) : MJ w1 gs S W D vs vw vd W8 :=
  ⟨h.blk.below hb h.blk.lt, own_below h.os hb, own_below h.ow hb, own_below h.od hb, andThen h.low hb, h.ge⟩
theorem MJ.bW {x : Value} {t : TypeId} (h : MJ w1 gs S W D vs vw vd wr) (hg : (wr.alloc (.cells #[x] t)).grownBy W8 vw.ownBlock) : Blk W8 gs 92 #[vs, vw, vd] := by
  have hgl := h.blk.lt
  have h0 := h.below (andAlloc (Below.refl wr.heap.size wr) (.cells #[x] t))
  exact (hg.block gs (by simp; omega) (Ne.symm (own_blk h0.ow h0.blk (by decide)))).trans h0.blk
theorem MJ.bD {x : Value} {t : TypeId} (h : MJ w1 gs S W D vs vw vd wr) (hg : (wr.alloc (.cells #[x] t)).grownBy W8 vd.ownBlock) : Blk W8 gs 92 #[vs, vw, vd] := by
  have hgl := h.blk.lt
  have h0 := h.below (andAlloc (Below.refl wr.heap.size wr) (.cells #[x] t))
  exact (hg.block gs (by simp; omega) (Ne.symm (own_blk h0.od h0.blk (by decide)))).trans h0.blk
theorem MJ.pushW {x : Int} (h : MJ w1 gs S W D vs vw vd wr) (hown : W8.ownsRow w1.heap.size 3 1 v8 (W.length + 1) (W.map intV ++ [.int .i64 x])) (hg : (wr.alloc (.cells #[.int .i64 x] 3)).grownBy W8 vw.ownBlock) : MJ w1 gs S (W ++ [x]) D vs v8 vd (W8.setCell ⟨gs, 1, none⟩ v8) := by
  have hgl := h.blk.lt
  have h0 := h.below (andAlloc (Below.refl wr.heap.size wr) (.cells #[.int .i64 x] 3))
  have n0 := own_blk h0.ow h0.blk (by decide)
  have n1 := own_apart h0.os h0.ow (by decide)
  have n2 := own_apart h0.od h0.ow (by decide)
  have b8 : Blk W8 gs 92 #[vs, vw, vd] := (hg.block gs (by simp; omega) (Ne.symm n0)).trans h0.blk
  have s8 := h0.os.kept hg n1
  have d8 := h0.od.kept hg n2
  have l8 : Below w1.heap.size w1 W8 := below_grown (Nat.le_refl _) h0.low hg fun q hq => (h0.ow.lt q hq).1
  refine ⟨?_, ownsRow_setCell_other s8 (own_blk s8 b8 (by decide)) _, ?_, ownsRow_setCell_other d8 (own_blk d8 b8 (by decide)) _, l8.setCell h.ge _, h.ge⟩
  · simpa using b8.set 1 v8
  · rw [List.length_append, List.map_append]
    exact ownsRow_setCell_other hown (own_blk hown b8 (by decide)) _
theorem MJ.pushD {x : Bool} (h : MJ w1 gs S W D vs vw vd wr) (hown : W8.ownsRow w1.heap.size 4 1 v8 (D.length + 1) (D.map boolV ++ [.bool x])) (hg : (wr.alloc (.cells #[.bool x] 4)).grownBy W8 vd.ownBlock) : MJ w1 gs S W (D ++ [x]) vs vw v8 (W8.setCell ⟨gs, 2, none⟩ v8) := by
  have hgl := h.blk.lt
  have h0 := h.below (andAlloc (Below.refl wr.heap.size wr) (.cells #[.bool x] 4))
  have n0 := own_blk h0.od h0.blk (by decide)
  have n1 := own_apart h0.os h0.od (by decide)
  have n2 := own_apart h0.ow h0.od (by decide)
  have b8 : Blk W8 gs 92 #[vs, vw, vd] := (hg.block gs (by simp; omega) (Ne.symm n0)).trans h0.blk
  have s8 := h0.os.kept hg n1
  have d8 := h0.ow.kept hg n2
  have l8 : Below w1.heap.size w1 W8 := below_grown (Nat.le_refl _) h0.low hg fun q hq => (h0.od.lt q hq).1
  refine ⟨?_, ownsRow_setCell_other s8 (own_blk s8 b8 (by decide)) _, ownsRow_setCell_other d8 (own_blk d8 b8 (by decide)) _, ?_, l8.setCell h.ge _, h.ge⟩
  · simpa using b8.set 2 v8
  · rw [List.length_append, List.map_append]
    exact ownsRow_setCell_other hown (own_blk hown b8 (by decide)) _
theorem MJ.skip {g c k : Nat} {x : G} (h : MJ w1 gs S W D (.slice (some ⟨g, 0, none⟩) S.length c) vw vd wr) (hk : k < S.length) : MJ w1 gs (S.set k x) W D (.slice (some ⟨g, 0, none⟩) S.length c) vw vd (wr.setCells g (k * 5) x.vals) := by
  have hg := gr_cells g x.vals (k * 5) wr
  have n0 := own_blk h.os h.blk (by decide)
  have n1 := own_apart h.ow h.os (by decide)
  have n2 := own_apart h.od h.os (by decide)
  have hgg : (Value.slice (some ⟨g, 0, none⟩) S.length c).ownBlock = some g := rfl
  rw [hgg] at n0 n1 n2
  refine ⟨(hg.block gs h.blk.lt (Ne.symm n0)).trans h.blk, ?_, h.ow.kept hg n1, h.od.kept hg n2, below_grown (Nat.le_refl _) h.low hg fun q hq => ?_, h.ge⟩
  · rw [List.length_set, ← ovr_glue S k x hk]
    exact own_ovrs _ _ _ _ h.os
  · exact (h.os.lt q hq).1
/-- Where the skips stand. -/
theorem MJ.s0 (h : MJ w1 gs S W D vs vw vd wr) (hl : 0 < S.length) : ∃ g c, vs = .slice (some ⟨g, 0, none⟩) S.length c ∧ S.length ≤ c := by
  rcases id h.os.2 with ⟨rfl, h0⟩ | ⟨g, cap, cur, rfl, _, _, hn, _⟩
  · omega
  · exact ⟨g, cap, rfl, hn⟩
theorem MJ.getW (h : MJ w1 gs S W D vs vw vd wr) {i : Nat} {x : Int} (hi : W[i]? = some x) : ∃ b off c, vw = .slice (some ⟨b, off, none⟩) W.length c ∧ W.length ≤ c ∧ wr.cell? ⟨b, off + i, none⟩ = some (.int .i64 x) := by
  obtain ⟨A, c, rfl, hc, _, _, hs⟩ := SegS.own (S := fun _ => True) h.ow (fun _ _ => trivial)
  rcases hs with h0 | ⟨b, off, rfl, _, _, hx⟩
  · have h1 : W = [] := by simpa using h0
    rw [h1] at hi
    simp at hi
  · exact ⟨b, off, c, rfl, hc, hx i _ (by rw [List.getElem?_map, hi]; rfl)⟩
theorem MJ.getS (h : MJ w1 gs S W D vs vw vd wr) {i : Nat} {x : G} (hi : S[i]? = some x) : ∃ b off c, vs = .slice (some ⟨b, off, none⟩) S.length c ∧ S.length ≤ c ∧ wr.cell? ⟨b, off + i * 5, none⟩ = some (.int .i64 x.n) := by
  obtain ⟨A, c, rfl, hc, _, _, hs⟩ := SegS.own (S := fun _ => True) h.os (fun _ _ => trivial)
  obtain ⟨b, off, rfl, _, hx⟩ := hs.seg.row Gl.G.vals_len hi (by decide)
  exact ⟨b, off, c, rfl, hc, by simpa using hx 0 _ rfl⟩
end
end Go.Proofs.YtoboecenlangmaaGreat.Al
end
section
namespace Go.Proofs.YtoboecenlangmaaGreat.Al
open Go.ChangeShapes Go.WideShapes Go.ChangeAt Go.RowKit
open Me Np No
open Gl (G Row)
set_option linter.unusedVariables false
set_option linter.unusedSimpArgs false

noncomputable def mdC (ss : List G) (ds : List RD) : Co := cols (ds.map cel) ss (ss.length - 1)
noncomputable def mdE (ss : List G) (ds : List RD) : Int := if ckE ss ds = 0 then (if (mdC ss ds).w.all dimB = true then 0 else 20) else ckE ss ds
/-- What made answers: the sheet, in memory of its own. -/
def MdOutC (E : Int) (C : Co) (w : World) (e : Ending) (w' : World) : Prop :=
  ∃ v, e = .returned (.tuple #[v, .int .i64 E]) ∧ Below w.heap.size w w' ∧ (E = 0 → ∃ (w1 : World) (g : Nat) (vs vw vd : Value), w.heap.size ≤ w1.heap.size ∧ v = .pointer (some ⟨g, 0, none⟩) ∧ MJ w1 g C.s C.w C.g vs vw vd w')
abbrev MdOut (ss : List G) (ds : List RD) (w : World) (e : Ending) (w' : World) : Prop := MdOutC (mdE ss ds) (mdC ss ds) w e w'
theorem MdOut.no {ss : List G} {ds : List RD} {w w' : World} {E : Int} (h : mdE ss ds = E) (h0 : ¬ E = 0) (hb : Below w.heap.size w w') : MdOut ss ds w (.returned (.tuple #[.pointer none, .int .i64 E])) w' :=
  ⟨_, by rw [h], hb, fun e => absurd (h ▸ e) h0⟩
theorem dimen_al (z : Int) (w : World) : Calls Tryz.prog 73 #[.int .i64 z] w fun e w' => e = .returned (.bool (dimB z)) ∧ w = w' := by
  by_cases h0 : -1073741823 ≤ z
  · by_cases h1 : z ≤ 1073741823
    · have HD := Lib.hid (show dimB z = true by simp [dimB, h0, h1])
      go_enter Tryz.func73, Tryz.ntmps73
      go_wp2_with fail
      go_ret
      exact ⟨by rw [HD.out]; rfl, rfl⟩
    · have HD := Lib.hid (show dimB z = false by simp [dimB, h1])
      go_enter Tryz.func73, Tryz.ntmps73
      go_wp2_with fail
      go_ret
      exact ⟨by rw [HD.out]; rfl, rfl⟩
  · have HD := Lib.hid (show dimB z = false by simp [dimB, h0])
    go_enter Tryz.func73, Tryz.ntmps73
    go_wp2_with fail
    go_ret
    exact ⟨by rw [HD.out]; rfl, rfl⟩
theorem info_b : (Tryz.prog.info? 4).map (fun i => (i.zero, i.size, i.bytes)) = some (some (.bool false), 1, 1) := by kernel_rfl
theorem cols_none {rs : List (List (Int × Nat))} {ss : List G} {j : Nat} (h : colM (cols rs ss j).f j none rs = none) : cols rs ss (j + 1) = ⟨(cols rs ss j).w ++ [0], (cols rs ss j).g ++ [true], (cols rs ss j).s.set (j + 1) gz⟩ := by
  rw [cols]
  unfold Co.next
  rw [h]
theorem cols_some {rs : List (List (Int × Nat))} {ss : List G} {j : Nat} {y : Int} (h : colM (cols rs ss j).f j none rs = some y) : cols rs ss (j + 1) = ⟨(cols rs ss j).w ++ [y], (cols rs ss j).g ++ [false], (cols rs ss j).s⟩ := by
  rw [cols]
  unfold Co.next
  rw [h]
theorem MdOut.yes {E : Int} {C : Co} {w w1 w' : World} {g : Nat} {vs vw vd : Value} (h : E = 0) (hb : Below w.heap.size w w') (h1 : w.heap.size ≤ w1.heap.size) (hj : MJ w1 g C.s C.w C.g vs vw vd w') : MdOutC E C w (.returned (.tuple #[.pointer (some ⟨g, 0, none⟩), .int .i64 0])) w' :=
  ⟨_, by rw [h], hb, fun _ => ⟨w1, g, vs, vw, vd, h1, rfl, hj⟩⟩
theorem info_g : (Tryz.prog.info? 96).map (fun i => (i.zero, i.size, i.bytes)) = some (some (.agg #[.int .i64 0, .int .i64 0, .int .i64 0, .int .i64 0, .int .i64 0]), 5, 40) := by kernel_rfl
theorem glue_one (l : List G) : ∀ u ∈ l.flatMap G.vals, u.oneCell' = true := by
  intro u hu
  obtain ⟨g, _, hg⟩ := List.mem_flatMap.1 hu
  simp only [G.vals, List.mem_cons, List.not_mem_nil, or_false] at hg
  rcases hg with rfl | rfl | rfl | rfl | rfl <;> rfl
theorem wpList_append_src {P : Program} {ops : Array Oper} {rest : List Oper} {o : Oper} {a : Act} {w : World} {Q : Exit → Act → World → Prop} (hgd : o.guard = none) (s x : Operand) (t : TypeId)
    (ho : o.op = .call { callee := .builtin .append, args := #[s, x], argTypes := #[t, t] })
    (base : Nat) (e : TypeId) (z : Value) (size bytes : Nat) (ht : P.underlying t = some (.slice e)) (hinfo : (P.info? e).map (fun i => (i.zero, i.size, i.bytes)) = some (some z, size, bytes))
    (hzs : z.cells.size = size) (hsz : 0 < size)
    (v : Value) (n : Nat) (xs : List Value) (hs : a.eval s = v) (hown : w.ownsRow base e size v n xs)
    (ad : Addr) (m c : Nat) (news : List Value) (hx : a.eval x = .slice (some ad) m c) (hl : news.length = m * size) (hnews : ∀ j u, news[j]? = some u → w.cell? (ad.add j) = some u) (h1 : ∀ u ∈ news, u.oneCell' = true)
    (h63 : n + m ≤ maxLen) (hbytes : (n + m) * bytes ≤ 140737488355328) (hbase : base ≤ w.heap.size)
    (h : ∀ v' w', w'.ownsRow base e size v' (n + m) (xs ++ news) → w.grownBy w' v.ownBlock → wpList P ops Q rest (a.put o.dst v') w') :
    wpList P ops Q (o :: rest) a w :=
  wpList_plain hgd fun K hK => by
    obtain ⟨i, hi, hz, hsi, hbi⟩ := info_parts hinfo
    obtain ⟨v', w', hr, h2, h3, _⟩ := run_append_own (P := P) w base t o.type e i z size bytes ht hi hz hsi hbi hzs hsz v n xs hown ad m c news hl hnews h1 h63 hbytes hbase
    unfold Oper.wp execOp
    simp only [ho, resolve, invoke, builtin, Sem.run_bind, Sem.run_pure, Result.andThen_ok, List.map_toArray, List.map_cons, List.map_nil, hs, hx, hr]
    exact hK _ _ (h v' w' h2 h3)

set_option maxHeartbeats 4000000 in
set_option maxRecDepth 100000 in
theorem made_bad (A : Option Addr) (ss : List G) (c : Nat) (B : Option Addr) (rs : List Rw) (k : Nat) (w : World) (hS : Row w A ss) (hR : RsOk w (fun _ => True) B k rs) (h63 : ss.length ≤ maxLen) (hE : ¬ ckE ss (rs.map Rw.d) = 0) :
    Calls Tryz.prog 34 #[.slice A ss.length c, .slice B rs.length k] w (MdOut ss (rs.map Rw.d) w) := by
  have HM := Lib.hid (show mdE ss (rs.map Rw.d) = ckE ss (rs.map Rw.d) from if_neg hE)
  have HC := Lib.hid (check_al A ss c B rs k w hS hR h63)
  have HN := Lib.hid hE
  have q1 : (ckE ss (rs.map Rw.d) != 0) = true := by simp [hE]
  clear hS hR hE
  go_enter Tryz.func34, Tryz.ntmps34
  go_wp2_with fail
  refine HC.out.mono ?_
  rintro e w1 ⟨v, rfl, hb1, _⟩
  go_wp2_with fail
  go_returns
  exact MdOut.no HM.out HN.out hb1
theorem ask_drop {f : Nat → Int} {j a k : Nat} {r : List (Int × Nat)} {c : Int × Nat} (hk : r[k]? = some c) : ask f j a (r.drop k) = if j < a + c.2 - 1 then none else if a + c.2 - 1 = j then some (less f a (j - a) c.1) else ask f j (a + c.2) (r.drop (k + 1)) := by
  have hlt : k < r.length := by
    rcases Nat.lt_or_ge k r.length with h | h
    · exact h
    · rw [List.getElem?_eq_none h] at hk; cases hk
  rw [List.drop_eq_getElem_cons hlt]
  rw [List.getElem?_eq_getElem hlt] at hk
  injection hk with hk
  rw [hk]
  rfl
theorem ask_before {f : Nat → Int} {j : Nat} : ∀ {r : List (Int × Nat)} {a : Nat}, j < a → (∀ x ∈ r, 1 ≤ x.2) → ask f j a r = none
  | [], _, _, _ => rfl
  | c :: r, a, h, h1 => by
    have := h1 c (by simp)
    rw [ask, if_pos (by omega)]
theorem pos_zero : ∀ r : List (Int × Nat), pos r 0 = 0
  | [] => rfl
  | _ :: _ => rfl
theorem wrapEq (x : Int) : IntKind.i64.wrap x = wrap64 x := by rw [IntKind.wrap_i64, wrap64]
theorem IrsOk.get {w : World} {A : Option Addr} {irs : List Ir} (h : IrsOk w (fun _ => True) A irs) {i q : Nat} {ir : Ir} {x : Int} (hi : irs[i]? = some ir) (hq : ir.xs[q]? = some x) :
    ∃ b off b7 off7, A = some ⟨b, off, none⟩ ∧ ir.A = some ⟨b7, off7, none⟩ ∧ b < w.heap.size ∧ b7 < w.heap.size ∧ w.cell? ⟨b, off + i, none⟩ = some (.slice ir.A ir.xs.length ir.c) ∧ w.cell? ⟨b7, off7 + q, none⟩ = some (.int .i64 x) := by
  obtain ⟨b, off, hA, hb, hc⟩ := h.seg.seg.row Ir.vals_length hi (by decide)
  have h0 := hc 0 _ rfl
  rw [Nat.mul_one, Nat.add_zero] at h0
  rcases h.rows ir (List.mem_of_getElem? hi) with h1 | ⟨b7, off7, hA7, hb7, _, hx⟩
  · have h2 : ir.xs = [] := by simpa using h1
    rw [h2] at hq
    simp at hq
  · exact ⟨b, off, b7, off7, hA, hA7, hb, hb7, h0, hx q _ (by rw [List.getElem?_map, hq]; rfl)⟩
theorem pos_succ : ∀ {r : List (Int × Nat)} {k : Nat} {c : Int × Nat}, r[k]? = some c → pos r (k + 1) = pos r k + c.2
  | [], k, c, h => by simp at h
  | x :: r, 0, c, h => by
    simp at h
    subst h
    simp [pos]
  | x :: r, k + 1, c, h => by
    rw [pos, pos_succ (r := r) (k := k) (c := c) (by simpa using h), pos]
    omega
theorem colM_drop {f : Nat → Int} {j i : Nat} {m : Option Int} {rs : List (List (Int × Nat))} {r : List (Int × Nat)} (hi : rs[i]? = some r) : colM f j m (rs.drop i) = colM f j (mx m (ask f j 0 r)) (rs.drop (i + 1)) := by
  have hlt : i < rs.length := by
    rcases Nat.lt_or_ge i rs.length with h | h
    · exact h
    · rw [List.getElem?_eq_none h] at hi; cases hi
  rw [List.drop_eq_getElem_cons hlt]
  rw [List.getElem?_eq_getElem hlt] at hi
  injection hi with hi
  rw [hi]
  rfl
theorem mx_right (m : Option Int) : mx m none = m := by cases m <;> rfl
/-- What is known of a good alignment's rows. -/
theorem row_good {ss : List G} {ds : List RD} (h : ckE ss ds = 0) {q : RD} (hq : q ∈ ds) : (∀ c ∈ q.1, 1 ≤ c.2 ∧ (wd c.1).1 = 0) ∧ (∀ k, posI q.1 k ≤ (ss.length : Int) - 1) ∧ chk q.2 = 0 := by
  unfold ckE at h
  split at h
  · cases h
  · rename_i h1
    split at h
    · have h2 := rowsE_all h q hq
      unfold rowErr at h2
      split at h2
      · rename_i h3
        obtain ⟨a, b⟩ := celE_good (by omega) h3
        exact ⟨a, fun k => by have := b k; omega, h2⟩
      · rename_i h3
        exact absurd h2 h3
    · cases h
/-- Cell k of a good row. -/
theorem cel_good {ss : List G} {ds : List RD} (h : ckE ss ds = 0) {r : Rw} (hr : r.d ∈ ds) {k : Nat} {x : Cl} (hx : r.cs[k]? = some x) :
    (cel r.d)[k]? = some ((wd x.l).2, x.sp.toNat) ∧ (∀ c ∈ cel r.d, 1 ≤ c.2) ∧ 1 ≤ x.sp ∧ ((pos (cel r.d) k : Nat) : Int) + x.sp ≤ (ss.length : Int) - 1 := by
  obtain ⟨h1, h2, _⟩ := row_good h hr
  have hd : r.d.1[k]? = some x.d := by show (r.cs.map Cl.d)[k]? = _; rw [List.getElem?_map, hx]; rfl
  have h3 : ∀ c ∈ r.d.1, 1 ≤ c.2 := fun c hc => (h1 c hc).1
  have h4 := h3 x.d (List.mem_of_getElem? hd)
  have h5 := h2 (k + 1)
  rw [posI_succ hd] at h5
  have h6 : ((pos (cel r.d) k : Nat) : Int) = posI r.d.1 k := cel_pos (ex := r.d.2) h3
  refine ⟨by unfold cel; rw [List.getElem?_map, hd]; rfl, fun c hc => ?_, h4, ?_⟩
  · unfold cel at hc
    obtain ⟨y, hy, rfl⟩ := List.mem_map.1 hc
    have := h3 y hy
    show 1 ≤ y.2.toNat
    omega
  · rw [h6]
    exact h5
theorem seg_add {w : World} {B b off : Nat} {xs : List Value} (h : Seg w B (some ⟨b, off, none⟩) xs) : ∀ j u, xs[j]? = some u → w.cell? ((⟨b, off, none⟩ : Addr).add j) = some u := by
  intro j u hu
  rcases h with rfl | ⟨b', off', he, _, hc⟩
  · simp at hu
  · simp only [Option.some.injEq, Addr.mk.injEq, and_true] at he
    obtain ⟨rfl, rfl⟩ := he
    have hadd : (⟨b, off, none⟩ : Addr).add j = ⟨b, off + j, none⟩ := by unfold Addr.add; split <;> simp_all
    rw [hadd]
    exact hc j u hu

set_option maxHeartbeats 4000000 in
set_option maxRecDepth 100000 in
theorem made_go (A : Option Addr) (ss : List G) (c : Nat) (B : Option Addr) (rs : List Rw) (k : Nat) (w : World) (hS : Row w A ss) (hR : RsOk w (fun _ => True) B k rs) (h63 : ss.length ≤ maxLen) (hE : ckE ss (rs.map Rw.d) = 0) :
    Calls Tryz.prog 34 #[.slice A ss.length c, .slice B rs.length k] w (MdOut ss (rs.map Rw.d) w) := by
  have hbd : 2 ≤ ss.length ∧ ss.length ≤ 257 ∧ rs.length ≤ 2000 := by
    unfold ckE at hE
    split at hE
    · cases hE
    · rename_i h
      simp at h
      omega
  have hc0 := check_al A ss c B rs k w hS hR h63
  unfold CkOut at hc0
  rw [hE] at hc0
  have HC := Lib.hid hc0
  have HS := Lib.hid hS
  have HR := Lib.hid hR
  have HE := Lib.hid hE
  clear hS hR hE hc0 h63
  obtain ⟨h2, h257, h2000⟩ := hbd
  generalize hn : ss.length = n at *
  have HN := Lib.hid hn
  clear hn
  generalize hm : rs.length = m at *
  have HM := Lib.hid hm
  clear hm
  go_enter Tryz.func34, Tryz.ntmps34
  go_wp2_with fail
  refine HC.out.mono ?_
  rintro e w1 ⟨v, rfl, hb1, hir⟩
  obtain ⟨A6, c6, irs, rfl, hir, hird⟩ := hir trivial
  have HIR := Lib.hid (And.intro hir hird)
  have HB1 := Lib.hid hb1
  obtain ⟨b, off, rfl, hbb⟩ : ∃ b off, A = some ⟨b, off, none⟩ ∧ b < w.heap.size := by
    obtain ⟨g, hg⟩ := get_some (l := ss) (i := 0) (by rw [HN.out]; omega)
    obtain ⟨b, off, hA, hb, _⟩ := Seg.row Gl.G.vals_len HS.out hg (by decide)
    exact ⟨b, off, hA, hb⟩
  have HSC := Lib.hid (seg_add (Seg.belowW HS.out hb1))
  clear hir hird hb1
  go_upto_region 5 with (at_builtin; refine wpList_append_src rfl (.const (.slice none 0 0)) (.tmp 31) 22 rfl w1.heap.size 96 (.agg #[.int .i64 0, .int .i64 0, .int .i64 0, .int .i64 0, .int .i64 0]) 5 40 Tryz.underlying22 info_g rfl (by decide) (.slice none 0 0) 0 [] rfl (World.ownsRow_nil _ _ _ _) ⟨b, off, none⟩ n c (ss.flatMap G.vals) rfl (by rw [flat_length Gl.G.vals_len, HN.out]) HSC.out (glue_one _) (by simp [maxLen]; omega) (by omega) (Nat.le_refl _) ?_; intro v4 w4 hown4 hg4; rw [Nat.zero_add, List.nil_append] at hown4; obtain ⟨g4, c4, rfl, hc4⟩ := own_some hown4 (by omega))
  have hJ0 : MJ w1 w4.heap.size ss [] [] (.slice (some ⟨g4, 0, none⟩) n c4) (.slice none 0 0) (.slice none 0 0) (w4.alloc (.cells #[.slice (some ⟨g4, 0, none⟩) n c4, .slice none 0 0, .slice none 0 0] 92)) :=
    ⟨Blk.new _ _ _, by rw [HN.out]; exact hown4.alloc _, World.ownsRow_nil _ _ _ _, World.ownsRow_nil _ _ _ _, andAlloc (below_grown (Nat.le_refl _) (Below.refl _ _) hg4 (by intro q hq; cases hq)) _, hg4.size⟩
  have HJ0 := Lib.hid hJ0
  clear hJ0 hown4 hg4 HSC HC
  generalize w4.alloc (.cells #[.slice (some ⟨g4, 0, none⟩) n c4, .slice none 0 0, .slice none 0 0] 92) = W5 at *
  generalize w4.heap.size = gs at *
  have hw1 : IntKind.i64.wrap ((n : Int) - 1) = (n : Int) - 1 := IntWalk.i64_in _ (by omega)
  go_wp2_with fail
  go_loopw [38] (fun v38 wr => ∃ (j : Nat) (vs vw vd : Value), j ≤ n - 1 ∧ v38 = .int .i64 (j : Int) ∧ MJ w1 gs (cols ((rs.map Rw.d).map cel) ss j).s (cols ((rs.map Rw.d).map cel) ss j).w (cols ((rs.map Rw.d).map cel) ss j).g vs vw vd wr) (fun v38 _ => n - (intOf v38).toNat)
  case atStart => exact ⟨0, _, _, _, by omega, rfl, HJ0.out⟩
  case round =>
    obtain ⟨j, vs, vw, vd, hj, rfl, hJ⟩ := hrel
    by_cases hlt : j < n - 1
    · have hjn : (j : Int) < (n : Int) - 1 := by omega
      have HJ := Lib.hid hJ
      obtain ⟨W0, rfl⟩ : ∃ W, W = wr := ⟨_, rfl⟩
      have hL0 := andThen HB1.out hJ.low
      clear hJ
      have HL0 := Lib.hid hL0
      clear hL0
      go_wp2_with fail
      go_loopw [10, 11, 43] (fun v10 v11 v43 wr => ∃ (i : Nat) (mm : Option Int), i ≤ m ∧ v43 = .int .i64 (i : Int) ∧ v10 = .int .i64 (mm.getD 0) ∧ v11 = .bool mm.isSome ∧ colM (cols ((rs.map Rw.d).map cel) ss j).f j none ((rs.map Rw.d).map cel) = colM (cols ((rs.map Rw.d).map cel) ss j).f j mm (((rs.map Rw.d).map cel).drop i) ∧ Below W0.heap.size W0 wr) (fun _ _ v43 _ => m - (intOf v43).toNat)
      case atStart => exact ⟨0, none, by omega, rfl, rfl, rfl, rfl, Below.refl _ _⟩
      case round =>
        obtain ⟨i, mm, hi, rfl, rfl, rfl, hcm, hbw⟩ := hrel
        have HCM := Lib.hid hcm
        have HBW := Lib.hid hbw
        by_cases hlt2 : i < m
        · obtain ⟨r, hr⟩ := get_some (l := rs) (i := i) (by rw [HM.out]; exact hlt2)
          have hw := HR.out.below (andThen HL0.out hbw)
          obtain ⟨b1, off1, rfl, hb1, hc0, hc1⟩ := hw.row hr
          have HRO := Lib.hid (hw.get hr)
          have HRK := Lib.hid hr
          have hii : (i : Int) < (m : Int) := by omega
          clear hcm hbw hw hr
          obtain ⟨W1, rfl⟩ : ∃ W, W = wr := ⟨_, rfl⟩
          go_wp2_with fail
          go_step3
          go_wp2_with fail
          go_step3
          have hg0 : (W1.alloc (.cells #[.slice r.A r.cs.length r.c, .slice r.E r.ex.length r.k] 84)).cell? ⟨W1.heap.size, 0, none⟩ = some (.slice r.A r.cs.length r.c) := (Blk.new _ _ _).cell 0
          have HB2 := Lib.hid (andAlloc (Below.refl W1.heap.size W1) (.cells #[.slice r.A r.cs.length r.c, .slice r.E r.ex.length r.k] 84))
          generalize W1.alloc (.cells #[.slice r.A r.cs.length r.c, .slice r.E r.ex.length r.k] 84) = W2 at *
          go_wp2_with fail
          clear hg0
          have hrl := HRO.out.len
          have HRM := Lib.hid (show r.d ∈ rs.map Rw.d from List.mem_map.2 ⟨r, List.mem_of_getElem? HRK.out, rfl⟩)
          go_loopg [10, 11, 14, 51] r.cs.length (fun g v10 v11 v14 v51 wr => ∃ (q : Nat) (m2 : Option Int), q + g = r.cs.length ∧ v51 = .int .i64 (q : Int) ∧ v14 = .int .i64 ((pos (cel r.d) q : Nat) : Int) ∧ v10 = .int .i64 (m2.getD 0) ∧ v11 = .bool m2.isSome ∧ mx mm (ask (cols ((rs.map Rw.d).map cel) ss j).f j 0 (cel r.d)) = mx m2 (ask (cols ((rs.map Rw.d).map cel) ss j).f j (pos (cel r.d) q) ((cel r.d).drop q)) ∧ Below W1.heap.size W1 wr)
          case atStart => exact ⟨0, mm, by omega, rfl, by rw [pos_zero]; rfl, rfl, rfl, by rw [pos_zero, List.drop_zero], HB2.out⟩
          case round =>
            obtain ⟨q, m2, hqg, rfl, rfl, rfl, rfl, hask, hbq⟩ := hrel
            have HASK := Lib.hid hask
            have HBQ := Lib.hid hbq
            by_cases hlt3 : q < r.cs.length
            · obtain ⟨x, hx⟩ := get_some hlt3
              obtain ⟨hcl, hsp, hx1, hxp⟩ := cel_good HE.out HRM.out hx
              rw [HN.out] at hxp
              have hro := HRO.out.keep (Kp.below _ hbq)
              obtain ⟨b2, off2, hA2, hb2, hx0, hx2⟩ := hro.cell hx
              have HXK := Lib.hid hx
              have HCL := Lib.hid hcl
              have HSP := Lib.hid hsp
              have hqi : (q : Int) < (r.cs.length : Int) := by omega
              rw [hA2]
              obtain ⟨sp, hspn⟩ : ∃ s : Nat, x.sp = (s : Int) := ⟨x.sp.toNat, by omega⟩
              have HSN := Lib.hid hspn
              rw [hspn] at hx2 hx1 hxp
              clear hask hbq hcl hsp hx hro
              obtain ⟨Wk, rfl⟩ : ∃ W, W = wr := ⟨_, rfl⟩
              generalize hpa : pos (cel r.d) q = a at hxp HASK ⊢
              have HPA := Lib.hid hpa
              clear hpa
              have hw2 : IntKind.i64.wrap ((a : Int) + (sp : Int)) = (a : Int) + (sp : Int) := IntWalk.i64_in _ (by omega)
              have hw3 : IntKind.i64.wrap ((a : Int) + (sp : Int) - 1) = (a : Int) + (sp : Int) - 1 := IntWalk.i64_in _ (by omega)
              have HAD := Lib.hid (ask_drop (f := (cols ((rs.map Rw.d).map cel) ss j).f) (j := j) (a := a) HCL.out)
              by_cases c1 : (j : Int) < (a : Int) + (sp : Int) - 1
              · have HNX := Lib.hid (show colM (cols ((rs.map Rw.d).map cel) ss j).f j none ((rs.map Rw.d).map cel) = colM (cols ((rs.map Rw.d).map cel) ss j).f j m2 (((rs.map Rw.d).map cel).drop (i + 1)) by
                  rw [HCM.out, colM_drop (r := cel r.d) (by rw [List.getElem?_map, List.getElem?_map, HRK.out]; rfl), HASK.out, HAD.out, if_pos (by rw [HSN.out]; show j < a + (sp : Int).toNat - 1; omega), mx_right])
                go_wp2_with fail
                go_roundw
                case rel => exact ⟨i + 1, m2, by omega, by go_num, rfl, rfl, HNX.out, andAlloc (andThen HBW.out HBQ.out) _⟩
                case measure => simp [intOf]; omega
              · by_cases c2 : (a : Int) + (sp : Int) - 1 = (j : Int)
                · have HAY := Lib.hid (show ask (cols ((rs.map Rw.d).map cel) ss j).f j a ((cel r.d).drop q) = some (less (cols ((rs.map Rw.d).map cel) ss j).f a (j - a) (wd x.l).2) by
                    rw [HAD.out, if_neg (by rw [HSN.out]; show ¬ j < a + (sp : Int).toNat - 1; omega), if_pos (by rw [HSN.out]; show a + (sp : Int).toNat - 1 = j; omega)])
                  have c3 : ((a : Int) + (sp : Int) - 1 == (j : Int)) = true := by rw [beq_iff_eq]; exact c2
                  obtain ⟨ir, hir⟩ : ∃ ir, irs[i]? = some ir ∧ ir.xs = wids r.d := by
                    have h1 : (irs.map Ir.xs)[i]? = some (wids r.d) := by rw [HIR.out.2, List.getElem?_map, List.getElem?_map, HRK.out]; rfl
                    rw [List.getElem?_map] at h1
                    obtain ⟨ir, h2, h3⟩ := Option.map_eq_some_iff.1 h1
                    exact ⟨ir, h2, h3⟩
                  have hxw : ir.xs[q]? = some (wd x.l).2 := by
                    rw [hir.2]
                    show (r.d.1.map _)[q]? = _
                    rw [List.getElem?_map]
                    show Option.map _ ((r.cs.map Cl.d)[q]?) = _
                    rw [List.getElem?_map, HXK.out]
                    rfl
                  have hxl : ir.xs.length = r.cs.length := by rw [hir.2]; show ((r.cs.map Cl.d).map _).length = _; simp
                  have hil : irs.length = m := by have := congrArg List.length HIR.out.2; simpa [HM.out] using this
                  obtain ⟨b6, off6, b7, off7, rfl, hA7, hb6, hb7, hy0, hy1⟩ := HIR.out.1.get hir.1 hxw
                  have hlow := andThen (andThen HJ.out.low HBW.out) HBQ.out
                  have hy2 : Wk.cell? ⟨b6, off6 + i, none⟩ = some (.slice (some ⟨b7, off7, none⟩) r.cs.length ir.c) := (hlow.cell (p := ⟨b6, off6 + i, none⟩) hb6).trans (by rw [hy0, hA7, hxl])
                  have hy3 : Wk.cell? ⟨b7, off7 + q, none⟩ = some (.int .i64 (wd x.l).2) := (hlow.cell (p := ⟨b7, off7 + q, none⟩) hb7).trans hy1
                  have hb6' : b6 < Wk.heap.size := Nat.lt_of_lt_of_le hb6 hlow.size
                  have hb7' : b7 < Wk.heap.size := Nat.lt_of_lt_of_le hb7 hlow.size
                  have hii2 : (i : Int) < (irs.length : Int) := by omega
                  have HJ3 := Lib.hid (HJ.out.below (andAlloc (andThen HBW.out HBQ.out) (.cells #[.slice x.A x.l.length x.c, .int .i64 (sp : Int)] 87)))
                  have HL3 := Lib.hid (andAlloc (andThen HBW.out HBQ.out) (.cells #[.slice x.A x.l.length x.c, .int .i64 (sp : Int)] 87))
                  have HL3q := Lib.hid (andAlloc HBQ.out (.cells #[.slice x.A x.l.length x.c, .int .i64 (sp : Int)] 87))
                  clear hir hxw hxl hil hy0 hy1 hlow hA7
                  generalize irs.length = il at *
                  generalize hwd : (wd x.l).2 = n0 at *
                  clear hwd
                  go_upto_region 20 with fail
                  clear hy2 hy3
                  generalize Wk.alloc (.cells #[.slice x.A x.l.length x.c, .int .i64 (sp : Int)] 87) = W3 at *
                  go_wp2_with fail
                  go_loopw [18, 19] (fun v18 v19 wr => ∃ (p : Nat) (z : Int), a ≤ p ∧ p ≤ j ∧ v19 = .int .i64 (p : Int) ∧ v18 = .int .i64 z ∧ less (cols ((rs.map Rw.d).map cel) ss j).f a (j - a) n0 = less (cols ((rs.map Rw.d).map cel) ss j).f p (j - p) z ∧ Below W3.heap.size W3 wr) (fun _ v19 _ => j - (intOf v19).toNat)
                  case atStart => exact ⟨a, n0, by omega, by omega, rfl, rfl, rfl, Below.refl _ _⟩
                  case round =>
                    obtain ⟨p, z, hap, hpj, rfl, rfl, hls, hbp⟩ := hrel
                    have HLS := Lib.hid hls
                    have HBP := Lib.hid hbp
                    clear hls
                    by_cases hlt4 : p < j
                    · have hpj2 : (p : Int) < (j : Int) := by omega
                      obtain ⟨wp, hwp⟩ := get_some (l := (cols ((rs.map Rw.d).map cel) ss j).w) (i := p) (by rw [(cols_len _ ss j).1]; exact hlt4)
                      obtain ⟨gp, hgp⟩ := get_some (l := (cols ((rs.map Rw.d).map cel) ss j).s) (i := p + 1) (by rw [(cols_len _ ss j).2.2, HN.out]; omega)
                      have hj3 := HJ3.out.below HBP.out
                      obtain ⟨bw, ow, cw, hvw, hcw, hxw⟩ := hj3.getW hwp
                      obtain ⟨bs, os, cs, hvs, hcs, hxs⟩ := hj3.getS hgp
                      have hs0 : wr.cell? ⟨gs, 0, none⟩ = some (.slice (some ⟨bs, os, none⟩) n cs) := (hj3.blk.cell 0).trans (by rw [hvs, (cols_len _ ss j).2.2, HN.out]; rfl)
                      have hs1 : wr.cell? ⟨gs, 1, none⟩ = some (.slice (some ⟨bw, ow, none⟩) j cw) := (hj3.blk.cell 1).trans (by rw [hvw, (cols_len _ ss j).1]; rfl)
                      have HF := Lib.hid (show (cols ((rs.map Rw.d).map cel) ss j).f p = wrap64 (wp + gp.n) by unfold Co.f; rw [List.getD_eq_getElem?_getD, List.getD_eq_getElem?_getD, hwp, hgp]; rfl)
                      have hw5 : IntKind.i64.wrap ((p : Int) + 1) = (p : Int) + 1 := IntWalk.i64_in _ (by omega)
                      have hpn : (p : Int) + 1 < (n : Int) := by omega
                      have htn : ((p : Int) + 1).toNat = p + 1 := by omega
                      clear hwp hgp hj3 hvw hvs
                      go_upto_region 23 with fail
                      go_quiet (fail)
                      go_wp2_with fail
                      go_roundw
                      case rel =>
                        refine ⟨p + 1, wrap64 (z - wrap64 (wp + gp.n)), by omega, by omega, by go_num, rfl, ?_, below_drewN HBP.out _⟩
                        rw [HLS.out, show j - p = (j - (p + 1)) + 1 by omega, less, HF.out]
                      case measure => simp [intOf]; omega
                    · obtain rfl : p = j := by omega
                      have HLZ := Lib.hid (show less (cols ((rs.map Rw.d).map cel) ss p).f a (p - a) n0 = z by rw [HLS.out, Nat.sub_self]; rfl)
                      have HPS := Lib.hid (show pos (cel r.d) (q + 1) = p + 1 by rw [pos_succ HCL.out, HPA.out, HSN.out]; show a + (sp : Int).toNat = p + 1; omega)
                      have HNX := Lib.hid (show mx mm (ask (cols ((rs.map Rw.d).map cel) ss p).f p 0 (cel r.d)) = mx (mx m2 (some z)) (ask (cols ((rs.map Rw.d).map cel) ss p).f p (pos (cel r.d) (q + 1)) ((cel r.d).drop (q + 1))) by
                        rw [HPS.out, ask_before (by omega) (fun c hc => HSP.out c (List.mem_of_mem_drop hc)), mx_right, HASK.out, HAY.out, HLZ.out])
                      have hw6 : IntKind.i64.wrap ((p : Int) + 1) = (p : Int) + 1 := IntWalk.i64_in _ (by omega)
                      rcases m2 with _ | y
                      · go_wp2_with fail
                        rw [← hA2]
                        go_roundg (r.cs.length - (q + 1))
                        case rel => exact ⟨q + 1, some z, by omega, by go_num, by rw [HPS.out]; go_num, by go_num, by go_num, HNX.out, andThen HL3q.out HBP.out⟩
                        case measure => omega
                      · by_cases hyz : y < z
                        · have HYZ := Lib.hid hyz
                          go_wp2_with fail
                          rw [← hA2]
                          go_roundg (r.cs.length - (q + 1))
                          case rel => exact ⟨q + 1, some z, by omega, by go_num, by rw [HPS.out]; go_num, by go_num, by go_num, by rw [HNX.out]; simp only [mx]; rw [if_pos (by have := HYZ.out; omega)], andThen HL3q.out HBP.out⟩
                          case measure => omega
                        · have HYZ := Lib.hid hyz
                          go_wp2_with fail
                          rw [← hA2]
                          go_roundg (r.cs.length - (q + 1))
                          case rel => exact ⟨q + 1, some y, by omega, by go_num, by rw [HPS.out]; go_num, by go_num, by go_num, by rw [HNX.out]; simp only [mx]; rw [if_neg (by have := HYZ.out; omega)], andThen HL3q.out HBP.out⟩
                          case measure => omega
                · have c3 : ((a : Int) + (sp : Int) - 1 == (j : Int)) = false := by rw [beq_eq_false_iff_ne]; exact c2
                  have hw4 : IntKind.i64.wrap ((a : Int) + (sp : Int) - 1 + 1) = (a : Int) + (sp : Int) := (IntWalk.i64_in _ (by omega)).trans (by omega)
                  have HPS := Lib.hid (show pos (cel r.d) (q + 1) = a + sp by rw [pos_succ HCL.out, HPA.out, HSN.out]; rfl)
                  have HNX := Lib.hid (show mx mm (ask (cols ((rs.map Rw.d).map cel) ss j).f j 0 (cel r.d)) = mx m2 (ask (cols ((rs.map Rw.d).map cel) ss j).f j (pos (cel r.d) (q + 1)) ((cel r.d).drop (q + 1))) by
                    rw [HASK.out, HAD.out, if_neg (by rw [HSN.out]; show ¬ j < a + (sp : Int).toNat - 1; omega), if_neg (by rw [HSN.out]; show ¬ a + (sp : Int).toNat - 1 = j; omega), HPS.out, HSN.out]
                    rfl)
                  go_wp2_with fail
                  rw [← hA2]
                  go_roundg (r.cs.length - (q + 1))
                  case rel => exact ⟨q + 1, m2, by omega, by go_num, by rw [HPS.out]; go_num, by go_num, by go_num, HNX.out, andAlloc HBQ.out _⟩
                  case measure => omega
            · obtain rfl : q = r.cs.length := by omega
              have HNX := Lib.hid (show colM (cols ((rs.map Rw.d).map cel) ss j).f j none ((rs.map Rw.d).map cel) = colM (cols ((rs.map Rw.d).map cel) ss j).f j m2 (((rs.map Rw.d).map cel).drop (i + 1)) by
                rw [HCM.out, colM_drop (r := cel r.d) (by rw [List.getElem?_map, List.getElem?_map, HRK.out]; rfl), HASK.out, List.drop_of_length_le (by unfold cel; show ((r.cs.map Cl.d).map _).length ≤ _; simp)]
                show _ = colM _ j m2 _
                rw [show ask (cols ((rs.map Rw.d).map cel) ss j).f j (pos (cel r.d) r.cs.length) [] = none from rfl, mx_right])
              go_wp2_with fail
              try rw [Exit.noGoto_normal]
              try simp only [go_sem]
              go_wp2_with fail
              go_roundw
              case rel => exact ⟨i + 1, m2, by omega, by go_num, rfl, rfl, HNX.out, andThen HBW.out HBQ.out⟩
              case measure => simp [intOf]; omega
        · obtain rfl : i = m := by omega
          have HCE := Lib.hid (show colM (cols ((rs.map Rw.d).map cel) ss j).f j none ((rs.map Rw.d).map cel) = mm by
            rw [HCM.out, List.drop_of_length_le (by simp [HM.out])]
            rfl)
          have HJ2 := Lib.hid (HJ.out.below HBW.out)
          obtain ⟨W1, rfl⟩ : ∃ W, W = wr := ⟨_, rfl⟩
          have hls := (cols_len ((rs.map Rw.d).map cel) ss j).2.2
          have hlw := (cols_len ((rs.map Rw.d).map cel) ss j).1
          have hld := (cols_len ((rs.map Rw.d).map cel) ss j).2.1
          rw [HN.out] at hls
          obtain ⟨gk, ck, rfl, hck⟩ := HJ2.out.s0 (by omega)
          have HLN := Lib.hid (And.intro hls (And.intro hlw hld))
          have hs0 : W1.cell? ⟨gs, 0, none⟩ = some (.slice (some ⟨gk, 0, none⟩) n ck) := (HJ2.out.blk.cell 0).trans (by rw [hls]; rfl)
          have hw7 : IntKind.i64.wrap ((j : Int) + 1) = (j : Int) + 1 := IntWalk.i64_in _ (by omega)
          clear hls hlw hld hcm hbw
          rcases mm with _ | y
          · try simp only [Option.getD_none, Option.isSome_none]
            have hjn2 : (j : Int) + 1 < (n : Int) := by omega
            have htn : ((j : Int) + 1).toNat = j + 1 := by omega
            have HT := Lib.hid (show W1.there gk ((j + 1) * 5) 5 from own_here HJ2.out.os (j + 1) (by rw [HLN.out.1]; omega))
            obtain ⟨u0, k0⟩ := Option.isSome_iff_exists.1 (HT.out 0 (by decide)).1
            obtain ⟨u1, k1⟩ := Option.isSome_iff_exists.1 (HT.out 1 (by decide)).1
            obtain ⟨u2, k2⟩ := Option.isSome_iff_exists.1 (HT.out 2 (by decide)).1
            obtain ⟨u3, k3⟩ := Option.isSome_iff_exists.1 (HT.out 3 (by decide)).1
            obtain ⟨u4, k4⟩ := Option.isSome_iff_exists.1 (HT.out 4 (by decide)).1
            have f0 := (HT.out 0 (by decide)).2
            have f1 := (HT.out 1 (by decide)).2
            have f2 := (HT.out 2 (by decide)).2
            have f3 := (HT.out 3 (by decide)).2
            have f4 := (HT.out 4 (by decide)).2
            rw [Nat.add_zero] at k0 f0
            go_upto_region 31 with fail
            clear k0 k1 k2 k3 k4 f0 f1 f2 f3 f4
            have HJ4 := Lib.hid (MJ.skip (k := j + 1) (x := gz) HJ2.out (by rw [HLN.out.1]; omega))
            have HNX := Lib.hid (cols_none HCE.out)
            clear hs0
            generalize hW3 : W1.setCells gk ((j + 1) * 5) gz.vals = W3 at HJ4
            have hW3' : ((((W1.setCell ⟨gk, (j + 1) * 5, none⟩ (.int .i64 0)).setCell ⟨gk, (j + 1) * 5 + 1, none⟩ (.int .i64 0)).setCell ⟨gk, (j + 1) * 5 + 2, none⟩ (.int .i64 0)).setCell ⟨gk, (j + 1) * 5 + 3, none⟩ (.int .i64 0)).setCell ⟨gk, (j + 1) * 5 + 4, none⟩ (.int .i64 0) = W3 := hW3
            try rw [hW3']
            clear hW3 hW3'
            have hq0 : W3.cell? ⟨gs, 1, none⟩ = some vw := (HJ4.out.blk.cell 1).trans rfl
            have hq1 := HJ4.out.blk.free 1
            have hq2 := HJ4.out.blk.lt
            have hsz := HJ4.out.low.size
            have hown1 := Lib.hid (show (W3.alloc (.cells #[.int .i64 0] 3)).ownsRow w1.heap.size 3 1 vw j ((cols ((rs.map Rw.d).map cel) ss j).w.map intV) by have := HJ4.out.ow.alloc (.cells #[.int .i64 0] 3); rw [HLN.out.2.1] at this; exact this)
            go_upto_region 32 with (at_builtin; refine wpList_push2 rfl (.tmp 125) (.tmp 127) 26 rfl w1.heap.size 3 (.int .i64 0) 1 8 Tryz.underlying26 info_i rfl (by decide) (by decide) vw j ((cols ((rs.map Rw.d).map cel) ss j).w.map intV) rfl hown1.out (by simp; omega) ⟨W3.heap.size, 0, none⟩ 1 [.int .i64 0] rfl rfl (new_cells (Blk.new _ _ _)) (by simp [Value.oneCell']) (by omega) ?_; intro v8 W8 hown8 hg8 _; obtain ⟨A8, c8, rfl, _⟩ := SegS.own (S := fun _ => True) hown8 (fun _ _ => trivial); have hb8 := HJ4.out.bW hg8; have y1 := (hb8.cell 1).trans rfl; have y2 := hb8.free 1; have y3 := hb8.lt)
            have HJ8 := Lib.hid (MJ.pushW (x := 0) HJ4.out (by rw [HLN.out.2.1]; exact hown8) hg8)
            clear hq0 hq1 hq2 hown8 hg8 hb8 y1 y2 y3
            generalize W8.setCell ⟨gs, 1, none⟩ (.slice A8 (j + 1) c8) = W9 at *
            have hq0 : W9.cell? ⟨gs, 2, none⟩ = some vd := (HJ8.out.blk.cell 2).trans rfl
            have hq1 := HJ8.out.blk.free 2
            have hq2 := HJ8.out.blk.lt
            have hsz9 := HJ8.out.low.size
            have hown2 := Lib.hid (show (W9.alloc (.cells #[.bool true] 4)).ownsRow w1.heap.size 4 1 vd j ((cols ((rs.map Rw.d).map cel) ss j).g.map boolV) by have := HJ8.out.od.alloc (.cells #[.bool true] 4); rw [HLN.out.2.2] at this; exact this)
            go_wp2_with (at_builtin; refine wpList_push2 rfl (.tmp 135) (.tmp 138) 27 rfl w1.heap.size 4 (.bool false) 1 1 Tryz.underlying27 info_b rfl (by decide) (by decide) vd j ((cols ((rs.map Rw.d).map cel) ss j).g.map boolV) rfl hown2.out (by simp; omega) ⟨W9.heap.size, 0, none⟩ 1 [.bool true] rfl rfl (new_cells (Blk.new _ _ _)) (by simp [Value.oneCell']) (by omega) ?_; intro vb Wb hownb hgb _; obtain ⟨Ab, cb, rfl, _⟩ := SegS.own (S := fun _ => True) hownb (fun _ _ => trivial); have hbb := HJ8.out.bD hgb; have y1 := (hbb.cell 2).trans rfl; have y2 := hbb.free 2; have y3 := hbb.lt)
            have HJb := Lib.hid (MJ.pushD (x := true) HJ8.out (by rw [HLN.out.2.2]; exact hownb) hgb)
            clear hq0 hq1 hq2 hownb hgb hbb y1 y2 y3
            go_roundw
            case rel => exact ⟨j + 1, _, _, _, by omega, by go_num, by rw [HNX.out]; exact HJb.out⟩
            case measure => simp [intOf]; omega
          · try simp only [Option.getD_some, Option.isSome_some]
            have HNX := Lib.hid (cols_some HCE.out)
            clear hs0
            go_upto_region 31 with fail
            have hq0 : W1.cell? ⟨gs, 1, none⟩ = some vw := (HJ2.out.blk.cell 1).trans rfl
            have hq1 := HJ2.out.blk.free 1
            have hq2 := HJ2.out.blk.lt
            have hsz := HJ2.out.low.size
            have hown1 := Lib.hid (show (W1.alloc (.cells #[.int .i64 y] 3)).ownsRow w1.heap.size 3 1 vw j ((cols ((rs.map Rw.d).map cel) ss j).w.map intV) by have := HJ2.out.ow.alloc (.cells #[.int .i64 y] 3); rw [HLN.out.2.1] at this; exact this)
            go_upto_region 32 with (at_builtin; refine wpList_push2 rfl (.tmp 125) (.tmp 127) 26 rfl w1.heap.size 3 (.int .i64 0) 1 8 Tryz.underlying26 info_i rfl (by decide) (by decide) vw j ((cols ((rs.map Rw.d).map cel) ss j).w.map intV) rfl hown1.out (by simp; omega) ⟨W1.heap.size, 0, none⟩ 1 [.int .i64 y] rfl rfl (new_cells (Blk.new _ _ _)) (by simp [Value.oneCell']) (by omega) ?_; intro v8 W8 hown8 hg8 _; obtain ⟨A8, c8, rfl, _⟩ := SegS.own (S := fun _ => True) hown8 (fun _ _ => trivial); have hb8 := HJ2.out.bW hg8; have y1 := (hb8.cell 1).trans rfl; have y2 := hb8.free 1; have y3 := hb8.lt)
            have HJ8 := Lib.hid (MJ.pushW (x := y) HJ2.out (by rw [HLN.out.2.1]; exact hown8) hg8)
            clear hq0 hq1 hq2 hown8 hg8 hb8 y1 y2 y3
            generalize W8.setCell ⟨gs, 1, none⟩ (.slice A8 (j + 1) c8) = W9 at *
            have hq0 : W9.cell? ⟨gs, 2, none⟩ = some vd := (HJ8.out.blk.cell 2).trans rfl
            have hq1 := HJ8.out.blk.free 2
            have hq2 := HJ8.out.blk.lt
            have hsz9 := HJ8.out.low.size
            have hown2 := Lib.hid (show (W9.alloc (.cells #[.bool false] 4)).ownsRow w1.heap.size 4 1 vd j ((cols ((rs.map Rw.d).map cel) ss j).g.map boolV) by have := HJ8.out.od.alloc (.cells #[.bool false] 4); rw [HLN.out.2.2] at this; exact this)
            go_wp2_with (at_builtin; refine wpList_push2 rfl (.tmp 135) (.tmp 138) 27 rfl w1.heap.size 4 (.bool false) 1 1 Tryz.underlying27 info_b rfl (by decide) (by decide) vd j ((cols ((rs.map Rw.d).map cel) ss j).g.map boolV) rfl hown2.out (by simp; omega) ⟨W9.heap.size, 0, none⟩ 1 [.bool false] rfl rfl (new_cells (Blk.new _ _ _)) (by simp [Value.oneCell']) (by omega) ?_; intro vb Wb hownb hgb _; obtain ⟨Ab, cb, rfl, _⟩ := SegS.own (S := fun _ => True) hownb (fun _ _ => trivial); have hbb := HJ8.out.bD hgb; have y1 := (hbb.cell 2).trans rfl; have y2 := hbb.free 2; have y3 := hbb.lt)
            have HJb := Lib.hid (MJ.pushD (x := false) HJ8.out (by rw [HLN.out.2.2]; exact hownb) hgb)
            clear hq0 hq1 hq2 hownb hgb hbb y1 y2 y3
            go_roundw
            case rel => exact ⟨j + 1, _, _, _, by omega, by go_num, by rw [HNX.out]; exact HJb.out⟩
            case measure => simp [intOf]; omega
    · obtain rfl : j = n - 1 := by omega
      have hC : cols ((rs.map Rw.d).map cel) ss (n - 1) = mdC ss (rs.map Rw.d) := by unfold mdC; rw [HN.out]
      rw [hC] at hJ
      have hlw : (mdC ss (rs.map Rw.d)).w.length = n - 1 := by rw [← hC]; exact (cols_len _ ss _).1
      have HMD := Lib.hid (show mdE ss (rs.map Rw.d) = if (mdC ss (rs.map Rw.d)).w.all dimB = true then 0 else 20 from if_pos HE.out)
      have HJ := Lib.hid hJ
      obtain ⟨W1, rfl⟩ : ∃ W, W = wr := ⟨_, rfl⟩
      clear hJ hC
      generalize hCC : mdC ss (rs.map Rw.d) = C at HMD HJ hlw
      have HCC := Lib.hid hCC
      clear hCC
      obtain ⟨gw, cw, rfl, hcw⟩ := own_some HJ.out.ow (by omega)
      have hs1 : W1.cell? ⟨gs, 1, none⟩ = some (.slice (some ⟨gw, 0, none⟩) (n - 1) cw) := (HJ.out.blk.cell 1).trans (by rw [hlw]; rfl)
      have hcells : ∀ i x, C.w[i]? = some x → W1.cell? ⟨gw, i, none⟩ = some (.int .i64 x) := fun i x hx => by
        have hi : i < C.w.length := by
          rcases Nat.lt_or_ge i C.w.length with h | h
          · exact h
          · rw [List.getElem?_eq_none h] at hx; cases hx
        rw [HJ.out.ow.cellAt i (by omega), List.getElem?_map, hx]
        rfl
      have HCE := Lib.hid hcells
      have HLW := Lib.hid hlw
      clear hcells hlw
      go_wp2_with fail
      clear hs1
      go_loopw [148] (fun v148 wr => ∃ i : Nat, i ≤ n - 1 ∧ v148 = .int .i64 (i : Int) ∧ (C.w.take i).all dimB = true ∧ Below W1.heap.size W1 wr) (fun v148 _ => n - 1 - (intOf v148).toNat)
      case atStart => exact ⟨0, by omega, rfl, by simp, Below.refl _ _⟩
      case round =>
        obtain ⟨i, hi, rfl, hall, hbw⟩ := hrel
        have HBW := Lib.hid hbw
        clear hbw
        have HAL := Lib.hid hall
        clear hall
        by_cases hlt2 : i < n - 1
        · obtain ⟨x, hx⟩ := get_some (l := C.w) (i := i) (by rw [HLW.out]; exact hlt2)
          have hcx : wr.cell? ⟨gw, i, none⟩ = some (.int .i64 x) := (HBW.out.cell (p := ⟨gw, i, none⟩) (HJ.out.ow.lt gw rfl).2).trans (HCE.out i x hx)
          have hii : (i : Int) < ((n - 1 : Nat) : Int) := by omega
          have HX := Lib.hid hx
          clear hx
          cases hd : dimB x
          · have HD := Lib.hid hd
            have HBAD := Lib.hid (show mdE ss (rs.map Rw.d) = 20 by
              rw [HMD.out, if_neg]
              intro h
              have h1 := List.all_eq_true.1 h x (List.mem_of_getElem? HX.out)
              rw [HD.out] at h1
              cases h1)
            clear hd
            go_wp2_with (go_at_call 73; refine (dimen_al _ _).mono ?_; rintro e w' ⟨rfl, rfl⟩; rw [HD.out])
            go_returns
            exact MdOut.no HBAD.out (by decide) (andThen (andThen HB1.out HJ.out.low) HBW.out)
          · have HD := Lib.hid hd
            clear hd
            go_wp2_with (go_at_call 73; refine (dimen_al _ _).mono ?_; rintro e w' ⟨rfl, rfl⟩; rw [HD.out])
            go_roundw
            case rel => exact ⟨i + 1, by omega, by go_num, by rw [List.take_add_one, HX.out, List.all_append, HAL.out]; simp [HD.out], HBW.out⟩
            case measure => simp [intOf]; omega
        · have HG := Lib.hid (show mdE ss (rs.map Rw.d) = 0 by
            rw [HMD.out, if_pos]
            have := HAL.out
            rwa [List.take_of_length_le (by rw [HLW.out]; omega)] at this)
          go_wp2_with fail
          go_returns
          show MdOutC (mdE ss (rs.map Rw.d)) (mdC ss (rs.map Rw.d)) w _ _
          rw [HCC.out]
          exact MdOut.yes HG.out (andThen (andThen HB1.out HJ.out.low) HBW.out) HB1.out.size (HJ.out.below HBW.out)
theorem made_al (A : Option Addr) (ss : List G) (c : Nat) (B : Option Addr) (rs : List Rw) (k : Nat) (w : World) (hS : Row w A ss) (hR : RsOk w (fun _ => True) B k rs) (h63 : ss.length ≤ maxLen) :
    Calls Tryz.prog 34 #[.slice A ss.length c, .slice B rs.length k] w (MdOut ss (rs.map Rw.d) w) := by
  by_cases hE : ckE ss (rs.map Rw.d) = 0
  · exact made_go A ss c B rs k w hS hR h63 hE
  · exact made_bad A ss c B rs k w hS hR h63 hE
end Go.Proofs.YtoboecenlangmaaGreat.Al
end
section
namespace Go.Proofs.YtoboecenlangmaaGreat.Si
open Go.ChangeShapes Go.WideShapes Go.ChangeAt Go.RowKit
open Me
set_option linter.unusedVariables false
set_option linter.unusedSimpArgs false

theorem ret_b {a b : Bool} (h : a = b) : Ending.returned (.bool a) = .returned (.bool b) := by rw [h]
theorem get_some {α : Type} {l : List α} {k : Nat} (h : k < l.length) : ∃ x, l[k]? = some x := ⟨l[k], List.getElem?_eq_getElem h⟩
theorem seg_get {w : World} {B : Nat} {A : Option Addr} {xs : List Value} (h : Seg w B A xs) {k : Nat} {u : Value} (hk : xs[k]? = some u) : ∃ b off : Nat, A = some ⟨b, off, none⟩ ∧ b < B ∧ w.cell? ⟨b, off + k, none⟩ = some u := by
  obtain ⟨b, off, hA, hb, hc⟩ := h.open_ (by intro e; rw [e] at hk; simp at hk)
  exact ⟨b, off, hA, hb, hc k u hk⟩
set_option maxRecDepth 100000 in
theorem same_ints (A1 A2 : Option Addr) (l1 l2 : List Int) (c1 c2 : Nat) (w : World) (h1 : l1.length ≤ 2097152) (h2 : l2.length ≤ 2097152) (hs1 : Seg w w.heap.size A1 (l1.map (Value.int .i64))) (hs2 : Seg w w.heap.size A2 (l2.map (Value.int .i64))) :
    Calls Tryz.prog 11 #[.slice A1 l1.length c1, .slice A2 l2.length c2] w fun e w' => e = .returned (.bool (decide (l1 = l2))) ∧ Below w.heap.size w w' := by
  by_cases hl : (l1.length : Int) = l2.length
  · have hl' : l1.length = l2.length := by omega
    have HS := Lib.hid (And.intro hs1 hs2)
    have HL := Lib.hid hl'
    rw [← hl']
    clear hs1 hs2 hl hl'
    go_enter Tryz.func11, Tryz.ntmps11
    go_wp2_with fail
    go_loopw [5] (fun v5 wr => ∃ k nq : Nat, k ≤ l1.length ∧ v5 = .int .i64 (k : Int) ∧ l1.take k = l2.take k ∧ wr = w.drewN nq) (fun v5 _ => l1.length - (intOf v5).toNat)
    case atStart => exact ⟨0, 0, by omega, rfl, by simp, rfl⟩
    case round =>
      obtain ⟨k, nq, hk, rfl, heq, hwr⟩ := hrel
      have HWR := Lib.hid hwr
      have HEQ := Lib.hid heq
      by_cases hlt : k < l1.length
      · obtain ⟨x, hx⟩ := get_some hlt
        obtain ⟨y, hy⟩ := get_some (l := l2) (k := k) (by rw [← HL.out]; exact hlt)
        obtain ⟨b1, o1, rfl, hb1, hc1⟩ := seg_get HS.out.1 (k := k) (u := Value.int .i64 x) (by rw [List.getElem?_map, hx]; rfl)
        obtain ⟨b2, o2, rfl, hb2, hc2⟩ := seg_get HS.out.2 (k := k) (u := Value.int .i64 y) (by rw [List.getElem?_map, hy]; rfl)
        have hc1' : wr.cell? ⟨b1, o1 + k, none⟩ = some (.int .i64 x) := by rw [hwr]; exact hc1
        have hc2' : wr.cell? ⟨b2, o2 + k, none⟩ = some (.int .i64 y) := by rw [hwr]; exact hc2
        have HXY := Lib.hid (And.intro hx hy)
        have hlti : (k : Int) < (l1.length : Int) := by omega
        clear hc1 hc2 hwr heq hx hy
        by_cases hxy : x = y
        · subst hxy
          go_wp2_with fail
          go_quiet (fail)
          go_wp2_with fail
          go_roundw
          case rel =>
            refine ⟨k + 1, _, by omega, by go_num, ?_, by rw [HWR.out, World.drewN_drewN]⟩
            rw [List.take_add_one, List.take_add_one, HEQ.out, HXY.out.1, HXY.out.2]
          case measure => simp [intOf]; omega
        · have HN := Lib.hid hxy
          go_wp2_with fail
          go_quiet (fail)
          go_wp2_with fail
          go_ret
          refine ⟨?_, by rw [HWR.out, World.drewN_drewN]; exact below_drewN (Below.refl _ _) _⟩
          refine ret_b (decide_eq_false fun e => HN.out ?_).symm
          have := HXY.out.1
          rw [e, HXY.out.2] at this
          injection this with this
          exact this.symm
      · obtain rfl : k = l1.length := by omega
        go_wp2_with fail
        go_ret
        refine ⟨?_, below_drewN (Below.refl _ _) _⟩
        refine ret_b (decide_eq_true ?_).symm
        have := HEQ.out
        rw [List.take_length, HL.out, List.take_length] at this
        exact this
  · have HL := Lib.hid hl
    clear hs1 hs2
    go_enter Tryz.func11, Tryz.ntmps11
    go_wp2_with fail
    go_ret
    refine ⟨ret_b (decide_eq_false fun e => HL.out (by rw [e])).symm, Below.refl _ _⟩
end Go.Proofs.YtoboecenlangmaaGreat.Si
end
section
namespace Go.Proofs.YtoboecenlangmaaGreat.Al
open Go.ChangeShapes Go.WideShapes Go.ChangeAt Go.RowKit
open Me Np No
open Gl (G Row)
set_option linter.unusedVariables false
set_option linter.unusedSimpArgs false

def WdOut (E : Int) (C : Co) (w : World) (e : Ending) (w' : World) : Prop :=
  ∃ A1 n1 c1 A2 n2 c2, e = .returned (.tuple #[.slice A1 n1 c1, .slice A2 n2 c2, .int .i64 E]) ∧ Below w.heap.size w w' ∧
    ((E = 0 ∧ w'.ownsRow w.heap.size 3 1 (.slice A1 n1 c1) n1 (C.w.map intV) ∧ n1 = C.w.length ∧ w'.ownsRow w.heap.size 4 1 (.slice A2 n2 c2) n2 (C.g.map boolV) ∧ n2 = C.g.length) ∨ (¬ E = 0 ∧ A1 = none ∧ n1 = 0 ∧ c1 = 0 ∧ A2 = none ∧ n2 = 0 ∧ c2 = 0))
theorem base_of {w : World} {base base' : Nat} {e : TypeId} {size n : Nat} {v : Value} {xs : List Value} (h : w.ownsRow base e size v n xs) (hb : base' ≤ base) : w.ownsRow base' e size v n xs := by
  rcases h with ⟨h1, h2⟩
  refine ⟨h1, ?_⟩
  rcases h2 with h2 | ⟨g, cap, cur, h3, h4, h5⟩
  · exact .inl h2
  · exact .inr ⟨g, cap, cur, h3, by omega, h5⟩
theorem widths_of (A : Option Addr) (n c : Nat) (B : Option Addr) (m k : Nat) (w : World) (E : Int) (C : Co) (h : Calls Tryz.prog 34 #[.slice A n c, .slice B m k] w (MdOutC E C w)) :
    Calls Tryz.prog 8 #[.slice A n c, .slice B m k] w (WdOut E C w) := by
  have H := Lib.hid h
  clear h
  by_cases hE : E = 0
  · have q : (E != 0) = false := by simp [hE]
    have HE := Lib.hid hE
    clear hE
    go_enter Tryz.func8, Tryz.ntmps8
    go_wp2_with fail
    refine H.out.mono ?_
    rintro e w1 ⟨v, rfl, hb1, hj0⟩
    obtain ⟨w0, g, vs, vw, vd, hw0, rfl, hj⟩ := hj0 HE.out
    clear hj0
    obtain ⟨A1, c1, rfl, _⟩ := SegS.own (S := fun _ => True) hj.ow (fun _ _ => trivial)
    obtain ⟨A2, c2, rfl, _⟩ := SegS.own (S := fun _ => True) hj.od (fun _ _ => trivial)
    have HJ := Lib.hid (And.intro (base_of hj.ow hw0) (base_of hj.od hw0))
    have HB := Lib.hid hb1
    have k1 : w1.cell? ⟨g, 1, none⟩ = some (.slice A1 C.w.length c1) := (hj.blk.cell 1).trans rfl
    have k2 : w1.cell? ⟨g, 2, none⟩ = some (.slice A2 C.g.length c2) := (hj.blk.cell 2).trans rfl
    clear hj hb1
    go_upto_region 4 with fail
    go_quiet (fail)
    go_wp2_with fail
    go_returns
    exact ⟨A1, _, c1, A2, _, c2, by rw [HE.out]; rfl, below_drewN HB.out _, .inl ⟨HE.out, HJ.out.1, rfl, HJ.out.2, rfl⟩⟩
  · have q : (E != 0) = true := by simp [hE]
    have HE := Lib.hid hE
    clear hE
    go_enter Tryz.func8, Tryz.ntmps8
    go_wp2_with fail
    refine H.out.mono ?_
    rintro e w1 ⟨v, rfl, hb1, _⟩
    go_wp2_with fail
    go_returns
    exact ⟨none, 0, 0, none, 0, 0, rfl, hb1, .inr ⟨HE.out, rfl, rfl, rfl, rfl, rfl, rfl⟩⟩
theorem widths_al (A : Option Addr) (ss : List G) (c : Nat) (B : Option Addr) (rs : List Rw) (k : Nat) (w : World) (hS : Row w A ss) (hR : RsOk w (fun _ => True) B k rs) (h63 : ss.length ≤ maxLen) :
    Calls Tryz.prog 8 #[.slice A ss.length c, .slice B rs.length k] w (WdOut (mdE ss (rs.map Rw.d)) (mdC ss (rs.map Rw.d)) w) :=
  widths_of A ss.length c B rs.length k w _ _ (made_al A ss c B rs k w hS hR h63)
theorem num21 (x : Int) (w : World) : Calls Tryz.prog 10 #[.int .i64 x] w fun e w' => e = .returned (.int .i64 x) ∧ w = w' := by
  go_enter Tryz.func10, Tryz.ntmps10
  go_wp2
  go_ret
  exact ⟨rfl, rfl⟩
def KnP (x : Int) (w : World) (e : Ending) (w' : World) : Prop := ∃ g, e = .returned (.slice (some ⟨g, 0, none⟩) 1 1) ∧ LsOk w' (fun _ => True) (some ⟨g, 0, none⟩) 1 [kernN x] ∧ Below w.heap.size w w'
section
attribute [local go_sem ↓] bldN_eq
theorem kern_ok (w : World) (x : Int) : LsOk (w.alloc (.cells (ncs (kernN x)).toArray 101)) (fun _ => True) (some ⟨w.heap.size, 0, none⟩) 1 [kernN x] :=
  ⟨by simp, by simp, (by intro h; cases h), .inr ⟨w.heap.size, 0, rfl, by simp, trivial, fun j u hu => by rw [Nat.zero_add, (Blk.new w _ _).cell j]; simpa using hu⟩⟩
set_option maxHeartbeats 1000000 in
set_option maxRecDepth 100000 in
theorem kern5 (w : World) : Calls Tryz.prog 38 #[.int .i64 5] w (KnP 327680 w) := by
  have hb1 : ∀ w, (bldN #[(0, .int .i64 8), (3, .int .i64 327680)]).run Tryz.prog w = .ok (.agg (nc (kernN 327680))) w := fun w => by rw [← bldN_eq]; exact run_build w 101 _ _ (by kernel_rfl)
  go_enter Tryz.func38, Tryz.ntmps38
  go_wp2_with (first | (refine wpList_ex (o := ⟨some 6, _, _, _, _, _⟩) (v := .slice (some ⟨w.heap.size, 0, none⟩) 1 1) (w' := w.alloc (.cells ([kernN 327680].flatMap ncs).toArray 101)) rfl (by kernel_rfl) ?_))
  go_ret
  exact ⟨_, rfl, kern_ok w 327680, andAlloc (Below.refl _ _) _⟩
set_option maxHeartbeats 1000000 in
set_option maxRecDepth 100000 in
theorem kern3 (w : World) : Calls Tryz.prog 38 #[.int .i64 3] w (KnP 196608 w) := by
  have hb1 : ∀ w, (bldN #[(0, .int .i64 8), (3, .int .i64 196608)]).run Tryz.prog w = .ok (.agg (nc (kernN 196608))) w := fun w => by rw [← bldN_eq]; exact run_build w 101 _ _ (by kernel_rfl)
  go_enter Tryz.func38, Tryz.ntmps38
  go_wp2_with (first | (refine wpList_ex (o := ⟨some 6, _, _, _, _, _⟩) (v := .slice (some ⟨w.heap.size, 0, none⟩) 1 1) (w' := w.alloc (.cells ([kernN 196608].flatMap ncs).toArray 101)) rfl (by kernel_rfl) ?_))
  go_ret
  exact ⟨_, rfl, kern_ok w 196608, andAlloc (Below.refl _ _) _⟩
set_option maxHeartbeats 1000000 in
set_option maxRecDepth 100000 in
theorem kern2 (w : World) : Calls Tryz.prog 38 #[.int .i64 2] w (KnP 131072 w) := by
  have hb1 : ∀ w, (bldN #[(0, .int .i64 8), (3, .int .i64 131072)]).run Tryz.prog w = .ok (.agg (nc (kernN 131072))) w := fun w => by rw [← bldN_eq]; exact run_build w 101 _ _ (by kernel_rfl)
  go_enter Tryz.func38, Tryz.ntmps38
  go_wp2_with (first | (refine wpList_ex (o := ⟨some 6, _, _, _, _, _⟩) (v := .slice (some ⟨w.heap.size, 0, none⟩) 1 1) (w' := w.alloc (.cells ([kernN 131072].flatMap ncs).toArray 101)) rfl (by kernel_rfl) ?_))
  go_ret
  exact ⟨_, rfl, kern_ok w 131072, andAlloc (Below.refl _ _) _⟩
set_option maxHeartbeats 1000000 in
set_option maxRecDepth 100000 in
theorem kern7 (w : World) : Calls Tryz.prog 38 #[.int .i64 7] w (KnP 458752 w) := by
  have hb1 : ∀ w, (bldN #[(0, .int .i64 8), (3, .int .i64 458752)]).run Tryz.prog w = .ok (.agg (nc (kernN 458752))) w := fun w => by rw [← bldN_eq]; exact run_build w 101 _ _ (by kernel_rfl)
  go_enter Tryz.func38, Tryz.ntmps38
  go_wp2_with (first | (refine wpList_ex (o := ⟨some 6, _, _, _, _, _⟩) (v := .slice (some ⟨w.heap.size, 0, none⟩) 1 1) (w' := w.alloc (.cells ([kernN 458752].flatMap ncs).toArray 101)) rfl (by kernel_rfl) ?_))
  go_ret
  exact ⟨_, rfl, kern_ok w 458752, andAlloc (Below.refl _ _) _⟩
end
/-- The law's own rows. -/
def kRow (g a b : Nat) (x y : Int) : Rw := ⟨some ⟨g, 0, none⟩, 2, [⟨some ⟨a, 0, none⟩, 1, [kernN x], 1⟩, ⟨some ⟨b, 0, none⟩, 1, [kernN y], 1⟩], none, 0, []⟩
def kSk : List G := [gz, ⟨65536, 0, 0, 0, 0⟩, gz]
theorem kRow_ok {w : World} {g a b : Nat} {x y : Int} (h : Blk w g 87 #[.slice (some ⟨a, 0, none⟩) 1 1, .int .i64 1, .slice (some ⟨b, 0, none⟩) 1 1, .int .i64 1]) (ha : LsOk w (fun _ => True) (some ⟨a, 0, none⟩) 1 [kernN x]) (hb : LsOk w (fun _ => True) (some ⟨b, 0, none⟩) 1 [kernN y]) : (kRow g a b x y).Ok w (fun _ => True) := by
  refine ⟨by simp [kRow], by simp [kRow], .inr ⟨g, 0, rfl, h.lt, trivial, fun j u hu => ?_⟩, ?_, ⟨by simp [kRow], by simp [kRow], fun _ => rfl, .inl rfl⟩⟩
  · rw [Nat.zero_add, h.cell j]
    simpa [kRow, Cl.vals] using hu
  · intro z hz
    rcases List.mem_cons.1 hz with rfl | hz
    · exact ha
    · obtain rfl := List.mem_singleton.1 hz
      exact hb
theorem k_data (w : World) (g1 a b g2 c d : Nat) : mdE kSk ([kRow g1 a b 327680 196608, kRow g2 c d 131072 458752].map Rw.d) = 0 ∧ (mdC kSk ([kRow g1 a b 327680 196608, kRow g2 c d 131072 458752].map Rw.d)).w = [327680, 458752] ∧ (mdC kSk ([kRow g1 a b 327680 196608, kRow g2 c d 131072 458752].map Rw.d)).g = [false, false] := by
  obtain ⟨e1, e2, e3, e4⟩ := kern_four w
  have hd : [kRow g1 a b 327680 196608, kRow g2 c d 131072 458752].map Rw.d = [([([kernN 327680], 1), ([kernN 196608], 1)], []), ([([kernN 131072], 1), ([kernN 458752], 1)], [])] := rfl
  rw [hd]
  have hc0 : chk [] = 0 := by decide
  have hck : ckE kSk [([([kernN 327680], 1), ([kernN 196608], 1)], []), ([([kernN 131072], 1), ([kernN 458752], 1)], [])] = 0 := by
    have hg : kSk.all G.ok = true := by decide
    unfold ckE
    rw [if_neg (by decide), if_pos hg]
    simp only [rowsE, rowErr, celE, e1, e2, e3, e4, hc0]
    simp [kSk]
  have hcc : ([([([kernN 327680], 1), ([kernN 196608], 1)], []), ([([kernN 131072], 1), ([kernN 458752], 1)], [])] : List RD).map cel = [[(327680, 1), (196608, 1)], [(131072, 1), (458752, 1)]] := by
    simp [cel, e1, e2, e3, e4]
  have hco : mdC kSk [([([kernN 327680], 1), ([kernN 196608], 1)], []), ([([kernN 131072], 1), ([kernN 458752], 1)], [])] = ⟨[327680, 458752], [false, false], kSk⟩ := by
    unfold mdC
    rw [hcc]
    rfl
  refine ⟨?_, by rw [hco], by rw [hco]⟩
  unfold mdE
  rw [if_pos hck, hco]
  rfl
end Go.Proofs.YtoboecenlangmaaGreat.Al
end
section
namespace Go.Proofs.YtoboecenlangmaaGreat.Al
open Go.ChangeShapes Go.WideShapes Go.ChangeAt Go.RowKit
open Me Np No
open Gl (G Row)
set_option linter.unusedVariables false
set_option linter.unusedSimpArgs false

/-- The row, as far as it is written over. -/
structure AF (w : World) (base b : Nat) (u : Value) (n k : Nat) (wr : World) : Prop where
  blk : Blk wr b 26 #[u]
  own : ∃ xs, wr.ownsRow base 3 1 u n xs ∧ ∀ j, j < k → xs[j]? = some (intV 1000)
  low : Below base w wr
/-- The same row, and v: it with k marks more. -/
structure AG (w : World) (base b : Nat) (u : Value) (n k : Nat) (v : Value) (wr : World) : Prop where
  blk : Blk wr b 26 #[u]
  own : wr.ownsRow base 3 1 v (n + k) (List.replicate n (intV 1000) ++ List.replicate k (intV 2000))
  low : Below base w wr
  all : ∀ g, u.ownBlock = some g → ∀ j, j < n → wr.cell? ⟨g, j, none⟩ = some (intV 1000)
  has : 0 < n → ∃ g c, u = .slice (some ⟨g, 0, none⟩) n c
section
variable {w wr w' : World} {base b n k : Nat} {u v v' : Value}
theorem AF.next {g c : Nat} (h : AF w base b (.slice (some ⟨g, 0, none⟩) n c) n k wr) (hk : k < n) : AF w base b (.slice (some ⟨g, 0, none⟩) n c) n (k + 1) (wr.setCell ⟨g, k, none⟩ (.int .i64 1000)) := by
  obtain ⟨xs, ho, hx⟩ := h.own
  have hl := ho.1
  have hne : (Value.slice (some ⟨g, 0, none⟩) n c).ownBlock ≠ some b := own_blk ho h.blk (by decide)
  have hgb : b ≠ g := fun e => hne (by rw [e]; rfl)
  refine ⟨h.blk.far (p := ⟨g, k, none⟩) hgb _, ⟨_, (ho.stored k (.int .i64 1000)).1, fun j hj => ?_⟩, h.low.setCell (ho.lt g rfl).1 _⟩
  by_cases hjk : j = k
  · subst hjk
    rw [List.getElem?_set_self (by omega)]
    rfl
  · rw [List.getElem?_set_ne (by omega)]
    exact hx j (by omega)
theorem AF.full (h : AF w base b u n n wr) : AG w base b u n 0 u wr := by
  obtain ⟨xs, ho, hx⟩ := h.own
  have hl := ho.1
  have e : xs = List.replicate n (intV 1000) := by
    apply List.ext_getElem?
    intro j
    rcases Nat.lt_or_ge j n with hj | hj
    · rw [hx j hj, List.getElem?_replicate, if_pos hj]
    · rw [List.getElem?_eq_none (by omega), List.getElem?_eq_none (by simp; omega)]
  rw [e] at ho
  refine ⟨h.blk, by simpa using ho, h.low, fun g hg j hj => ?_, fun hn => by obtain ⟨g, c, e, _⟩ := own_some ho hn; exact ⟨g, c, e⟩⟩
  obtain ⟨g', c, e1, _⟩ := own_some ho (by omega)
  subst e1
  have : g' = g := by simpa [Value.ownBlock] using hg
  subst this
  rw [ho.cellAt j (by omega), List.getElem?_replicate, if_pos hj]
theorem AG.push {z : Int} (h : AG w base b u n k v wr) (hz : z = 2000) (hB : base ≤ w.heap.size) (hb : base ≤ wr.heap.size)
    (ho : w'.ownsRow base 3 1 v' (n + k + 1) ((List.replicate n (intV 1000) ++ List.replicate k (intV 2000)) ++ (#[.int .i64 z] : Array Value).toList)) (hg : (wr.alloc (.cells #[.int .i64 z] 3)).grownBy w' v.ownBlock)
    (h4 : v'.ownBlock = v.ownBlock ∨ (∃ q, v'.ownBlock = some q ∧ wr.heap.size ≤ q) ∧ (wr.alloc (.cells #[.int .i64 z] 3)).grownBy w' none) : AG w base b u n (k + 1) v' w' := by
  subst hz
  have o1 := h.own.alloc (.cells #[.int .i64 2000] 3)
  have b1 := h.blk.alloc (.cells #[.int .i64 2000] 3)
  have hne := own_blk h.own h.blk (by decide)
  have ho' : w'.ownsRow base 3 1 v' (n + (k + 1)) (List.replicate n (intV 1000) ++ List.replicate (k + 1) (intV 2000)) := by
    rw [List.replicate_succ']
    rw [List.append_assoc] at ho
    exact ho
  refine ⟨(hg.block b b1.lt (Ne.symm hne)).trans b1, ho', below_grown hB (h.low.alloc hb _) hg fun q hq => (h.own.lt q hq).1, fun g hgu j hj => ?_, h.has⟩
  have c0 := h.all g hgu j hj
  have hgl : g < wr.heap.size := by
    rcases Nat.lt_or_ge g wr.heap.size with h1 | h1
    · exact h1
    · have h2 : wr.heap[g]? = none := by rw [Array.getElem?_eq_none h1]
      simp [World.cell?, h2] at c0
  have c1 : (wr.alloc (.cells #[.int .i64 2000] 3)).cell? ⟨g, j, none⟩ = some (intV 1000) := (cell_block (Below.heap_alloc wr _ g hgl) j).trans c0
  by_cases hv : v.ownBlock = some g
  · rcases h4 with h4 | ⟨_, h5⟩
    · obtain ⟨g', c, e1, _⟩ := own_some ho' (by omega)
      subst e1
      have : g' = g := by rw [hv] at h4; simpa [Value.ownBlock] using h4
      subst this
      rw [ho'.cellAt j (by omega), List.getElem?_append_left (by simpa using hj), List.getElem?_replicate, if_pos hj]
    · exact (cell_block (h5.block g (by simp; omega) (by intro e; cases e)) j).trans c1
  · exact (cell_block (hg.block g (by simp; omega) (Ne.symm hv)) j).trans c1
theorem AG.kept {y : Value} {t : TypeId} (h : AG w base b u n k v wr) (hb : base ≤ wr.heap.size) (hg : (wr.alloc (.cells #[y] t)).grownBy w' none) : AG w base b u n k v w' := by
  have hk : Below wr.heap.size wr w' := below_grown (Nat.le_refl _) (andAlloc (Below.refl _ _) _) hg (by intro q hq; cases hq)
  exact ⟨h.blk.below hk h.blk.lt, own_below h.own hk, h.low.trans (hk.mono hb), fun g hgu j hj => by
    have c0 := h.all g hgu j hj
    have hgl : g < wr.heap.size := by
      rcases Nat.lt_or_ge g wr.heap.size with h1 | h1
      · exact h1
      · have h2 : wr.heap[g]? = none := by rw [Array.getElem?_eq_none h1]
        simp [World.cell?, h2] at c0
    exact (hk.cell (p := ⟨g, j, none⟩) hgl).trans c0, h.has⟩
theorem AG.cell (h : AG w base b u n k v wr) {j : Nat} (hj : j < n + k) : ∃ g c, v = .slice (some ⟨g, 0, none⟩) (n + k) c ∧ g < wr.heap.size ∧ wr.cell? ⟨g, j, none⟩ = some (.int .i64 (if j < n then 1000 else 2000)) := by
  obtain ⟨g, c, e1, _⟩ := own_some h.own (by omega)
  have hl := h.own.1
  subst e1
  refine ⟨g, c, rfl, (h.own.lt g rfl).2, ?_⟩
  rw [h.own.cellAt j (by omega)]
  by_cases hjn : j < n
  · rw [if_pos hjn, List.getElem?_append_left (by simpa using hjn), List.getElem?_replicate, if_pos hjn]
    rfl
  · rw [if_neg hjn, List.getElem?_append_right (by simp; omega), List.getElem?_replicate, if_pos (by simp; omega)]
    rfl
end

set_option maxRecDepth 100000 in
set_option maxHeartbeats 2000000 in
theorem apart_row (w : World) (base b : Nat) (A : Option Addr) (n c : Nat) (xs : List Value) (hb : Blk w b 26 #[.slice A n c]) (ho : w.ownsRow base 3 1 (.slice A n c) n xs) (hn : n ≤ 1000) (hB : base ≤ w.heap.size) :
    Calls Tryz.prog 14 #[.slice (some ⟨b, 0, none⟩) 1 1] w fun e w' => e = .returned (.bool true) ∧ Below base w w' := by
  have HF0 := Lib.hid (show AF w base b (.slice A n c) n 0 w from ⟨hb, ⟨xs, ho, fun j hj => absurd hj (Nat.not_lt_zero _)⟩, Below.refl _ _⟩)
  clear hb ho
  go_enter Tryz.func14, Tryz.ntmps14
  go_wp2_with fail
  go_loopw [4] (fun v4 wr => (v4 = .int .i64 0 ∧ AF w base b (.slice A n c) n 0 wr) ∨ (v4 = .int .i64 1 ∧ AF w base b (.slice A n c) n n wr)) (fun v4 _ => 1 - (intOf v4).toNat)
  case atStart => exact .inl ⟨rfl, HF0.out⟩
  case round =>
    rcases hrel with ⟨rfl, hF⟩ | ⟨rfl, hF⟩
    · have HF := Lib.hid hF
      clear hF
      go_wp2_with fail
      go_loopw [5] (fun v5 wr => ∃ k : Nat, k ≤ n ∧ v5 = .int .i64 (k : Int) ∧ AF w base b (.slice A n c) n k wr) (fun v5 _ => n - (intOf v5).toNat)
      case atStart => exact ⟨0, by omega, rfl, HF.out⟩
      case round =>
        obtain ⟨k, hk, rfl, hF⟩ := hrel
        have b0 : wr.cell? ⟨b, 0, none⟩ = some (.slice A n c) := (hF.blk.cell 0).trans rfl
        have bl := hF.blk.lt
        by_cases hlt : k < n
        · obtain ⟨xs, ho, hx⟩ := hF.own
          obtain ⟨g, c', e, hcc⟩ := own_some ho (by omega)
          injection e with e1 _ e2
          subst e1 e2
          obtain ⟨x, hxk⟩ := get_some (l := xs) (i := k) (by have := ho.1; omega)
          have g0 : wr.cell? ⟨g, k, none⟩ = some x := (ho.cellAt k (by have := ho.1; omega)).trans hxk
          have g1 := ho.frozenAt k
          have g2 := (ho.lt g rfl).2
          have hki : (k : Int) < (n : Int) := by omega
          have HN := Lib.hid (hF.next hlt)
          clear hF ho hx hxk
          go_wp2_with fail
          go_roundw
          case rel => exact ⟨k + 1, by omega, by go_num, HN.out⟩
          case measure => simp [intOf]; omega
        · obtain rfl : k = n := by omega
          have HN := Lib.hid hF
          clear hF
          go_wp2_with fail
          go_roundw
          case rel => exact .inr ⟨rfl, HN.out⟩
          case measure => decide
    · have HF := Lib.hid hF.full
      have HLE := Lib.hid (Nat.le_trans hB hF.low.size)
      clear hF HF0
      go_wp2_with fail
      go_loopw [3, 6] (fun v3 v6 wr => (v6 = .int .i64 0 ∧ v3 = .slice none 0 0 ∧ base ≤ wr.heap.size ∧ AG w base b (.slice A n c) n 0 (.slice A n c) wr) ∨ (v6 = .int .i64 1 ∧ ∃ u, wr.ownsRow base 26 1 v3 1 [u] ∧ AG w base b (.slice A n c) n 40 u wr)) (fun _ v6 _ => 1 - (intOf v6).toNat)
      case atStart => exact .inl ⟨rfl, rfl, HLE.out, HF.out⟩
      case round =>
        rcases hrel with ⟨rfl, rfl, hle, hG⟩ | ⟨rfl, u, hown, hG⟩
        · have HG := Lib.hid (And.intro hle hG)
          have b0 : wr.cell? ⟨b, 0, none⟩ = some (.slice A n c) := (hG.blk.cell 0).trans rfl
          have bl := hG.blk.lt
          clear hle hG
          go_wp2_with fail
          clear b0 bl
          go_loopw [7, 8] (fun v7 v8 wr => ∃ k : Nat, k ≤ 40 ∧ v8 = .int .i64 (k : Int) ∧ base ≤ wr.heap.size ∧ AG w base b (.slice A n c) n k v7 wr) (fun _ v8 _ => 40 - (intOf v8).toNat)
          case atStart => exact ⟨0, by omega, rfl, HG.out.1, HG.out.2⟩
          case round =>
            obtain ⟨k, hk, rfl, hle, hG⟩ := hrel
            have HG := Lib.hid hG
            have HLE := Lib.hid hle
            clear hG hle
            by_cases hlt : (k : Int) < 40
            · go_wp2_with (at_builtin; refine wpList_push_at rfl _ _ 26 rfl base 3 _ 1 8 Tryz.underlying26 info_i rfl (by decide) (by decide) _ _ _ rfl HG.out.own HLE.out _ rfl rfl rfl rfl (by omega) ?_; intro v7 w7 hown7 hg7 hn7; have HG7 := Lib.hid (HG.out.push (by rfl) hB HLE.out hown7 hg7 hn7); have HL7 := Lib.hid (Nat.le_trans HLE.out (Nat.le_trans (by simp) hg7.size)); clear hown7 hg7 hn7)
              go_roundw
              case rel => exact ⟨k + 1, by omega, by go_num, HL7.out, HG7.out⟩
              case measure => simp [intOf]; omega
            · obtain rfl : k = 40 := by omega
              obtain ⟨g, c7, rfl, hgl, _⟩ := HG.out.cell (j := n) (by omega)
              go_wp2_with (at_builtin; refine wpList_push_at rfl _ _ 99 rfl base 26 _ 1 24 Tryz.underlying99 info_is rfl (by decide) (by decide) _ _ _ rfl (World.ownsRow_nil _ _ _ _) HLE.out _ rfl rfl rfl rfl (by decide) ?_; intro v3 w3 hown3 hg3 hn3; have HG3 := Lib.hid (HG.out.kept HLE.out hg3); have HO3 := Lib.hid hown3; clear hown3 hg3 hn3)
              go_roundw
              case rel => exact .inr ⟨rfl, _, HO3.out, HG3.out⟩
              case measure => decide
        · obtain ⟨g3, c3, rfl, hc3⟩ := own_some hown (by decide)
          have d0 : wr.cell? ⟨g3, 0, none⟩ = some u := hown.cellAt 0 (by decide)
          have dl := (hown.lt g3 rfl).2
          have b0 : wr.cell? ⟨b, 0, none⟩ = some (.slice A n c) := (hG.blk.cell 0).trans rfl
          have bl := hG.blk.lt
          obtain ⟨gu, cu, rfl, hgu, _⟩ := hG.cell (j := n) (by omega)
          have HG := Lib.hid hG
          clear hown hG hc3
          go_wp2_with fail
          obtain ⟨W, hW⟩ : ∃ W, W = wr := ⟨_, rfl⟩
          subst hW
          go_loopw [9] (fun v9 wr => (v9 = .int .i64 0 ∨ v9 = .int .i64 1) ∧ W = wr) (fun v9 _ => 1 - (intOf v9).toNat)
          case atStart => exact ⟨.inl rfl, rfl⟩
          case round =>
            obtain ⟨rfl | rfl, rfl⟩ := hrel
            · go_wp2_with fail
              go_loopw [10] (fun v10 wr => ∃ k : Nat, k ≤ n + 40 ∧ v10 = .int .i64 (k : Int) ∧ W = wr) (fun v10 _ => n + 40 - (intOf v10).toNat)
              case atStart => exact ⟨0, by omega, rfl, rfl⟩
              case round =>
                obtain ⟨k, hk, rfl, rfl⟩ := hrel
                by_cases hlt : k < n + 40
                · obtain ⟨g4, c4, he, _, hck⟩ := HG.out.cell hlt
                  injection he with he _ _
                  injection he with he
                  injection he with he _ _
                  subst he
                  have hki : (k : Int) < (n : Int) + 40 := by omega
                  by_cases hkn : k < n
                  · rw [if_pos hkn] at hck
                    have hkn2 : (k : Int) < (n : Int) := by omega
                    obtain ⟨g9, c9, e9⟩ := HG.out.has (by omega)
                    injection e9 with e9 _ e9'
                    subst e9 e9'
                    have h9 : W.cell? ⟨g9, k, none⟩ = some (.int .i64 1000) := HG.out.all g9 rfl k hkn
                    go_wp2_with fail
                    go_roundw
                    case rel => exact ⟨k + 1, by omega, by go_num, trivial⟩
                    case measure => simp [intOf]; omega
                  · rw [if_neg hkn] at hck
                    have hkn2 : ¬ (k : Int) < (n : Int) := by omega
                    go_wp2_with fail
                    go_roundw
                    case rel => exact ⟨k + 1, by omega, by go_num, trivial⟩
                    case measure => simp [intOf]; omega
                · obtain rfl : k = n + 40 := by omega
                  go_wp2_with fail
                  go_roundw
                  case rel => exact ⟨.inr rfl, trivial⟩
                  case measure => decide
            · go_wp2_with fail
              go_ret
              exact ⟨rfl, HG.out.low⟩
end Go.Proofs.YtoboecenlangmaaGreat.Al
end
section
namespace Go.Proofs.YtoboecenlangmaaGreat.Al
open Go.ChangeShapes Go.WideShapes Go.ChangeAt Go.RowKit
open Me Np No Pk
open Gl (G Row)
set_option linter.unusedVariables false
set_option linter.unusedSimpArgs false

theorem make_b2 (n : Nat) (hn : n ≤ 1048576) (w : World) : (Instr.makeSlice 27 (.int .i64 (n : Int)) (.int .i64 (n : Int))).run Tryz.prog w = .ok (.slice (some ⟨w.heap.size, 0, none⟩) n n) (w.alloc (.cells ((List.replicate n false).map boolV).toArray 4)) := by
  obtain ⟨i, hi, hz, hsi, hbi⟩ := info_parts info_b
  have h := run_make (P := Tryz.prog) w 27 4 i (.bool false) Tryz.underlying27 hi hz .i64 .i64 (n : Int) (n : Int) (by omega) (Int.le_refl _) (by rw [hbi]; omega) (by omega)
  have e2 : madeCells #[Value.bool false] n = ((List.replicate n false).map boolV).toArray := by
    apply Array.ext'
    rw [toList_madeCells_one]
    simp [boolV]
  simpa [hsi, Value.cells, e2] using h
theorem make_i2 (n : Nat) (hn : n ≤ 1048576) (w : World) : (Instr.makeSlice 26 (.int .i64 (n : Int)) (.int .i64 (n : Int))).run Tryz.prog w = .ok (.slice (some ⟨w.heap.size, 0, none⟩) n n) (w.alloc (.cells ((List.replicate n 0).map intV).toArray 3)) := by
  obtain ⟨i, hi, hz, hsi, hbi⟩ := info_parts info_i
  have h := run_make (P := Tryz.prog) w 26 3 i (.int .i64 0) Tryz.underlying26 hi hz .i64 .i64 (n : Int) (n : Int) (by omega) (Int.le_refl _) (by rw [hbi]; omega) (by omega)
  have e2 : madeCells #[Value.int .i64 0] n = ((List.replicate n 0).map intV).toArray := by
    apply Array.ext'
    rw [toList_madeCells_one]
    simp [intV]
  simpa [hsi, Value.cells, e2] using h
theorem blk_ne {w : World} {g g' : Nat} {t t' : TypeId} {cs cs' : Array Value} (h : Blk w g t cs) (k : Blk w g' t' cs') (hne : t ≠ t') : g ≠ g' := by
  rintro rfl
  unfold Blk at h k
  rw [h] at k
  simp only [Option.some.injEq, Obj.cells.injEq] at k
  exact hne k.2.1
/-- The document's widths, what is gone, the skips: each in a block of its own. -/
structure DJ (w : World) (gW gD gS cS : Nat) (W : List Int) (D : List Bool) (S : List G) (wr : World) : Prop where
  bw : Blk wr gW 3 (W.map intV).toArray
  bd : Blk wr gD 4 (D.map boolV).toArray
  os : wr.ownsRow w.heap.size 96 5 (.slice (some ⟨gS, 0, none⟩) S.length cS) S.length (S.flatMap G.vals)
  gw : w.heap.size ≤ gW
  gd : w.heap.size ≤ gD
  low : Below w.heap.size w wr
section
variable {w wr w' : World} {gW gD gS cS : Nat} {W : List Int} {D : List Bool} {S : List G}
theorem DJ.below (h : DJ w gW gD gS cS W D S wr) (hb : Below wr.heap.size wr w') : DJ w gW gD gS cS W D S w' :=
  ⟨h.bw.below hb h.bw.lt, h.bd.below hb h.bd.lt, own_below h.os hb, h.gw, h.gd, andThen h.low hb⟩
theorem DJ.setW (h : DJ w gW gD gS cS W D S wr) (i : Nat) (x : Int) : DJ w gW gD gS cS (W.set i x) D S (wr.setCell ⟨gW, i, none⟩ (.int .i64 x)) := by
  refine ⟨?_, h.bd.far (blk_ne h.bd h.bw (by decide)) _, ownsRow_setCell_other h.os (own_blk h.os h.bw (by decide)) _, h.gw, h.gd, h.low.setCell h.gw _⟩
  have := h.bw.set i (intV x)
  rw [List.setIfInBounds_toArray, ← List.map_set] at this
  exact this
theorem DJ.setD (h : DJ w gW gD gS cS W D S wr) (i : Nat) (x : Bool) : DJ w gW gD gS cS W (D.set i x) S (wr.setCell ⟨gD, i, none⟩ (.bool x)) := by
  refine ⟨h.bw.far (blk_ne h.bw h.bd (by decide)) _, ?_, ownsRow_setCell_other h.os (own_blk h.os h.bd (by decide)) _, h.gw, h.gd, h.low.setCell h.gd _⟩
  have := h.bd.set i (boolV x)
  rw [List.setIfInBounds_toArray, ← List.map_set] at this
  exact this
theorem DJ.skip (h : DJ w gW gD gS cS W D S wr) {k : Nat} {x : G} (hk : k < S.length) : DJ w gW gD gS cS W D (S.set k x) (wr.setCells gS (k * 5) x.vals) := by
  have hg := gr_cells gS x.vals (k * 5) wr
  have n1 : (Value.slice (some ⟨gS, 0, none⟩) S.length cS).ownBlock ≠ some gW := own_blk h.os h.bw (by decide)
  have n2 : (Value.slice (some ⟨gS, 0, none⟩) S.length cS).ownBlock ≠ some gD := own_blk h.os h.bd (by decide)
  have hgg : (Value.slice (some ⟨gS, 0, none⟩) S.length cS).ownBlock = some gS := rfl
  rw [hgg] at n1 n2
  refine ⟨(hg.block gW h.bw.lt (Ne.symm n1)).trans h.bw, (hg.block gD h.bd.lt (Ne.symm n2)).trans h.bd, ?_, h.gw, h.gd, below_grown (Nat.le_refl _) h.low hg fun q hq => ?_⟩
  · rw [List.length_set, ← ovr_glue S k x hk]
    exact own_ovrs _ _ _ _ h.os
  · exact (h.os.lt q hq).1
theorem DJ.cW (h : DJ w gW gD gS cS W D S wr) {i : Nat} {x : Int} (hx : W[i]? = some x) : wr.cell? ⟨gW, i, none⟩ = some (.int .i64 x) := by
  rw [h.bw.cell i, List.getElem?_toArray, List.getElem?_map, hx]
  rfl
theorem DJ.cD (h : DJ w gW gD gS cS W D S wr) {i : Nat} {x : Bool} (hx : D[i]? = some x) : wr.cell? ⟨gD, i, none⟩ = some (.bool x) := by
  rw [h.bd.cell i, List.getElem?_toArray, List.getElem?_map, hx]
  rfl
theorem DJ.getS (h : DJ w gW gD gS cS W D S wr) {i : Nat} {x : G} (hx : S[i]? = some x) : wr.cell? ⟨gS, i * 5, none⟩ = some (.int .i64 x.n) := by
  have hl : i < S.length := by
    rcases Nat.lt_or_ge i S.length with h1 | h1
    · exact h1
    · rw [List.getElem?_eq_none h1] at hx; cases hx
  rw [h.os.cellAt (i * 5) (by omega)]
  exact flat_get Gl.G.vals_len S i x 0 hx (by decide)
end
section
variable {R : List (List (Int × Nat))} {ss : List G} {n j : Nat} {m : Option Int} {W : List Int} {D : List Bool}
theorem cols_next (h : colM (cols R ss j).f j none R = m) : (cols R ss (j + 1)).w = (cols R ss j).w ++ [m.getD 0] ∧ (cols R ss (j + 1)).g = (cols R ss j).g ++ [m.isNone] ∧ (cols R ss (j + 1)).s = if m.isNone = true then (cols R ss j).s.set (j + 1) gz else (cols R ss j).s := by
  cases m with
  | none => rw [cols_none h]; exact ⟨rfl, rfl, rfl⟩
  | some y => rw [cols_some h]; exact ⟨rfl, rfl, rfl⟩
/-- Ahead of column j. -/
structure DO (R : List (List (Int × Nat))) (ss : List G) (n j : Nat) (W : List Int) (D : List Bool) : Prop where
  lw : W.length = n
  ld : D.length = n
  w0 : ∀ i, i < j → W[i]? = (cols R ss j).w[i]?
  w1 : ∀ i, j ≤ i → i < n → W[i]? = some 0
  d0 : ∀ i, i < j → D[i]? = (cols R ss j).g[i]?
/-- Within it. -/
structure DI (R : List (List (Int × Nat))) (ss : List G) (n j : Nat) (m : Option Int) (W : List Int) (D : List Bool) : Prop where
  lt : j < n
  lw : W.length = n
  ld : D.length = n
  w0 : ∀ i, i < j → W[i]? = (cols R ss j).w[i]?
  wj : W[j]? = some (m.getD 0)
  w1 : ∀ i, j < i → i < n → W[i]? = some 0
  d0 : ∀ i, i < j → D[i]? = (cols R ss j).g[i]?
  dj : D[j]? = some m.isNone
theorem DO.zero (n : Nat) : DO R ss n 0 (List.replicate n 0) (List.replicate n false) :=
  ⟨by simp, by simp, fun i hi => absurd hi (Nat.not_lt_zero _), fun i _ hi => by simp [hi], fun i hi => absurd hi (Nat.not_lt_zero _)⟩
theorem DO.start (h : DO R ss n j W D) (hj : j < n) : DI R ss n j none W (D.set j true) :=
  ⟨hj, h.lw, by rw [List.length_set, h.ld], h.w0, h.w1 j (Nat.le_refl _) hj, fun i hi hn => h.w1 i (by omega) hn, fun i hi => by rw [List.getElem?_set_ne (by omega)]; exact h.d0 i hi, by rw [List.getElem?_set_self (by rw [h.ld]; exact hj)]; rfl⟩
theorem DI.put (h : DI R ss n j m W D) (z : Int) : DI R ss n j (some z) (W.set j z) (D.set j false) :=
  ⟨h.lt, by rw [List.length_set, h.lw], by rw [List.length_set, h.ld], fun i hi => by rw [List.getElem?_set_ne (by omega)]; exact h.w0 i hi, by rw [List.getElem?_set_self (by rw [h.lw]; exact h.lt)]; rfl, fun i hi hn => by rw [List.getElem?_set_ne (by omega)]; exact h.w1 i hi hn, fun i hi => by rw [List.getElem?_set_ne (by omega)]; exact h.d0 i hi, by rw [List.getElem?_set_self (by rw [h.ld]; exact h.lt)]; rfl⟩
theorem DI.stay {y : Int} (h : DI R ss n j (some y) W D) : DI R ss n j (some y) W (D.set j false) :=
  ⟨h.lt, h.lw, by rw [List.length_set, h.ld], h.w0, h.wj, h.w1, fun i hi => by rw [List.getElem?_set_ne (by omega)]; exact h.d0 i hi, by rw [List.getElem?_set_self (by rw [h.ld]; exact h.lt)]; rfl⟩
theorem DI.next (h : DI R ss n j m W D) (hc : colM (cols R ss j).f j none R = m) : DO R ss n (j + 1) W D := by
  obtain ⟨h1, h2, _⟩ := cols_next hc
  obtain ⟨l1, l2, _⟩ := cols_len R ss j
  refine ⟨h.lw, h.ld, fun i hi => ?_, fun i hi hn => h.w1 i (by omega) hn, fun i hi => ?_⟩
  · rw [h1]
    by_cases hij : i = j
    · subst hij
      rw [h.wj, List.getElem?_append_right (by omega), l1]
      simp
    · rw [List.getElem?_append_left (by omega)]
      exact h.w0 i (by omega)
  · rw [h2]
    by_cases hij : i = j
    · subst hij
      rw [h.dj, List.getElem?_append_right (by omega), l2]
      simp
    · rw [List.getElem?_append_left (by omega)]
      exact h.d0 i (by omega)
theorem DO.all (h : DO R ss n n W D) : W = (cols R ss n).w ∧ D = (cols R ss n).g := by
  obtain ⟨l1, l2, _⟩ := cols_len R ss n
  constructor
  · apply List.ext_getElem?
    intro i
    rcases Nat.lt_or_ge i n with hi | hi
    · exact h.w0 i hi
    · rw [List.getElem?_eq_none (by rw [h.lw]; omega), List.getElem?_eq_none (by omega)]
  · apply List.ext_getElem?
    intro i
    rcases Nat.lt_or_ge i n with hi | hi
    · exact h.d0 i hi
    · rw [List.getElem?_eq_none (by rw [h.ld]; omega), List.getElem?_eq_none (by omega)]
end
theorem wrap_two (z a b : Int) : wrap64 (wrap64 (z - a) - b) = wrap64 (z - wrap64 (a + b)) := by
  unfold wrap64
  omega
/-- What the document's Widths answers. -/
def RwOut (E : Int) (C : Co) (w : World) (e : Ending) (w' : World) : Prop :=
  ∃ A1 n1 c1 A2 n2 c2 v, e = .returned (.tuple #[.slice A1 n1 c1, .slice A2 n2 c2, v, .int .i64 E]) ∧ Below w.heap.size w w' ∧
    ((E = 0 ∧ n1 = C.w.length ∧ n2 = C.g.length ∧ Seg w' w'.heap.size A1 (C.w.map intV) ∧ Seg w' w'.heap.size A2 (C.g.map boolV)) ∨ (¬ E = 0 ∧ n1 = 0 ∧ n2 = 0))
theorem RwOut.no {E E' : Int} {C : Co} {w w' : World} (h : E = E') (h0 : ¬ E' = 0) (hb : Below w.heap.size w w') : RwOut E C w (.returned (.tuple #[.slice none 0 0, .slice none 0 0, .slice none 0 0, .int .i64 E'])) w' :=
  ⟨_, _, _, _, _, _, _, by rw [h], hb, .inr ⟨by rw [h]; exact h0, rfl, rfl⟩⟩
theorem seg_blk {w : World} {g : Nat} {t : TypeId} {xs : List Value} (h : Blk w g t xs.toArray) : Seg w w.heap.size (some ⟨g, 0, none⟩) xs :=
  .inr ⟨g, 0, rfl, h.lt, fun j u hu => by rw [Nat.zero_add, h.cell j]; simpa using hu⟩
theorem RwOut.yes {E : Int} {C : Co} {w w' : World} {gW gD gS cS n : Nat} {W : List Int} {D : List Bool} {S : List G} {v : Value} (h : E = 0) (hj : DJ w gW gD gS cS W D S w') (hW : W = C.w) (hD : D = C.g) (hw : C.w.length = n) (hd : C.g.length = n) : RwOut E C w (.returned (.tuple #[.slice (some ⟨gW, 0, none⟩) n n, .slice (some ⟨gD, 0, none⟩) n n, v, .int .i64 0])) w' := by
  subst hW hD
  exact ⟨_, _, _, _, _, _, _, by rw [h], hj.low, .inl ⟨h, hw.symm, hd.symm, seg_blk hj.bw, seg_blk hj.bd⟩⟩
end Go.Proofs.YtoboecenlangmaaGreat.Al
end
section
namespace Go.Proofs.YtoboecenlangmaaGreat.Al
open Go.ChangeShapes Go.WideShapes Go.ChangeAt Go.RowKit
open Me Np No
open Gl (G Row)
set_option linter.unusedVariables false
set_option linter.unusedSimpArgs false

theorem seg_two {w : World} {l : List Int} {A : Option Addr} (h : Seg w w.heap.size A (l.map intV)) : Seg w w.heap.size A (l.map (Value.int .i64)) := h
set_option maxHeartbeats 4000000 in
set_option maxRecDepth 100000 in
theorem knows21 (w : World) : Calls Tryz.prog 13 #[] w fun e w' => e = .returned (.bool true) ∧ Below w.heap.size w w' := by
  go_enter Tryz.func13, Tryz.ntmps13
  go_wp2_with fail
  obtain ⟨W0, hW0⟩ : ∃ W, W = w.alloc (.cells #[.int .i64 0, .int .i64 0, .int .i64 0, .int .i64 0, .int .i64 0, .int .i64 65536, .int .i64 0, .int .i64 0, .int .i64 0, .int .i64 0, .int .i64 0, .int .i64 0, .int .i64 0, .int .i64 0, .int .i64 0] 96) := ⟨_, rfl⟩
  have hb0 : Below w.heap.size w W0 := by rw [hW0]; exact andAlloc (Below.refl _ _) _
  have hs0 : Blk W0 w.heap.size 96 #[.int .i64 0, .int .i64 0, .int .i64 0, .int .i64 0, .int .i64 0, .int .i64 65536, .int .i64 0, .int .i64 0, .int .i64 0, .int .i64 0, .int .i64 0, .int .i64 0, .int .i64 0, .int .i64 0, .int .i64 0] := by rw [hW0]; exact Blk.new _ _ _
  rw [← hW0]
  clear hW0
  refine (kern5 _).mono ?_
  rintro e w1 ⟨k1, rfl, h1, b1⟩
  go_wp2_with fail
  refine (kern3 _).mono ?_
  rintro e w2 ⟨k2, rfl, h2, b2⟩
  go_wp2_with fail
  obtain ⟨W3, hW3⟩ : ∃ W, W = w2.alloc (.cells #[.slice (some ⟨k1, 0, none⟩) 1 1, .int .i64 1, .slice (some ⟨k2, 0, none⟩) 1 1, .int .i64 1] 87) := ⟨_, rfl⟩
  have b3 : Below w2.heap.size w2 W3 := by rw [hW3]; exact andAlloc (Below.refl _ _) _
  have s3 : Blk W3 w2.heap.size 87 #[.slice (some ⟨k1, 0, none⟩) 1 1, .int .i64 1, .slice (some ⟨k2, 0, none⟩) 1 1, .int .i64 1] := by rw [hW3]; exact Blk.new _ _ _
  rw [← hW3]
  clear hW3
  refine (kern2 _).mono ?_
  rintro e w4 ⟨k3, rfl, h3, b4⟩
  go_wp2_with fail
  refine (kern7 _).mono ?_
  rintro e w5 ⟨k4, rfl, h4, b5⟩
  go_wp2_with fail
  obtain ⟨W6, hW6⟩ : ∃ W, W = w5.alloc (.cells #[.slice (some ⟨k3, 0, none⟩) 1 1, .int .i64 1, .slice (some ⟨k4, 0, none⟩) 1 1, .int .i64 1] 87) := ⟨_, rfl⟩
  have b6 : Below w5.heap.size w5 W6 := by rw [hW6]; exact andAlloc (Below.refl _ _) _
  have s6 : Blk W6 w5.heap.size 87 #[.slice (some ⟨k3, 0, none⟩) 1 1, .int .i64 1, .slice (some ⟨k4, 0, none⟩) 1 1, .int .i64 1] := by rw [hW6]; exact Blk.new _ _ _
  have z6 : w5.heap.size + 1 = W6.heap.size := by rw [hW6]; simp
  rw [← hW6, z6]
  clear hW6 z6
  obtain ⟨W7, hW7⟩ : ∃ W, W = W6.alloc (.cells #[.slice (some ⟨w2.heap.size, 0, none⟩) 2 2, .slice none 0 0, .slice (some ⟨w5.heap.size, 0, none⟩) 2 2, .slice none 0 0] 84) := ⟨_, rfl⟩
  have b7 : Below W6.heap.size W6 W7 := by rw [hW7]; exact andAlloc (Below.refl _ _) _
  have s7 : Blk W7 W6.heap.size 84 #[.slice (some ⟨w2.heap.size, 0, none⟩) 2 2, .slice none 0 0, .slice (some ⟨w5.heap.size, 0, none⟩) 2 2, .slice none 0 0] := by rw [hW7]; exact Blk.new _ _ _
  rw [← hW7]
  clear hW7
  have c57 := andThen b6 b7
  have c47 := andThen b5 c57
  have c37 := andThen b4 c47
  have c27 := andThen b3 c37
  have c17 := andThen b2 c27
  have c07 := andThen b1 c17
  have hR1 : (kRow w2.heap.size k1 k2 327680 196608).Ok W7 (fun _ => True) := kRow_ok (s3.below c37 s3.lt) (h1.keep (Kp.below _ c17)) (h2.keep (Kp.below _ c27))
  have hR2 : (kRow w5.heap.size k3 k4 131072 458752).Ok W7 (fun _ => True) := kRow_ok (s6.below b7 s6.lt) (h3.keep (Kp.below _ c47)) (h4.keep (Kp.below _ c57))
  have hRR : RsOk W7 (fun _ => True) (some ⟨W6.heap.size, 0, none⟩) 2 [kRow w2.heap.size k1 k2 327680 196608, kRow w5.heap.size k3 k4 131072 458752] :=
    ⟨by simp, by simp, .inr ⟨W6.heap.size, 0, rfl, s7.lt, trivial, fun j u hu => by rw [Nat.zero_add, s7.cell j]; simpa [kRow, Rw.vals] using hu⟩, fun r hr => by
      rcases List.mem_cons.1 hr with rfl | hr
      · exact hR1
      · obtain rfl := List.mem_singleton.1 hr
        exact hR2⟩
  have s0' := hs0.below c07 hs0.lt
  have hSK : Row W7 (some ⟨w.heap.size, 0, none⟩) kSk := .inr ⟨w.heap.size, 0, rfl, s0'.lt, fun j u hu => by rw [Nat.zero_add, s0'.cell j]; simpa [kSk, gz, G.vals] using hu⟩
  have hw := widths_al (some ⟨w.heap.size, 0, none⟩) kSk 3 (some ⟨W6.heap.size, 0, none⟩) [kRow w2.heap.size k1 k2 327680 196608, kRow w5.heap.size k3 k4 131072 458752] 2 W7 hSK hRR (by decide)
  obtain ⟨q1, q2, q3⟩ := k_data w w2.heap.size k1 k2 w5.heap.size k3 k4
  rw [q1] at hw
  generalize mdC kSk ([kRow w2.heap.size k1 k2 327680 196608, kRow w5.heap.size k3 k4 131072 458752].map Rw.d) = C at hw q2 q3
  have HW := Lib.hid (show Calls Tryz.prog 8 #[.slice (some ⟨w.heap.size, 0, none⟩) 3 3, .slice (some ⟨W6.heap.size, 0, none⟩) 2 2] W7 (WdOut 0 C W7) from hw)
  have HLW := Lib.hid (andThen hb0 c07)
  have HQ := Lib.hid (And.intro q2 q3)
  clear hw q1 q2 q3 hSK s0' hRR hR1 hR2 c57 c47 c37 c27 c17 c07 h1 h2 h3 h4 s3 s6 s7 hs0 b1 b2 b3 b4 b5 b6 b7 hb0
  refine HW.out.mono ?_
  rintro e w8 ⟨A1, n1, c1, A2, n2, c2, rfl, hb8, hcase⟩
  rcases hcase with ⟨_, o1, hn1, o2, hn2⟩ | ⟨h, _⟩
  case inr => exact absurd rfl h
  rw [HQ.out.1] at o1 hn1
  rw [HQ.out.2] at o2 hn2
  simp only [List.length_cons, List.length_nil, Nat.zero_add, Nat.reduceAdd] at hn1 hn2
  subst hn1 hn2
  obtain ⟨g2, c2', e2, hc2⟩ := own_some o2 (by decide)
  injection e2 with e2 _ e3
  subst e2 e3
  have d0 : w8.cell? ⟨g2, 0, none⟩ = some (.bool false) := o2.cellAt 0 (by decide)
  have d1 : w8.cell? ⟨g2, 1, none⟩ = some (.bool false) := o2.cellAt 1 (by decide)
  have dl := (o2.lt g2 rfl).2
  obtain ⟨A1', c1', e4, _, _, _, hs1⟩ := SegS.own (S := fun _ => True) o1 (fun _ _ => trivial)
  injection e4 with e4 _ e5
  subst e4 e5
  have hb9 := andAlloc (Below.refl w8.heap.size w8) (.cells #[.int .i64 327680, .int .i64 458752] 3)
  have HSI := Lib.hid (Si.same_ints A1 (some ⟨w8.heap.size, 0, none⟩) [327680, 458752] [327680, 458752] c1 2 (w8.alloc (.cells #[.int .i64 327680, .int .i64 458752] 3)) (by decide) (by decide) (Seg.belowW hs1.seg hb9) (.inr ⟨w8.heap.size, 0, rfl, by simp, fun j u hu => by rw [Nat.zero_add, (Blk.new w8 _ _).cell j]; simpa using hu⟩))
  have HB8 := Lib.hid (andThen HLW.out hb8)
  clear o1 o2 hs1 hb8 hb9 HW
  go_wp2_with (first | (go_at_call 10; refine (num21 _ _).mono ?_; rintro e wz ⟨rfl, rfl⟩) | (refine HSI.out.mono ?_; rintro e wz ⟨rfl, hbz⟩; have y0 := (hbz.cell (p := ⟨g2, 0, none⟩) (by simp; omega)).trans ((Below.cell (andAlloc (Below.refl w8.heap.size w8) (.cells #[.int .i64 327680, .int .i64 458752] 3)) (p := ⟨g2, 0, none⟩) dl).trans d0); have y1 := (hbz.cell (p := ⟨g2, 1, none⟩) (by simp; omega)).trans ((Below.cell (andAlloc (Below.refl w8.heap.size w8) (.cells #[.int .i64 327680, .int .i64 458752] 3)) (p := ⟨g2, 1, none⟩) dl).trans d1)))
  go_ret
  exact ⟨rfl, andThen (andAlloc HB8.out _) hbz⟩
end Go.Proofs.YtoboecenlangmaaGreat.Al
end
section
namespace Go.Proofs.YtoboecenlangmaaGreat.No
open Go.ChangeShapes Go.WideShapes Go.ChangeAt Go.RowKit
open Me Np
set_option linter.unusedVariables false
set_option linter.unusedSimpArgs false
attribute [local go_sem ↓] ldN_eq
set_option maxHeartbeats 4000000 in
set_option maxRecDepth 100000 in
theorem rrow_of (A : Option Addr) (ns : List Nd) (c : Nat) (xs : List Nat) (ra : Nat → Int × Int) (w : World) (hl : ns.length ≤ 2000) (hseg : Seg w w.heap.size A (ns.flatMap ncs)) (hx : Its xs ns 0) (hr : ∀ x ∈ ns, right x = true) (h6 : ∀ x ∈ xs, ∀ n, ns[x]? = some n → ¬ n.kind = 6)
    (hrv : ∀ k ∈ xs, RV (ra k)) (hone : ∀ k ∈ xs, ∀ n, ns[k]? = some n → ¬ n.kind = 10 → ra k = rowP n)
    (hdisc : ∀ k ∈ xs, ∀ n, ns[k]? = some n → n.kind = 10 → ∀ w1, Below w.heap.size w w1 → Calls Tryz.prog 161 #[.slice A ns.length c, .int .i64 (k : Int)] w1 fun e w' => ∃ vs A2 c2 l2, e = .returned (.agg (tc3 vs)) ∧ vs 2 = .slice A2 l2 c2 ∧ Below w1.heap.size w1 w' ∧
      Calls Tryz.prog 96 #[.slice A2 l2 c2] w' fun e w2 => e = .returned (.tuple #[.int .i64 (ra k).1, .int .i64 (ra k).2]) ∧ Below w'.heap.size w' w2) :
    Calls Tryz.prog 96 #[.slice A ns.length c] w fun e w' => e = .returned (.tuple #[.int .i64 (rfold ra xs (0, 0)).1, .int .i64 (rfold ra xs (0, 0)).2]) ∧ Below w.heap.size w w' := by
  have HDI := Lib.hid hdisc
  have HON := Lib.hid hone
  have HRV := Lib.hid hrv
  have HRT := Lib.hid hr
  have HSEG := Lib.hid hseg
  have HITS := Lib.hid (rstarts_any A ns c xs w hl hseg hx h6)
  have hxl := Its.len hx
  have HLT := Lib.hid (Its.lt hx)
  clear hdisc hone hrv hr hseg hx h6
  have HL := Lib.hid (rfl : ns.length = ns.length)
  generalize hlen : ns.length = len at hl HDI HITS HL hxl HLT ⊢
  clear HL
  have HL := Lib.hid hlen
  clear hlen
  go_enter Tryz.func96, Tryz.ntmps96
  go_wp2_with fail
  refine HITS.out.mono ?_
  rintro e w1 ⟨v, rfl, ho, hb1⟩
  obtain ⟨A', c', rfl⟩ := made_len ho
  have HO := Lib.hid ho
  have HB1 := Lib.hid hb1
  clear ho hb1
  go_wp2_with fail
  go_loopw [4, 5, 7] (fun h d i wr => ∃ (k : Nat) (s : Int × Int), k ≤ xs.length ∧ i = .int .i64 k ∧ h = .int .i64 s.1 ∧ d = .int .i64 s.2 ∧ RB s ∧ rfold ra (xs.drop k) s = rfold ra xs (0, 0) ∧ Below w1.heap.size w1 wr) (fun _ _ i _ => xs.length - (intOf i).toNat)
  case atStart => exact ⟨0, (0, 0), by omega, rfl, rfl, rfl, by unfold RB; simp only; omega, rfl, Below.refl _ _⟩
  case round =>
    obtain ⟨k, s, hk, rfl, rfl, rfl, hrb, hfo, hlow⟩ := hrel
    have HRB := Lib.hid hrb
    by_cases hlt : k < xs.length
    · obtain ⟨x, hx, hxd⟩ : ∃ x, xs[k]? = some x ∧ xs.drop k = x :: xs.drop (k + 1) := ⟨xs[k], List.getElem?_eq_getElem hlt, List.drop_eq_getElem_cons hlt⟩
      have hxm : x ∈ xs := List.mem_of_getElem? hx
      have hxl2 := (HLT.out x hxm).2
      obtain ⟨n, hn, hnd⟩ := get_drop (l := ns) (k := x) (by rw [HL.out]; omega)
      have HRN := Lib.hid (HRT.out n (List.mem_of_getElem? hn))
      have HNN := Lib.hid hn
      obtain ⟨b, off, rfl, hb, hnode⟩ := seg_node HSEG.out hn
      have HLW := Lib.hid (andThen HB1.out hlow)
      have hnr : NodeAt wr b (off + x * 19) n := hnode.below HLW.out hb
      have hld0 : (ldN ⟨b, off + x * 19, none⟩).run Tryz.prog wr = .ok (.agg (nc n)) wr := run_ldN hnr
      rw [hxd] at hfo
      have HFO := Lib.hid (show rfold ra (xs.drop (k + 1)) (rstep s (ra x)) = rfold ra xs (0, 0) from hfo)
      obtain ⟨g, rfl, hg⟩ : ∃ g, A' = some ⟨g, 0, none⟩ ∧ g < w1.heap.size := by
        rcases id HO.out.2 with ⟨_, h5⟩ | ⟨g, _, _, h5, _, h6, _⟩
        · omega
        · simp at h5
          exact ⟨g, h5.1, (Array.getElem?_eq_some_iff.1 h6).1⟩
      have hxc : wr.cell? ⟨g, k, none⟩ = some (.int .i64 x) := by
        rw [hlow.cell (p := ⟨g, k, none⟩) hg, World.ownsRow.cellAt HO.out k (by omega), List.getElem?_map, hx]
        rfl
      have hgl : g < wr.heap.size := Nat.lt_of_lt_of_le hg hlow.size
      clear hn hnd hx hnode hxd hfo hnr hrb
      by_cases h10 : n.kind = 10
      · have e1 : (n.kind == 1) = false := by simp [h10]
        have e2 : (n.kind == 2) = false := by simp [h10]
        have e3 : (n.kind == 3) = false := by simp [h10]
        have e4 : (n.kind == 4) = false := by simp [h10]
        have e5 : (n.kind == 5) = false := by simp [h10]
        have e10 : (n.kind == 10) = true := by simp [h10]
        have HD3 := Lib.hid (HDI.out x hxm n HNN.out h10 (wr.alloc (.cells (nc n) 101)) (andAlloc HLW.out _))
        have hlw2 := andAlloc hlow (.cells (nc n) 101)
        clear h10
        go_wp2_with (first | (with_reducible show wpList _ _ _ _ _ _; refine wpList_alloc_node rfl rfl ?_) | (with_reducible show wpList _ _ _ _ _ _; refine wpList_store_node rfl _ _ rfl _ _ _ rfl rfl _ (by repeat (first | (apply Blk.new'; first | rfl | (simp; done)) | assumption | apply Blk.alloc)) ?_))
        refine HD3.out.mono ?_
        rintro e w4 ⟨vs, A2, c2, l2, rfl, hv2, hb4, hsum⟩
        have HSU := Lib.hid hsum
        have hlw4 := andThen hlw2 hb4
        have hix : ∀ w, (Instr.index 221 (.agg (tc3 vs)) (.int .i64 2)).run Tryz.prog w = .ok (vs 2) w := fun w => idx2 _ _ _ w
        rw [hv2] at hix
        clear hsum hv2 hb4 HD3 hlw2
        generalize tc3 vs = cs3 at hix ⊢
        go_wp2_with fail
        refine HSU.out.mono ?_
        rintro e w5 ⟨rfl, hb5⟩
        have hlw5 := andThen hlw4 hb5
        clear hb5 hlw4 HSU hix
        go_wp2_with fail
        go_roundw
        case rel => exact ⟨k + 1, rstep s (ra x), by omega, by go_num, rfl, rfl, HRB.out.step (HRV.out x hxm), HFO.out, by repeat (first | exact hlw5 | refine below_drewN ?_ _ | refine andAlloc ?_ _)⟩
        case measure => simp [intOf]; omega
      · by_cases hk5 : n.kind = 1 ∨ n.kind = 2 ∨ n.kind = 3 ∨ n.kind = 4 ∨ n.kind = 5
        · rcases hk5 with hk | hk | hk | hk | hk
          · have e1 : (n.kind == 1) = true := by simp [hk]
            have hra := HON.out x hxm n HNN.out (by omega)
            rw [show rowP n = (n.ht, n.dp) by unfold rowP; rw [if_pos (by omega)]] at hra
            have HRA := Lib.hid hra
            clear hra hk
            go_wp2_with (first | (with_reducible show wpList _ _ _ _ _ _; refine wpList_alloc_node rfl rfl ?_) | (with_reducible show wpList _ _ _ _ _ _; refine wpList_store_node rfl _ _ rfl _ _ _ rfl rfl _ (by repeat (first | (apply Blk.new'; first | rfl | (simp; done)) | assumption | apply Blk.alloc)) ?_))
            go_roundw
            case rel => exact ⟨k + 1, rstep s (n.ht, n.dp), by omega, by go_num, rfl, rfl, by rw [← HRA.out]; exact HRB.out.step (HRV.out x hxm), by rw [← HRA.out]; exact HFO.out, by repeat (first | exact hlow | refine below_drewN ?_ _ | refine andAlloc ?_ _)⟩
            case measure => simp [intOf]; omega
          · have e1 : (n.kind == 1) = false := by simp [hk]
            have e2 : (n.kind == 2) = true := by simp [hk]
            have hra := HON.out x hxm n HNN.out (by omega)
            rw [show rowP n = (n.ht, n.dp) by unfold rowP; rw [if_pos (by omega)]] at hra
            have HRA := Lib.hid hra
            clear hra hk
            go_wp2_with (first | (with_reducible show wpList _ _ _ _ _ _; refine wpList_alloc_node rfl rfl ?_) | (with_reducible show wpList _ _ _ _ _ _; refine wpList_store_node rfl _ _ rfl _ _ _ rfl rfl _ (by repeat (first | (apply Blk.new'; first | rfl | (simp; done)) | assumption | apply Blk.alloc)) ?_))
            go_roundw
            case rel => exact ⟨k + 1, rstep s (n.ht, n.dp), by omega, by go_num, rfl, rfl, by rw [← HRA.out]; exact HRB.out.step (HRV.out x hxm), by rw [← HRA.out]; exact HFO.out, by repeat (first | exact hlow | refine below_drewN ?_ _ | refine andAlloc ?_ _)⟩
            case measure => simp [intOf]; omega
          · have e1 : (n.kind == 1) = false := by simp [hk]
            have e2 : (n.kind == 2) = false := by simp [hk]
            have e3 : (n.kind == 3) = true := by simp [hk]
            have hra := HON.out x hxm n HNN.out (by omega)
            rw [show rowP n = (n.ht, n.dp) by unfold rowP; rw [if_pos (by omega)]] at hra
            have HRA := Lib.hid hra
            clear hra hk
            go_wp2_with (first | (with_reducible show wpList _ _ _ _ _ _; refine wpList_alloc_node rfl rfl ?_) | (with_reducible show wpList _ _ _ _ _ _; refine wpList_store_node rfl _ _ rfl _ _ _ rfl rfl _ (by repeat (first | (apply Blk.new'; first | rfl | (simp; done)) | assumption | apply Blk.alloc)) ?_))
            go_roundw
            case rel => exact ⟨k + 1, rstep s (n.ht, n.dp), by omega, by go_num, rfl, rfl, by rw [← HRA.out]; exact HRB.out.step (HRV.out x hxm), by rw [← HRA.out]; exact HFO.out, by repeat (first | exact hlow | refine below_drewN ?_ _ | refine andAlloc ?_ _)⟩
            case measure => simp [intOf]; omega
          · have e1 : (n.kind == 1) = false := by simp [hk]
            have e2 : (n.kind == 2) = false := by simp [hk]
            have e3 : (n.kind == 3) = false := by simp [hk]
            have e4 : (n.kind == 4) = true := by simp [hk]
            have hra := HON.out x hxm n HNN.out (by omega)
            rw [show rowP n = (n.ht - n.shift, n.dp + n.shift) by unfold rowP; rw [if_neg (by omega), if_pos (by omega)]] at hra
            have hd := right_hd HRN.out (by omega)
            unfold dm at hd
            have hsh := box_shift HRN.out (by omega)
            have hw1 : IntKind.i64.wrap (n.ht - n.shift) = n.ht - n.shift := IntWalk.i64_in _ (by omega)
            have hw2 : IntKind.i64.wrap (n.dp + n.shift) = n.dp + n.shift := IntWalk.i64_in _ (by omega)
            clear hd hsh
            have HRA := Lib.hid hra
            clear hra hk
            go_wp2_with (first | (with_reducible show wpList _ _ _ _ _ _; refine wpList_alloc_node rfl rfl ?_) | (with_reducible show wpList _ _ _ _ _ _; refine wpList_store_node rfl _ _ rfl _ _ _ rfl rfl _ (by repeat (first | (apply Blk.new'; first | rfl | (simp; done)) | assumption | apply Blk.alloc)) ?_))
            go_roundw
            case rel => exact ⟨k + 1, rstep s (n.ht - n.shift, n.dp + n.shift), by omega, by go_num, rfl, rfl, by rw [← HRA.out]; exact HRB.out.step (HRV.out x hxm), by rw [← HRA.out]; exact HFO.out, by repeat (first | exact hlow | refine below_drewN ?_ _ | refine andAlloc ?_ _)⟩
            case measure => simp [intOf]; omega
          · have e1 : (n.kind == 1) = false := by simp [hk]
            have e2 : (n.kind == 2) = false := by simp [hk]
            have e3 : (n.kind == 3) = false := by simp [hk]
            have e4 : (n.kind == 4) = false := by simp [hk]
            have e5 : (n.kind == 5) = true := by simp [hk]
            have hra := HON.out x hxm n HNN.out (by omega)
            rw [show rowP n = (n.ht - n.shift, n.dp + n.shift) by unfold rowP; rw [if_neg (by omega), if_pos (by omega)]] at hra
            have hd := right_hd HRN.out (by omega)
            unfold dm at hd
            have hsh := box_shift HRN.out (by omega)
            have hw1 : IntKind.i64.wrap (n.ht - n.shift) = n.ht - n.shift := IntWalk.i64_in _ (by omega)
            have hw2 : IntKind.i64.wrap (n.dp + n.shift) = n.dp + n.shift := IntWalk.i64_in _ (by omega)
            clear hd hsh
            have HRA := Lib.hid hra
            clear hra hk
            go_wp2_with (first | (with_reducible show wpList _ _ _ _ _ _; refine wpList_alloc_node rfl rfl ?_) | (with_reducible show wpList _ _ _ _ _ _; refine wpList_store_node rfl _ _ rfl _ _ _ rfl rfl _ (by repeat (first | (apply Blk.new'; first | rfl | (simp; done)) | assumption | apply Blk.alloc)) ?_))
            go_roundw
            case rel => exact ⟨k + 1, rstep s (n.ht - n.shift, n.dp + n.shift), by omega, by go_num, rfl, rfl, by rw [← HRA.out]; exact HRB.out.step (HRV.out x hxm), by rw [← HRA.out]; exact HFO.out, by repeat (first | exact hlow | refine below_drewN ?_ _ | refine andAlloc ?_ _)⟩
            case measure => simp [intOf]; omega
        · have e1 : (n.kind == 1) = false := by simp; omega
          have e2 : (n.kind == 2) = false := by simp; omega
          have e3 : (n.kind == 3) = false := by simp; omega
          have e4 : (n.kind == 4) = false := by simp; omega
          have e5 : (n.kind == 5) = false := by simp; omega
          have e10 : (n.kind == 10) = false := by simp; omega
          have hra := HON.out x hxm n HNN.out h10
          rw [show rowP n = (0, 0) by unfold rowP; rw [if_neg (by omega), if_neg (by omega)]] at hra
          have HRA := Lib.hid hra
          clear hra h10 hk5
          go_wp2_with (first | (with_reducible show wpList _ _ _ _ _ _; refine wpList_alloc_node rfl rfl ?_) | (with_reducible show wpList _ _ _ _ _ _; refine wpList_store_node rfl _ _ rfl _ _ _ rfl rfl _ (by repeat (first | (apply Blk.new'; first | rfl | (simp; done)) | assumption | apply Blk.alloc)) ?_))
          go_roundw
          case rel =>
            have hz : rstep s (ra x) = s := by
              have h := HRB.out
              rw [HRA.out]
              unfold RB at h
              unfold rstep
              simp only
              exact Prod.ext (by simp only; omega) (by simp only; omega)
            have hf := HFO.out
            rw [hz] at hf
            exact ⟨k + 1, s, by omega, by go_num, rfl, rfl, HRB.out, hf, by repeat (first | exact hlow | refine below_drewN ?_ _ | refine andAlloc ?_ _)⟩
          case measure => simp [intOf]; omega
    · obtain rfl : k = xs.length := by omega
      rw [List.drop_of_length_le (Nat.le_refl _)] at hfo
      have hfo : s = rfold ra xs (0, 0) := hfo
      subst hfo
      have HLW := Lib.hid (andThen HB1.out hlow)
      go_wp2_with fail
      go_ret2
      exact ⟨rfl, HLW.out⟩
end Go.Proofs.YtoboecenlangmaaGreat.No
end

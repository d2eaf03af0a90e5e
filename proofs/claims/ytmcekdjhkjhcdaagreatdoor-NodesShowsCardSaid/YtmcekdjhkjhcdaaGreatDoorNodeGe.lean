import Derived.Test.YtmcekdjhkjhcdaaGreatDoorNodeGd
import Derived.Deep.RegionHeld3
/- Contracts of the document's Good: box (printed by gen_nodegd.py). Conditions: those that each theorem names. -/
namespace Go.Proofs.YtmcekdjhkjhcdaaGreatDoor.No
open Go.ChangeShapes Go.WideShapes Go.ChangeAt Go.RowKit
open Me Np
set_option linter.unusedVariables false
set_option linter.unusedSimpArgs false
attribute [local go_sem ↓] ldN_eq eqN_eq bldN_eq
theorem bxa_keep {n : Nd} {w : World} {g : Nat} {W w5 : World} (hb : Below W.heap.size W w5) (h : (fun w' => w'.cell? ⟨g, 0, none⟩ = some (.int .i64 n.kind) ∧ w'.cell? ⟨g, 6, none⟩ = some (.int .i64 n.shift) ∧ (ldN ⟨g, 0, none⟩).run Tryz.prog w' = .ok (.agg (nc n)) w' ∧ NodeAt w' g 0 n ∧ Below w.heap.size w w') W) : (fun w' => w'.cell? ⟨g, 0, none⟩ = some (.int .i64 n.kind) ∧ w'.cell? ⟨g, 6, none⟩ = some (.int .i64 n.shift) ∧ (ldN ⟨g, 0, none⟩).run Tryz.prog w' = .ok (.agg (nc n)) w' ∧ NodeAt w' g 0 n ∧ Below w.heap.size w w') w5 := by
  obtain ⟨hc0, hc1, h3, h4, h5⟩ := h
  have hn := h4.below hb h4.lt
  exact ⟨(by rw [hb.cell (block_lt_of_cell hc0)]; exact hc0), (by rw [hb.cell (block_lt_of_cell hc1)]; exact hc1), run_ldN hn, hn, andThen h5 hb⟩
theorem bxa_drew {n : Nd} {w : World} {g : Nat} {W : World} (h : (fun w' => w'.cell? ⟨g, 0, none⟩ = some (.int .i64 n.kind) ∧ w'.cell? ⟨g, 6, none⟩ = some (.int .i64 n.shift) ∧ (ldN ⟨g, 0, none⟩).run Tryz.prog w' = .ok (.agg (nc n)) w' ∧ NodeAt w' g 0 n ∧ Below w.heap.size w w') W) : (fun w' => w'.cell? ⟨g, 0, none⟩ = some (.int .i64 n.kind) ∧ w'.cell? ⟨g, 6, none⟩ = some (.int .i64 n.shift) ∧ (ldN ⟨g, 0, none⟩).run Tryz.prog w' = .ok (.agg (nc n)) w' ∧ NodeAt w' g 0 n ∧ Below w.heap.size w w') W.drew := by
  obtain ⟨hc0, hc1, h3, h4, h5⟩ := h
  have hn : NodeAt W.drew g 0 n := NodeAt.drewN h4 1
  exact ⟨hc0, hc1, run_ldN hn, hn, below_drewN h5 1⟩

theorem bxb_keep {n : Nd} {w : World} {g : Nat} {W w5 : World} (hb : Below W.heap.size W w5) (h : (fun w' => w'.cell? ⟨g, 0, none⟩ = some (.int .i64 n.kind) ∧ w'.cell? ⟨g, 6, none⟩ = some (.int .i64 n.shift) ∧ w'.cell? ⟨g, 12, none⟩ = some (.int .i64 n.sign) ∧ w'.cell? ⟨g, 13, none⟩ = some (.int .i64 n.order) ∧ w'.cell? ⟨g, 14, none⟩ = some (.int .i64 n.num) ∧ w'.cell? ⟨g, 15, none⟩ = some (.int .i64 n.den) ∧ (ldN ⟨g, 0, none⟩).run Tryz.prog w' = .ok (.agg (nc n)) w' ∧ NodeAt w' g 0 n ∧ Below w.heap.size w w') W) : (fun w' => w'.cell? ⟨g, 0, none⟩ = some (.int .i64 n.kind) ∧ w'.cell? ⟨g, 6, none⟩ = some (.int .i64 n.shift) ∧ w'.cell? ⟨g, 12, none⟩ = some (.int .i64 n.sign) ∧ w'.cell? ⟨g, 13, none⟩ = some (.int .i64 n.order) ∧ w'.cell? ⟨g, 14, none⟩ = some (.int .i64 n.num) ∧ w'.cell? ⟨g, 15, none⟩ = some (.int .i64 n.den) ∧ (ldN ⟨g, 0, none⟩).run Tryz.prog w' = .ok (.agg (nc n)) w' ∧ NodeAt w' g 0 n ∧ Below w.heap.size w w') w5 := by
  obtain ⟨hc0, hc1, hc2, hc3, hc4, hc5, h3, h4, h5⟩ := h
  have hn := h4.below hb h4.lt
  exact ⟨(by rw [hb.cell (block_lt_of_cell hc0)]; exact hc0), (by rw [hb.cell (block_lt_of_cell hc1)]; exact hc1), (by rw [hb.cell (block_lt_of_cell hc2)]; exact hc2), (by rw [hb.cell (block_lt_of_cell hc3)]; exact hc3), (by rw [hb.cell (block_lt_of_cell hc4)]; exact hc4), (by rw [hb.cell (block_lt_of_cell hc5)]; exact hc5), run_ldN hn, hn, andThen h5 hb⟩
theorem bxb_drew {n : Nd} {w : World} {g : Nat} {W : World} (h : (fun w' => w'.cell? ⟨g, 0, none⟩ = some (.int .i64 n.kind) ∧ w'.cell? ⟨g, 6, none⟩ = some (.int .i64 n.shift) ∧ w'.cell? ⟨g, 12, none⟩ = some (.int .i64 n.sign) ∧ w'.cell? ⟨g, 13, none⟩ = some (.int .i64 n.order) ∧ w'.cell? ⟨g, 14, none⟩ = some (.int .i64 n.num) ∧ w'.cell? ⟨g, 15, none⟩ = some (.int .i64 n.den) ∧ (ldN ⟨g, 0, none⟩).run Tryz.prog w' = .ok (.agg (nc n)) w' ∧ NodeAt w' g 0 n ∧ Below w.heap.size w w') W) : (fun w' => w'.cell? ⟨g, 0, none⟩ = some (.int .i64 n.kind) ∧ w'.cell? ⟨g, 6, none⟩ = some (.int .i64 n.shift) ∧ w'.cell? ⟨g, 12, none⟩ = some (.int .i64 n.sign) ∧ w'.cell? ⟨g, 13, none⟩ = some (.int .i64 n.order) ∧ w'.cell? ⟨g, 14, none⟩ = some (.int .i64 n.num) ∧ w'.cell? ⟨g, 15, none⟩ = some (.int .i64 n.den) ∧ (ldN ⟨g, 0, none⟩).run Tryz.prog w' = .ok (.agg (nc n)) w' ∧ NodeAt w' g 0 n ∧ Below w.heap.size w w') W.drew := by
  obtain ⟨hc0, hc1, hc2, hc3, hc4, hc5, h3, h4, h5⟩ := h
  have hn : NodeAt W.drew g 0 n := NodeAt.drewN h4 1
  exact ⟨hc0, hc1, hc2, hc3, hc4, hc5, run_ldN hn, hn, below_drewN h5 1⟩

theorem boxR_no {n : Nd} (h : three3 n = false ∨ dimB n.shift = false ∨ (¬ n.sign = 0 ∧ ((¬ n.sign = 1 ∧ ¬ n.sign = 2) ∨ n.order < 0 ∨ 3 < n.order ∨ n.num < 1 ∨ 1152921504606846976 < n.num ∨ n.den < 1 ∨ 1152921504606846976 < n.den ∨ (n.sign = 2 ∧ n.order = 0 ∧ n.den < n.num)))) : boxR n = false := by
  unfold boxR
  by_cases h1 : (three3 n && dimB n.shift) = true
  · rw [if_pos h1]
    rw [Bool.and_eq_true] at h1
    rcases h with h | h | ⟨h0, h⟩
    · rw [h1.1] at h; cases h
    · rw [h1.2] at h; cases h
    · rw [if_neg h0, if_neg]
      intro hh
      simp only [Bool.and_eq_true, Bool.not_eq_true', Bool.and_eq_false_iff, winB, decide_eq_true_eq, beq_eq_false_iff_ne, decide_eq_false_iff_not, ne_eq] at hh
      omega
  · rw [if_neg h1]
theorem boxR_yes0 {n : Nd} (h : three3 n = true ∧ dimB n.shift = true ∧ n.sign = 0) : boxR n = eqB (bareR n) { nz n.kind with shift := n.shift } := by
  obtain ⟨h1, h2, h3⟩ := h
  unfold boxR
  rw [if_pos (by rw [h1, h2]; rfl), if_pos h3]
theorem boxR_yes1 {n : Nd} (h : three3 n = true ∧ dimB n.shift = true ∧ ¬ n.sign = 0 ∧ (n.sign = 1 ∨ n.sign = 2) ∧ 0 ≤ n.order ∧ n.order ≤ 3 ∧ 1 ≤ n.num ∧ n.num ≤ 1152921504606846976 ∧ 1 ≤ n.den ∧ n.den ≤ 1152921504606846976 ∧ (¬ n.sign = 2 ∨ ¬ n.order = 0 ∨ n.num ≤ n.den)) : boxR n = eqB (bareR n) { nz n.kind with shift := n.shift, sign := n.sign, order := n.order, num := n.num, den := n.den } := by
  obtain ⟨h1, h2, h3, h4⟩ := h
  unfold boxR
  rw [if_pos (by rw [h1, h2]; rfl), if_neg h3, if_pos]
  simp only [Bool.and_eq_true, Bool.not_eq_true', Bool.and_eq_false_iff, winB, decide_eq_true_eq, beq_eq_false_iff_ne, decide_eq_false_iff_not, ne_eq]
  omega
set_option maxHeartbeats 4000000 in
set_option maxRecDepth 100000 in
theorem rbox_any (n : Nd) (w : World) : Calls Tryz.prog 77 #[.agg (nc n)] w fun e w' => e = .returned (.bool (boxR n)) ∧ Below w.heap.size w w' := by
  generalize ht : three3 n = T3
  have HT := Lib.hid ht
  clear ht
  cases T3
  · go_enter Tryz.func77, Tryz.ntmps77
    go_wp2_with (first | (with_reducible show wpList _ _ _ (_ :: _) _ _; refine wpList_load_node rfl _ rfl _ _ rfl _ (by repeat (first | apply NodeAt.row | (apply Blk.new'; first | rfl | (simp; done)) | (apply Blk.node; apply Blk.new'; first | rfl | (simp; done)) | assumption | apply NodeAt.alloc)) ?_) | (go_at_call 98; (with_reducible refine (three3_any _ _).mono ?_); rintro e w' ⟨rfl, rfl⟩; rw [HT.out]))
    go_ret
    exact ⟨ret_bool (boxR_no (.inl HT.out)).symm, by repeat (first | exact Below.refl _ _ | refine andAlloc ?_ _)⟩
  generalize ht : dimB n.shift = S3
  have HS := Lib.hid ht
  clear ht
  cases S3
  · go_enter Tryz.func77, Tryz.ntmps77
    go_wp2_with (first | (with_reducible show wpList _ _ _ (_ :: _) _ _; refine wpList_load_node rfl _ rfl _ _ rfl _ (by repeat (first | apply NodeAt.row | (apply Blk.new'; first | rfl | (simp; done)) | (apply Blk.node; apply Blk.new'; first | rfl | (simp; done)) | assumption | apply NodeAt.alloc)) ?_) | (go_at_call 98; (with_reducible refine (three3_any _ _).mono ?_); rintro e w' ⟨rfl, rfl⟩; rw [HT.out]) | (go_at_call 79; (with_reducible refine (rdimen_any _ _).mono ?_); rintro e w' ⟨rfl, rfl⟩; rw [HS.out]))
    go_ret
    exact ⟨ret_bool (boxR_no (.inr (.inl HS.out))).symm, by repeat (first | exact Below.refl _ _ | refine andAlloc ?_ _)⟩
  by_cases g0 : n.sign = 0
  · have q0 : (n.sign == 0) = true := by simp [g0]
    have G0 := Lib.hid g0
    clear g0
    go_enter Tryz.func77, Tryz.ntmps77
    go_wp2_with (first | (with_reducible show wpList _ _ _ (_ :: _) _ _; refine wpList_load_node rfl _ rfl _ _ rfl _ (by repeat (first | apply NodeAt.row | (apply Blk.new'; first | rfl | (simp; done)) | (apply Blk.node; apply Blk.new'; first | rfl | (simp; done)) | assumption | apply NodeAt.alloc)) ?_) | (go_at_call 98; (with_reducible refine (three3_any _ _).mono ?_); rintro e w' ⟨rfl, rfl⟩; rw [HT.out]) | (go_at_call 79; (with_reducible refine (rdimen_any _ _).mono ?_); rintro e w' ⟨rfl, rfl⟩; rw [HS.out]))
    all_goals first
      | (go_ret; exact ⟨ret_bool (boxR_no (by exact .inl (by assumption))).symm, by repeat (first | exact Below.refl _ _ | refine andAlloc ?_ _)⟩)
      | (have hy := boxR_yes0 (by exact ⟨HT.out, HS.out, G0.out⟩)
         have HY := Lib.hid hy
         clear hy
         have HS := Lib.hid (show (fun w' => w'.cell? ⟨w.heap.size, 0, none⟩ = some (.int .i64 n.kind) ∧ w'.cell? ⟨w.heap.size, 6, none⟩ = some (.int .i64 n.shift) ∧ (ldN ⟨w.heap.size, 0, none⟩).run Tryz.prog w' = .ok (.agg (nc n)) w' ∧ NodeAt w' w.heap.size 0 n ∧ Below w.heap.size w w') ((w.alloc (.cells (nc n) 36)).alloc (.cells (nc n) 36)).drew from ⟨by simp [go_sem], by simp [go_sem], run_ldN (NodeAt.drewN (NodeAt.alloc (Blk.node (Blk.new' rfl)) _) 1), NodeAt.drewN (NodeAt.alloc (Blk.node (Blk.new' rfl)) _) 1, below_drewN (andAlloc (andAlloc (Below.refl _ _) _) _) 1⟩)
         have hbn : ∀ w, (bldN #[(0, .int .i64 n.kind), (6, .int .i64 n.shift)]).run Tryz.prog w = .ok (.agg (nc { nz n.kind with shift := n.shift })) w := fun w => by rw [← bldN_eq]; exact run_build w 36 _ _ (by kernel_rfl)
         have hq : ∀ w, (eqN (.agg (nc (bareR n))) (.agg (nc { nz n.kind with shift := n.shift }))).run Tryz.prog w = .ok (.bool (eqB (bareR n) { nz n.kind with shift := n.shift })) w := fun w => run_eqN (bareR n) { nz n.kind with shift := n.shift } w
         have HBW : RowKit.Hid (Below w.heap.size w ((w.alloc (.cells (nc n) 36)).alloc (.cells (nc n) 36)).drew) := Lib.hid HS.out.2.2.2.2
         go_region_held3 (fun w' => w'.cell? ⟨w.heap.size, 0, none⟩ = some (.int .i64 n.kind) ∧ w'.cell? ⟨w.heap.size, 6, none⟩ = some (.int .i64 n.shift) ∧ (ldN ⟨w.heap.size, 0, none⟩).run Tryz.prog w' = .ok (.agg (nc n)) w' ∧ NodeAt w' w.heap.size 0 n ∧ Below w.heap.size w w') (first | exact HS.out | exact bxa_keep hb5 (by assumption) | exact bxa_drew (by assumption)) (first | ((with_reducible refine (bare_any n _).mono ?_); rintro e w5 ⟨rfl, hb5⟩))
         all_goals go_wp2_with fail
         all_goals (go_ret; exact ⟨ret_bool HY.out.symm, andThen HBW.out hb5⟩))
  by_cases g12 : n.sign = 1 ∨ n.sign = 2
  rotate_left
  · have q0 : (n.sign == 0) = false := by simp [g0]
    have q1 : (n.sign != 1) = true := by simp; omega
    have q2 : (n.sign != 2) = true := by simp; omega
    have G0 := Lib.hid g0
    have G12 := Lib.hid g12
    clear g0 g12
    go_enter Tryz.func77, Tryz.ntmps77
    go_wp2_with (first | (with_reducible show wpList _ _ _ (_ :: _) _ _; refine wpList_load_node rfl _ rfl _ _ rfl _ (by repeat (first | apply NodeAt.row | (apply Blk.new'; first | rfl | (simp; done)) | (apply Blk.node; apply Blk.new'; first | rfl | (simp; done)) | assumption | apply NodeAt.alloc)) ?_) | (go_at_call 98; (with_reducible refine (three3_any _ _).mono ?_); rintro e w' ⟨rfl, rfl⟩; rw [HT.out]) | (go_at_call 79; (with_reducible refine (rdimen_any _ _).mono ?_); rintro e w' ⟨rfl, rfl⟩; rw [HS.out]))
    go_ret
    exact ⟨ret_bool (boxR_no (.inr (.inr ⟨G0.out, .inl (by have := G12.out; omega)⟩))).symm, by repeat (first | exact Below.refl _ _ | refine andAlloc ?_ _)⟩
  have q0 : (n.sign == 0) = false := by simp [g0]
  have G0 := Lib.hid g0
  have G12 := Lib.hid g12
  obtain ⟨p1, p2, p3, q3⟩ : ∃ p1 p2 p3 : Bool, ((n.sign != 1) = p1 ∧ (n.sign != 2) = p2 ∧ (n.sign == 2) = p3) ∧ ((p1 = false ∧ p2 = true ∧ p3 = false ∧ ¬ n.sign = 2) ∨ (p1 = true ∧ p2 = false ∧ p3 = true ∧ n.sign = 2)) := by rcases g12 with h | h <;> exact ⟨_, _, _, ⟨rfl, rfl, rfl⟩, by simp [h]⟩
  obtain ⟨⟨q1, q2, q3⟩, q4⟩ := q3
  obtain ⟨p4, q5, q6⟩ : ∃ p4 : Bool, (n.order == 0) = p4 ∧ ((p4 = true ∧ n.order = 0) ∨ (p4 = false ∧ ¬ n.order = 0)) := ⟨_, rfl, by by_cases h : n.order = 0 <;> simp [h]⟩
  have Q4 := Lib.hid q4
  have Q6 := Lib.hid q6
  clear g0 g12
  by_cases hb : 0 ≤ n.order ∧ n.order ≤ 3 ∧ 1 ≤ n.num ∧ n.num ≤ 1152921504606846976 ∧ 1 ≤ n.den ∧ n.den ≤ 1152921504606846976
  rotate_left
  · have HB := Lib.hid hb
    clear hb
    rcases q4 with ⟨rfl, rfl, rfl, h⟩ | ⟨rfl, rfl, rfl, h⟩
    all_goals
      rcases q6 with ⟨rfl, h'⟩ | ⟨rfl, h'⟩
      all_goals
        clear h h' Q4 Q6
        go_enter Tryz.func77, Tryz.ntmps77
        go_wp2_with (first | (with_reducible show wpList _ _ _ (_ :: _) _ _; refine wpList_load_node rfl _ rfl _ _ rfl _ (by repeat (first | apply NodeAt.row | (apply Blk.new'; first | rfl | (simp; done)) | (apply Blk.node; apply Blk.new'; first | rfl | (simp; done)) | assumption | apply NodeAt.alloc)) ?_) | (go_at_call 98; (with_reducible refine (three3_any _ _).mono ?_); rintro e w' ⟨rfl, rfl⟩; rw [HT.out]) | (go_at_call 79; (with_reducible refine (rdimen_any _ _).mono ?_); rintro e w' ⟨rfl, rfl⟩; rw [HS.out]))
        all_goals first
          | (exfalso; have hb := HB.out; omega)
          | (go_ret; exact ⟨ret_bool (boxR_no (.inr (.inr ⟨G0.out, .inr (by have hb := HB.out; omega)⟩))).symm, by repeat (first | exact Below.refl _ _ | refine andAlloc ?_ _)⟩)
  · obtain ⟨b1, b2, b3, b4, b5, b6⟩ := hb
    by_cases hdn : n.den < n.num
    · rcases q4 with ⟨rfl, rfl, rfl, h⟩ | ⟨rfl, rfl, rfl, h⟩
      all_goals
        rcases q6 with ⟨rfl, h'⟩ | ⟨rfl, h'⟩
        all_goals
          have H1 := Lib.hid h
          have H2 := Lib.hid h'
          clear h h' Q4 Q6
          go_enter Tryz.func77, Tryz.ntmps77
          go_wp2_with (first | (with_reducible show wpList _ _ _ (_ :: _) _ _; refine wpList_load_node rfl _ rfl _ _ rfl _ (by repeat (first | apply NodeAt.row | (apply Blk.new'; first | rfl | (simp; done)) | (apply Blk.node; apply Blk.new'; first | rfl | (simp; done)) | assumption | apply NodeAt.alloc)) ?_) | (go_at_call 98; (with_reducible refine (three3_any _ _).mono ?_); rintro e w' ⟨rfl, rfl⟩; rw [HT.out]) | (go_at_call 79; (with_reducible refine (rdimen_any _ _).mono ?_); rintro e w' ⟨rfl, rfl⟩; rw [HS.out]))
          all_goals first
            | (go_ret; exact ⟨ret_bool (boxR_no (by exact .inr (.inr ⟨G0.out, .inr (.inr (.inr (.inr (.inr (.inr (.inr ⟨H1.out, H2.out, hdn⟩))))))⟩))).symm, by repeat (first | exact Below.refl _ _ | refine andAlloc ?_ _)⟩)
            | (have hy := boxR_yes1 (by have x1 := H1.out; have x2 := H2.out; exact ⟨HT.out, HS.out, G0.out, G12.out, b1, b2, b3, b4, b5, b6, by omega⟩)
               have HY := Lib.hid hy
               clear hy
               have HS := Lib.hid (show (fun w' => w'.cell? ⟨w.heap.size, 0, none⟩ = some (.int .i64 n.kind) ∧ w'.cell? ⟨w.heap.size, 6, none⟩ = some (.int .i64 n.shift) ∧ w'.cell? ⟨w.heap.size, 12, none⟩ = some (.int .i64 n.sign) ∧ w'.cell? ⟨w.heap.size, 13, none⟩ = some (.int .i64 n.order) ∧ w'.cell? ⟨w.heap.size, 14, none⟩ = some (.int .i64 n.num) ∧ w'.cell? ⟨w.heap.size, 15, none⟩ = some (.int .i64 n.den) ∧ (ldN ⟨w.heap.size, 0, none⟩).run Tryz.prog w' = .ok (.agg (nc n)) w' ∧ NodeAt w' w.heap.size 0 n ∧ Below w.heap.size w w') ((w.alloc (.cells (nc n) 36)).alloc (.cells (nc n) 36)).drew from ⟨by simp [go_sem], by simp [go_sem], by simp [go_sem], by simp [go_sem], by simp [go_sem], by simp [go_sem], run_ldN (NodeAt.drewN (NodeAt.alloc (Blk.node (Blk.new' rfl)) _) 1), NodeAt.drewN (NodeAt.alloc (Blk.node (Blk.new' rfl)) _) 1, below_drewN (andAlloc (andAlloc (Below.refl _ _) _) _) 1⟩)
               have hbn : ∀ w, (bldN #[(0, .int .i64 n.kind), (6, .int .i64 n.shift), (8, .int .i64 n.sign), (9, .int .i64 n.order), (10, .int .i64 n.num), (11, .int .i64 n.den)]).run Tryz.prog w = .ok (.agg (nc { nz n.kind with shift := n.shift, sign := n.sign, order := n.order, num := n.num, den := n.den })) w := fun w => by rw [← bldN_eq]; exact run_build w 36 _ _ (by kernel_rfl)
               have hq : ∀ w, (eqN (.agg (nc (bareR n))) (.agg (nc { nz n.kind with shift := n.shift, sign := n.sign, order := n.order, num := n.num, den := n.den }))).run Tryz.prog w = .ok (.bool (eqB (bareR n) { nz n.kind with shift := n.shift, sign := n.sign, order := n.order, num := n.num, den := n.den })) w := fun w => run_eqN (bareR n) { nz n.kind with shift := n.shift, sign := n.sign, order := n.order, num := n.num, den := n.den } w
               have HBW : RowKit.Hid (Below w.heap.size w ((w.alloc (.cells (nc n) 36)).alloc (.cells (nc n) 36)).drew) := Lib.hid HS.out.2.2.2.2.2.2.2.2
               go_region_held3 (fun w' => w'.cell? ⟨w.heap.size, 0, none⟩ = some (.int .i64 n.kind) ∧ w'.cell? ⟨w.heap.size, 6, none⟩ = some (.int .i64 n.shift) ∧ w'.cell? ⟨w.heap.size, 12, none⟩ = some (.int .i64 n.sign) ∧ w'.cell? ⟨w.heap.size, 13, none⟩ = some (.int .i64 n.order) ∧ w'.cell? ⟨w.heap.size, 14, none⟩ = some (.int .i64 n.num) ∧ w'.cell? ⟨w.heap.size, 15, none⟩ = some (.int .i64 n.den) ∧ (ldN ⟨w.heap.size, 0, none⟩).run Tryz.prog w' = .ok (.agg (nc n)) w' ∧ NodeAt w' w.heap.size 0 n ∧ Below w.heap.size w w') (first | exact HS.out | exact bxb_keep hb5 (by assumption) | exact bxb_drew (by assumption)) (first | ((with_reducible refine (bare_any n _).mono ?_); rintro e w5 ⟨rfl, hb5⟩))
               all_goals go_wp2_with fail
               all_goals (go_ret; exact ⟨ret_bool HY.out.symm, andThen HBW.out hb5⟩))

    · rcases q4 with ⟨rfl, rfl, rfl, h⟩ | ⟨rfl, rfl, rfl, h⟩
      all_goals
        rcases q6 with ⟨rfl, h'⟩ | ⟨rfl, h'⟩
        all_goals
          clear h h' Q4 Q6
          go_enter Tryz.func77, Tryz.ntmps77
          go_wp2_with (first | (with_reducible show wpList _ _ _ (_ :: _) _ _; refine wpList_load_node rfl _ rfl _ _ rfl _ (by repeat (first | apply NodeAt.row | (apply Blk.new'; first | rfl | (simp; done)) | (apply Blk.node; apply Blk.new'; first | rfl | (simp; done)) | assumption | apply NodeAt.alloc)) ?_) | (go_at_call 98; (with_reducible refine (three3_any _ _).mono ?_); rintro e w' ⟨rfl, rfl⟩; rw [HT.out]) | (go_at_call 79; (with_reducible refine (rdimen_any _ _).mono ?_); rintro e w' ⟨rfl, rfl⟩; rw [HS.out]))
          all_goals first
            | (go_ret; exact ⟨ret_bool (boxR_no (by exact .inl (by assumption))).symm, by repeat (first | exact Below.refl _ _ | refine andAlloc ?_ _)⟩)
            | (have hy := boxR_yes1 (by exact ⟨HT.out, HS.out, G0.out, G12.out, b1, b2, b3, b4, b5, b6, by omega⟩)
               have HY := Lib.hid hy
               clear hy
               have HS := Lib.hid (show (fun w' => w'.cell? ⟨w.heap.size, 0, none⟩ = some (.int .i64 n.kind) ∧ w'.cell? ⟨w.heap.size, 6, none⟩ = some (.int .i64 n.shift) ∧ w'.cell? ⟨w.heap.size, 12, none⟩ = some (.int .i64 n.sign) ∧ w'.cell? ⟨w.heap.size, 13, none⟩ = some (.int .i64 n.order) ∧ w'.cell? ⟨w.heap.size, 14, none⟩ = some (.int .i64 n.num) ∧ w'.cell? ⟨w.heap.size, 15, none⟩ = some (.int .i64 n.den) ∧ (ldN ⟨w.heap.size, 0, none⟩).run Tryz.prog w' = .ok (.agg (nc n)) w' ∧ NodeAt w' w.heap.size 0 n ∧ Below w.heap.size w w') ((w.alloc (.cells (nc n) 36)).alloc (.cells (nc n) 36)).drew from ⟨by simp [go_sem], by simp [go_sem], by simp [go_sem], by simp [go_sem], by simp [go_sem], by simp [go_sem], run_ldN (NodeAt.drewN (NodeAt.alloc (Blk.node (Blk.new' rfl)) _) 1), NodeAt.drewN (NodeAt.alloc (Blk.node (Blk.new' rfl)) _) 1, below_drewN (andAlloc (andAlloc (Below.refl _ _) _) _) 1⟩)
               have hbn : ∀ w, (bldN #[(0, .int .i64 n.kind), (6, .int .i64 n.shift), (8, .int .i64 n.sign), (9, .int .i64 n.order), (10, .int .i64 n.num), (11, .int .i64 n.den)]).run Tryz.prog w = .ok (.agg (nc { nz n.kind with shift := n.shift, sign := n.sign, order := n.order, num := n.num, den := n.den })) w := fun w => by rw [← bldN_eq]; exact run_build w 36 _ _ (by kernel_rfl)
               have hq : ∀ w, (eqN (.agg (nc (bareR n))) (.agg (nc { nz n.kind with shift := n.shift, sign := n.sign, order := n.order, num := n.num, den := n.den }))).run Tryz.prog w = .ok (.bool (eqB (bareR n) { nz n.kind with shift := n.shift, sign := n.sign, order := n.order, num := n.num, den := n.den })) w := fun w => run_eqN (bareR n) { nz n.kind with shift := n.shift, sign := n.sign, order := n.order, num := n.num, den := n.den } w
               have HBW : RowKit.Hid (Below w.heap.size w ((w.alloc (.cells (nc n) 36)).alloc (.cells (nc n) 36)).drew) := Lib.hid HS.out.2.2.2.2.2.2.2.2
               go_region_held3 (fun w' => w'.cell? ⟨w.heap.size, 0, none⟩ = some (.int .i64 n.kind) ∧ w'.cell? ⟨w.heap.size, 6, none⟩ = some (.int .i64 n.shift) ∧ w'.cell? ⟨w.heap.size, 12, none⟩ = some (.int .i64 n.sign) ∧ w'.cell? ⟨w.heap.size, 13, none⟩ = some (.int .i64 n.order) ∧ w'.cell? ⟨w.heap.size, 14, none⟩ = some (.int .i64 n.num) ∧ w'.cell? ⟨w.heap.size, 15, none⟩ = some (.int .i64 n.den) ∧ (ldN ⟨w.heap.size, 0, none⟩).run Tryz.prog w' = .ok (.agg (nc n)) w' ∧ NodeAt w' w.heap.size 0 n ∧ Below w.heap.size w w') (first | exact HS.out | exact bxb_keep hb5 (by assumption) | exact bxb_drew (by assumption)) (first | ((with_reducible refine (bare_any n _).mono ?_); rintro e w5 ⟨rfl, hb5⟩))
               all_goals go_wp2_with fail
               all_goals (go_ret; exact ⟨ret_bool HY.out.symm, andThen HBW.out hb5⟩))

end Go.Proofs.YtmcekdjhkjhcdaaGreatDoor.No

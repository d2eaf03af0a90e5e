import Derived.Test.YtmcekdjhkjhcdaaGreatDoorNodeF
import Derived.Test.YtmcekdjhkjhcdaaGreatDoorNw
import Derived.Deep.RegionHeld3
/- Contracts of the document's Good and its kin (printed by gen_nodegd.py). Conditions: those that each theorem names. -/
namespace Go.Proofs.YtmcekdjhkjhcdaaGreatDoor.No
open Go.ChangeShapes Go.WideShapes Go.ChangeAt Go.RowKit
open Me Np
set_option linter.unusedVariables false
set_option linter.unusedSimpArgs false
attribute [local go_sem ↓] ldN_eq eqN_eq bldN_eq

theorem rdimen_any (x : Int) (w : World) : Calls Tryz.prog 79 #[.int .i64 x] w fun e w' => e = .returned (.bool (dimB x)) ∧ w = w' := by
  by_cases h0 : -1073741823 ≤ x
  · by_cases h1 : x ≤ 1073741823
    · go_enter Tryz.func79, Tryz.ntmps79
      go_wp2
      go_ret
      exact ⟨ret_bool (by simp [dimB, h0, h1]), rfl⟩
    · go_enter Tryz.func79, Tryz.ntmps79
      go_wp2
      go_ret
      exact ⟨ret_bool (by simp [dimB, h0, h1]), rfl⟩
  · go_enter Tryz.func79, Tryz.ntmps79
    go_wp2
    go_ret
    exact ⟨ret_bool (by simp [dimB]; omega), rfl⟩
set_option maxRecDepth 100000 in
theorem three3_any (n : Nd) (w : World) : Calls Tryz.prog 98 #[.agg (nc n)] w fun e w' => e = .returned (.bool (three3 n)) ∧ w.alloc (.cells (nc n) 36) = w' := by
  go_enter Tryz.func98, Tryz.ntmps98
  go_wp2_with (go_at_call 79; refine (rdimen_any _ _).mono ?_; rintro e w' ⟨rfl, rfl⟩)
  all_goals (go_ret; exact ⟨ret_bool (by simp_all [three3]), rfl⟩)
set_option maxRecDepth 100000 in
theorem bare_any (n : Nd) (w : World) : Calls Tryz.prog 99 #[.agg (nc n)] w fun e w' => e = .returned (.agg (nc (bareR n))) ∧ Below w.heap.size w w' := by
  go_enter Tryz.func99, Tryz.ntmps99
  go_wp2_with (first | (with_reducible show wpList _ _ _ (_ :: _) _ _; refine wpList_load_node rfl _ rfl _ _ rfl _ (by repeat (first | apply NodeAt.row | (apply Blk.new'; first | rfl | (simp; done)) | (apply Blk.node; apply Blk.new'; first | rfl | (simp; done)) | assumption | apply NodeAt.alloc)) ?_) | (with_reducible show wpList _ _ _ (_ :: _) _ _; refine wpList_alloc_node rfl rfl ?_) | (with_reducible show wpList _ _ _ (_ :: _) _ _; refine wpList_store_node rfl _ _ rfl _ _ _ rfl rfl _ (by repeat (first | (apply Blk.new'; first | rfl | (simp; done)) | assumption | apply Blk.alloc)) ?_))
  exact bodyPost_ret (v := .agg (nc (bareR n))) (results_node rfl _ _ _ _ rfl (by repeat (first | apply NodeAt.row | (apply Blk.new'; first | rfl | (simp; done)) | (apply Blk.node; apply Blk.new'; first | rfl | (simp; done)) | assumption | apply NodeAt.alloc))) rfl ⟨rfl, (by repeat (first | (refine below_setRow ?_ _ _ ?_; rotate_left; focus (simp; done)) | exact Below.refl _ _ | exact hb9 | refine andThen ?_ hb9 | refine andAlloc ?_ _))⟩

theorem gly_keep {n : Nd} {w : World} {g : Nat} {W w5 : World} (hb : Below W.heap.size W w5) (h : (fun w' => w'.cell? ⟨g, 0, none⟩ = some (.int .i64 n.kind) ∧ w'.cell? ⟨g, 1, none⟩ = some (.int .i64 n.font) ∧ w'.cell? ⟨g, 2, none⟩ = some (.int .u8 n.char) ∧ w'.cell? ⟨g, 18, none⟩ = some (.string n.text) ∧ (ldN ⟨g, 0, none⟩).run Tryz.prog w' = .ok (.agg (nc n)) w' ∧ NodeAt w' g 0 n ∧ Below w.heap.size w w') W) : (fun w' => w'.cell? ⟨g, 0, none⟩ = some (.int .i64 n.kind) ∧ w'.cell? ⟨g, 1, none⟩ = some (.int .i64 n.font) ∧ w'.cell? ⟨g, 2, none⟩ = some (.int .u8 n.char) ∧ w'.cell? ⟨g, 18, none⟩ = some (.string n.text) ∧ (ldN ⟨g, 0, none⟩).run Tryz.prog w' = .ok (.agg (nc n)) w' ∧ NodeAt w' g 0 n ∧ Below w.heap.size w w') w5 := by
  obtain ⟨hc0, hc1, hc2, hc3, h3, h4, h5⟩ := h
  have hn := h4.below hb h4.lt
  exact ⟨(by rw [hb.cell (block_lt_of_cell hc0)]; exact hc0), (by rw [hb.cell (block_lt_of_cell hc1)]; exact hc1), (by rw [hb.cell (block_lt_of_cell hc2)]; exact hc2), (by rw [hb.cell (block_lt_of_cell hc3)]; exact hc3), run_ldN hn, hn, andThen h5 hb⟩
theorem gly_drew {n : Nd} {w : World} {g : Nat} {W : World} (h : (fun w' => w'.cell? ⟨g, 0, none⟩ = some (.int .i64 n.kind) ∧ w'.cell? ⟨g, 1, none⟩ = some (.int .i64 n.font) ∧ w'.cell? ⟨g, 2, none⟩ = some (.int .u8 n.char) ∧ w'.cell? ⟨g, 18, none⟩ = some (.string n.text) ∧ (ldN ⟨g, 0, none⟩).run Tryz.prog w' = .ok (.agg (nc n)) w' ∧ NodeAt w' g 0 n ∧ Below w.heap.size w w') W) : (fun w' => w'.cell? ⟨g, 0, none⟩ = some (.int .i64 n.kind) ∧ w'.cell? ⟨g, 1, none⟩ = some (.int .i64 n.font) ∧ w'.cell? ⟨g, 2, none⟩ = some (.int .u8 n.char) ∧ w'.cell? ⟨g, 18, none⟩ = some (.string n.text) ∧ (ldN ⟨g, 0, none⟩).run Tryz.prog w' = .ok (.agg (nc n)) w' ∧ NodeAt w' g 0 n ∧ Below w.heap.size w w') W.drew := by
  obtain ⟨hc0, hc1, hc2, hc3, h3, h4, h5⟩ := h
  have hn : NodeAt W.drew g 0 n := NodeAt.drewN h4 1
  exact ⟨hc0, hc1, hc2, hc3, run_ldN hn, hn, below_drewN h5 1⟩

theorem text_list {t : ByteArray} : t.toList = [] ↔ t.size = 0 := by
  rw [← text_none]
  constructor
  · intro h
    exact text_eq (by rw [h]; simp)
  · rintro rfl
    simp
theorem glyphR_no {n : Nd} (h : three3 n = false ∨ n.font < 0 ∨ 64 ≤ n.font ∨ ((n.kind == 1) = true ∧ ¬ n.text.toList = []) ∨ ((n.kind == 2) = true ∧ ((n.text.size : Int) < 1 ∨ 63 < (n.text.size : Int)))) : glyphR n = false := by
  unfold glyphR
  rw [if_neg]
  intro hh
  simp only [Bool.and_eq_true, winB, decide_eq_true_eq] at hh
  obtain ⟨⟨h1, h2⟩, h3⟩ := hh
  rcases h with h | h | h | ⟨h, g⟩ | ⟨h, g⟩
  · rw [h1] at h; cases h
  · omega
  · omega
  · rw [if_pos (by simpa using h)] at h3
    exact g (text_list.2 (by simpa using h3))
  · rw [if_neg (by simp at h; omega)] at h3
    simp only [decide_eq_true_eq] at h3
    omega
theorem glyphR_yes {n : Nd} (h : three3 n = true ∧ 0 ≤ n.font ∧ n.font < 64 ∧ (((n.kind == 1) = true ∧ n.text.toList = []) ∨ ((n.kind == 1) = false ∧ ¬ (n.text.size : Int) < 1 ∧ ¬ 63 < (n.text.size : Int)))) : glyphR n = eqB (bareR n) { nz n.kind with font := n.font, char := n.char, text := n.text } := by
  unfold glyphR
  rw [if_pos]
  obtain ⟨h1, h2, h3, h4⟩ := h
  simp only [Bool.and_eq_true, winB, decide_eq_true_eq]
  refine ⟨⟨h1, by omega⟩, ?_⟩
  rcases h4 with ⟨h, g⟩ | ⟨h, g, g2⟩
  · rw [if_pos (by simpa using h)]
    simpa using text_list.1 g
  · rw [if_neg (by simpa using h)]
    simp only [decide_eq_true_eq]
    omega
set_option maxHeartbeats 2000000 in
set_option maxRecDepth 100000 in
theorem rglyph_any (n : Nd) (w : World) (hk : n.kind = 1 ∨ n.kind = 2) : Calls Tryz.prog 75 #[.agg (nc n)] w fun e w' => e = .returned (.bool (glyphR n)) ∧ Below w.heap.size w w' := by
  generalize ht : three3 n = T3
  have HT := Lib.hid ht
  have HK : ((n.kind == 1) = true ∧ (n.kind == 2) = false) ∨ ((n.kind == 1) = false ∧ (n.kind == 2) = true) := by rcases hk with h | h <;> simp [h]
  clear ht hk
  cases T3
  · go_enter Tryz.func75, Tryz.ntmps75
    go_wp2_with (first | (with_reducible show wpList _ _ _ (_ :: _) _ _; refine wpList_load_node rfl _ rfl _ _ rfl _ (by repeat (first | apply NodeAt.row | (apply Blk.new'; first | rfl | (simp; done)) | (apply Blk.node; apply Blk.new'; first | rfl | (simp; done)) | assumption | apply NodeAt.alloc)) ?_) | (go_at_call 98; (with_reducible refine (three3_any _ _).mono ?_); rintro e w' ⟨rfl, rfl⟩; rw [HT.out]))
    go_ret
    exact ⟨ret_bool (glyphR_no (.inl HT.out)).symm, by repeat (first | exact Below.refl _ _ | refine andAlloc ?_ _)⟩
  rcases HK with ⟨k1, k2⟩ | ⟨k1, k2⟩
  · go_enter Tryz.func75, Tryz.ntmps75
    go_wp2_with (first | (with_reducible show wpList _ _ _ (_ :: _) _ _; refine wpList_load_node rfl _ rfl _ _ rfl _ (by repeat (first | apply NodeAt.row | (apply Blk.new'; first | rfl | (simp; done)) | (apply Blk.node; apply Blk.new'; first | rfl | (simp; done)) | assumption | apply NodeAt.alloc)) ?_) | (go_at_call 98; (with_reducible refine (three3_any _ _).mono ?_); rintro e w' ⟨rfl, rfl⟩; rw [HT.out]))
    all_goals first
      | (go_ret; exact ⟨ret_bool (glyphR_no (by first | exact .inr (.inl (by omega)) | exact .inr (.inr (.inl (by omega))) | exact .inr (.inr (.inr (.inl ⟨k1, by assumption⟩))) | exact .inr (.inr (.inr (.inr ⟨k2, by omega⟩))))).symm, by repeat (first | exact Below.refl _ _ | refine andAlloc ?_ _)⟩)
      | (have hy := glyphR_yes (by refine ⟨HT.out, by omega, by omega, ?_⟩; first | exact .inl ⟨k1, by assumption⟩ | exact .inr ⟨k1, by omega, by omega⟩)
         have HY := Lib.hid hy
         clear hy
         have HS := Lib.hid (show (fun w' => w'.cell? ⟨w.heap.size, 0, none⟩ = some (.int .i64 n.kind) ∧ w'.cell? ⟨w.heap.size, 1, none⟩ = some (.int .i64 n.font) ∧ w'.cell? ⟨w.heap.size, 2, none⟩ = some (.int .u8 n.char) ∧ w'.cell? ⟨w.heap.size, 18, none⟩ = some (.string n.text) ∧ (ldN ⟨w.heap.size, 0, none⟩).run Tryz.prog w' = .ok (.agg (nc n)) w' ∧ NodeAt w' w.heap.size 0 n ∧ Below w.heap.size w w') ((w.alloc (.cells (nc n) 36)).alloc (.cells (nc n) 36)).drew from ⟨by simp [go_sem], by simp [go_sem], by simp [go_sem], by simp [go_sem], run_ldN (NodeAt.drewN (NodeAt.alloc (Blk.node (Blk.new' rfl)) _) 1), NodeAt.drewN (NodeAt.alloc (Blk.node (Blk.new' rfl)) _) 1, below_drewN (andAlloc (andAlloc (Below.refl _ _) _) _) 1⟩)
         have hbn : ∀ w, (bldN #[(0, .int .i64 n.kind), (1, .int .i64 n.font), (2, .int .u8 n.char), (14, .string n.text)]).run Tryz.prog w = .ok (.agg (nc { nz n.kind with font := n.font, char := n.char, text := n.text })) w := fun w => by rw [← bldN_eq]; exact run_build w 36 _ _ (by kernel_rfl)
         have hq : ∀ w, (eqN (.agg (nc (bareR n))) (.agg (nc { nz n.kind with font := n.font, char := n.char, text := n.text }))).run Tryz.prog w = .ok (.bool (eqB (bareR n) { nz n.kind with font := n.font, char := n.char, text := n.text })) w := fun w => run_eqN (bareR n) { nz n.kind with font := n.font, char := n.char, text := n.text } w
         have HBW : RowKit.Hid (Below w.heap.size w ((w.alloc (.cells (nc n) 36)).alloc (.cells (nc n) 36)).drew) := Lib.hid HS.out.2.2.2.2.2.2
         go_region_held3 (fun w' => w'.cell? ⟨w.heap.size, 0, none⟩ = some (.int .i64 n.kind) ∧ w'.cell? ⟨w.heap.size, 1, none⟩ = some (.int .i64 n.font) ∧ w'.cell? ⟨w.heap.size, 2, none⟩ = some (.int .u8 n.char) ∧ w'.cell? ⟨w.heap.size, 18, none⟩ = some (.string n.text) ∧ (ldN ⟨w.heap.size, 0, none⟩).run Tryz.prog w' = .ok (.agg (nc n)) w' ∧ NodeAt w' w.heap.size 0 n ∧ Below w.heap.size w w') (first | exact HS.out | exact gly_keep hb5 (by assumption) | exact gly_drew (by assumption)) (first | ((with_reducible refine (bare_any n _).mono ?_); rintro e w5 ⟨rfl, hb5⟩))
         all_goals go_wp2_with fail
         all_goals (go_ret; exact ⟨ret_bool HY.out.symm, andThen HBW.out hb5⟩))

  · go_enter Tryz.func75, Tryz.ntmps75
    go_wp2_with (first | (with_reducible show wpList _ _ _ (_ :: _) _ _; refine wpList_load_node rfl _ rfl _ _ rfl _ (by repeat (first | apply NodeAt.row | (apply Blk.new'; first | rfl | (simp; done)) | (apply Blk.node; apply Blk.new'; first | rfl | (simp; done)) | assumption | apply NodeAt.alloc)) ?_) | (go_at_call 98; (with_reducible refine (three3_any _ _).mono ?_); rintro e w' ⟨rfl, rfl⟩; rw [HT.out]))
    all_goals first
      | (go_ret; exact ⟨ret_bool (glyphR_no (by first | exact .inr (.inl (by omega)) | exact .inr (.inr (.inl (by omega))) | exact .inr (.inr (.inr (.inl ⟨k1, by assumption⟩))) | exact .inr (.inr (.inr (.inr ⟨k2, by omega⟩))))).symm, by repeat (first | exact Below.refl _ _ | refine andAlloc ?_ _)⟩)
      | (have hy := glyphR_yes (by refine ⟨HT.out, by omega, by omega, ?_⟩; first | exact .inl ⟨k1, by assumption⟩ | exact .inr ⟨k1, by omega, by omega⟩)
         have HY := Lib.hid hy
         clear hy
         have HS := Lib.hid (show (fun w' => w'.cell? ⟨w.heap.size, 0, none⟩ = some (.int .i64 n.kind) ∧ w'.cell? ⟨w.heap.size, 1, none⟩ = some (.int .i64 n.font) ∧ w'.cell? ⟨w.heap.size, 2, none⟩ = some (.int .u8 n.char) ∧ w'.cell? ⟨w.heap.size, 18, none⟩ = some (.string n.text) ∧ (ldN ⟨w.heap.size, 0, none⟩).run Tryz.prog w' = .ok (.agg (nc n)) w' ∧ NodeAt w' w.heap.size 0 n ∧ Below w.heap.size w w') ((w.alloc (.cells (nc n) 36)).alloc (.cells (nc n) 36)).drew from ⟨by simp [go_sem], by simp [go_sem], by simp [go_sem], by simp [go_sem], run_ldN (NodeAt.drewN (NodeAt.alloc (Blk.node (Blk.new' rfl)) _) 1), NodeAt.drewN (NodeAt.alloc (Blk.node (Blk.new' rfl)) _) 1, below_drewN (andAlloc (andAlloc (Below.refl _ _) _) _) 1⟩)
         have hbn : ∀ w, (bldN #[(0, .int .i64 n.kind), (1, .int .i64 n.font), (2, .int .u8 n.char), (14, .string n.text)]).run Tryz.prog w = .ok (.agg (nc { nz n.kind with font := n.font, char := n.char, text := n.text })) w := fun w => by rw [← bldN_eq]; exact run_build w 36 _ _ (by kernel_rfl)
         have hq : ∀ w, (eqN (.agg (nc (bareR n))) (.agg (nc { nz n.kind with font := n.font, char := n.char, text := n.text }))).run Tryz.prog w = .ok (.bool (eqB (bareR n) { nz n.kind with font := n.font, char := n.char, text := n.text })) w := fun w => run_eqN (bareR n) { nz n.kind with font := n.font, char := n.char, text := n.text } w
         have HBW : RowKit.Hid (Below w.heap.size w ((w.alloc (.cells (nc n) 36)).alloc (.cells (nc n) 36)).drew) := Lib.hid HS.out.2.2.2.2.2.2
         go_region_held3 (fun w' => w'.cell? ⟨w.heap.size, 0, none⟩ = some (.int .i64 n.kind) ∧ w'.cell? ⟨w.heap.size, 1, none⟩ = some (.int .i64 n.font) ∧ w'.cell? ⟨w.heap.size, 2, none⟩ = some (.int .u8 n.char) ∧ w'.cell? ⟨w.heap.size, 18, none⟩ = some (.string n.text) ∧ (ldN ⟨w.heap.size, 0, none⟩).run Tryz.prog w' = .ok (.agg (nc n)) w' ∧ NodeAt w' w.heap.size 0 n ∧ Below w.heap.size w w') (first | exact HS.out | exact gly_keep hb5 (by assumption) | exact gly_drew (by assumption)) (first | ((with_reducible refine (bare_any n _).mono ?_); rintro e w5 ⟨rfl, hb5⟩))
         all_goals go_wp2_with fail
         all_goals (go_ret; exact ⟨ret_bool HY.out.symm, andThen HBW.out hb5⟩))

theorem rul_keep {n : Nd} {w : World} {g : Nat} {W w5 : World} (hb : Below W.heap.size W w5) (h : (fun w' => w'.cell? ⟨g, 17, none⟩ = some (.int .i64 n.sub) ∧ (ldN ⟨g, 0, none⟩).run Tryz.prog w' = .ok (.agg (nc n)) w' ∧ NodeAt w' g 0 n ∧ Below w.heap.size w w') W) : (fun w' => w'.cell? ⟨g, 17, none⟩ = some (.int .i64 n.sub) ∧ (ldN ⟨g, 0, none⟩).run Tryz.prog w' = .ok (.agg (nc n)) w' ∧ NodeAt w' g 0 n ∧ Below w.heap.size w w') w5 := by
  obtain ⟨hc0, h3, h4, h5⟩ := h
  have hn := h4.below hb h4.lt
  exact ⟨(by rw [hb.cell (block_lt_of_cell hc0)]; exact hc0), run_ldN hn, hn, andThen h5 hb⟩
theorem rul_drew {n : Nd} {w : World} {g : Nat} {W : World} (h : (fun w' => w'.cell? ⟨g, 17, none⟩ = some (.int .i64 n.sub) ∧ (ldN ⟨g, 0, none⟩).run Tryz.prog w' = .ok (.agg (nc n)) w' ∧ NodeAt w' g 0 n ∧ Below w.heap.size w w') W) : (fun w' => w'.cell? ⟨g, 17, none⟩ = some (.int .i64 n.sub) ∧ (ldN ⟨g, 0, none⟩).run Tryz.prog w' = .ok (.agg (nc n)) w' ∧ NodeAt w' g 0 n ∧ Below w.heap.size w w') W.drew := by
  obtain ⟨hc0, h3, h4, h5⟩ := h
  have hn : NodeAt W.drew g 0 n := NodeAt.drewN h4 1
  exact ⟨hc0, run_ldN hn, hn, below_drewN h5 1⟩

theorem ruleR_no {n : Nd} (h : three3 n = false ∨ n.sub < 0 ∨ 3 < n.sub ∨ ((n.sub = 1 ∨ n.sub = 3) ∧ ¬ n.wd = 0) ∨ (2 ≤ n.sub ∧ (¬ n.ht = 0 ∨ ¬ n.dp = 0))) : ruleR n = false := by
  unfold ruleR
  rw [if_neg]
  intro hh
  simp only [Bool.and_eq_true, Bool.or_eq_true, winB, decide_eq_true_eq, beq_iff_eq] at hh
  obtain ⟨⟨⟨h1, h2⟩, h3⟩, h4⟩ := hh
  rcases h with h | h | h | ⟨h, g⟩ | ⟨h, g⟩
  · rw [h1] at h; cases h
  all_goals omega
theorem ruleR_yes {n : Nd} (h : three3 n = true ∧ 0 ≤ n.sub ∧ n.sub ≤ 3 ∧ (¬ (n.sub = 1 ∨ n.sub = 3) ∨ n.wd = 0) ∧ (n.sub < 2 ∨ (n.ht = 0 ∧ n.dp = 0))) : ruleR n = eqB (bareR n) { nz 3 with sub := n.sub } := by
  unfold ruleR
  rw [if_pos]
  obtain ⟨h1, h2, h3, h4⟩ := h
  simp only [Bool.and_eq_true, Bool.or_eq_true, winB, decide_eq_true_eq, beq_iff_eq]
  refine ⟨⟨⟨h1, by omega⟩, by omega⟩, by omega⟩
set_option maxHeartbeats 2000000 in
set_option maxRecDepth 100000 in
theorem rrule_any (n : Nd) (w : World) : Calls Tryz.prog 76 #[.agg (nc n)] w fun e w' => e = .returned (.bool (ruleR n)) ∧ Below w.heap.size w w' := by
  generalize ht : three3 n = T3
  have HT := Lib.hid ht
  clear ht
  cases T3
  · go_enter Tryz.func76, Tryz.ntmps76
    go_wp2_with (first | (with_reducible show wpList _ _ _ (_ :: _) _ _; refine wpList_load_node rfl _ rfl _ _ rfl _ (by repeat (first | apply NodeAt.row | (apply Blk.new'; first | rfl | (simp; done)) | (apply Blk.node; apply Blk.new'; first | rfl | (simp; done)) | assumption | apply NodeAt.alloc)) ?_) | (go_at_call 98; (with_reducible refine (three3_any _ _).mono ?_); rintro e w' ⟨rfl, rfl⟩; rw [HT.out]))
    go_ret
    exact ⟨ret_bool (ruleR_no (.inl HT.out)).symm, by repeat (first | exact Below.refl _ _ | refine andAlloc ?_ _)⟩
  by_cases s0 : n.sub < 0
  · go_enter Tryz.func76, Tryz.ntmps76
    go_wp2_with (first | (with_reducible show wpList _ _ _ (_ :: _) _ _; refine wpList_load_node rfl _ rfl _ _ rfl _ (by repeat (first | apply NodeAt.row | (apply Blk.new'; first | rfl | (simp; done)) | (apply Blk.node; apply Blk.new'; first | rfl | (simp; done)) | assumption | apply NodeAt.alloc)) ?_) | (go_at_call 98; (with_reducible refine (three3_any _ _).mono ?_); rintro e w' ⟨rfl, rfl⟩; rw [HT.out]))
    go_ret
    exact ⟨ret_bool (ruleR_no (.inr (.inl s0))).symm, by repeat (first | exact Below.refl _ _ | refine andAlloc ?_ _)⟩
  by_cases s3 : 3 < n.sub
  · go_enter Tryz.func76, Tryz.ntmps76
    go_wp2_with (first | (with_reducible show wpList _ _ _ (_ :: _) _ _; refine wpList_load_node rfl _ rfl _ _ rfl _ (by repeat (first | apply NodeAt.row | (apply Blk.new'; first | rfl | (simp; done)) | (apply Blk.node; apply Blk.new'; first | rfl | (simp; done)) | assumption | apply NodeAt.alloc)) ?_) | (go_at_call 98; (with_reducible refine (three3_any _ _).mono ?_); rintro e w' ⟨rfl, rfl⟩; rw [HT.out]))
    go_ret
    exact ⟨ret_bool (ruleR_no (.inr (.inr (.inl s3)))).symm, by repeat (first | exact Below.refl _ _ | refine andAlloc ?_ _)⟩
  obtain ⟨pd, d0, d1⟩ : ∃ pd : Bool, (n.dp != 0) = pd ∧ ((pd = true ∧ ¬ n.dp = 0) ∨ (pd = false ∧ n.dp = 0)) := ⟨_, rfl, by by_cases h : n.dp = 0 <;> simp [h]⟩
  have D1 := Lib.hid d1
  have hs : n.sub = 0 ∨ n.sub = 1 ∨ n.sub = 2 ∨ n.sub = 3 := by omega
  rcases hs with hs | hs | hs | hs

  · have m1 : ¬ n.sub % 2 = 1 := by rw [hs]; decide
    have m2 : n.sub < 2 := by omega
    have HSB := Lib.hid hs
    clear hs
    rcases d1 with ⟨rfl, d2⟩ | ⟨rfl, d2⟩
    all_goals
      have D2 := Lib.hid d2
      clear d2 D1
      go_enter Tryz.func76, Tryz.ntmps76
      go_wp2_with (first | (with_reducible show wpList _ _ _ (_ :: _) _ _; refine wpList_load_node rfl _ rfl _ _ rfl _ (by repeat (first | apply NodeAt.row | (apply Blk.new'; first | rfl | (simp; done)) | (apply Blk.node; apply Blk.new'; first | rfl | (simp; done)) | assumption | apply NodeAt.alloc)) ?_) | (go_at_call 98; (with_reducible refine (three3_any _ _).mono ?_); rintro e w' ⟨rfl, rfl⟩; rw [HT.out]))
      all_goals first
        | (go_ret; exact ⟨ret_bool (ruleR_no (by have hs := HSB.out; have hd := D2.out; first | exact .inr (.inr (.inr (.inl ⟨by omega, by assumption⟩))) | exact .inr (.inr (.inr (.inr ⟨by omega, .inl (by assumption)⟩))) | exact .inr (.inr (.inr (.inr ⟨by omega, .inr (by assumption)⟩))))).symm, by repeat (first | exact Below.refl _ _ | refine andAlloc ?_ _)⟩)
        | (have hy := ruleR_yes (by have hs := HSB.out; have hd := D2.out; refine ⟨HT.out, by omega, by omega, by omega, by omega⟩)
           have HY := Lib.hid hy
           clear hy
           have HS := Lib.hid (show (fun w' => w'.cell? ⟨w.heap.size, 17, none⟩ = some (.int .i64 n.sub) ∧ (ldN ⟨w.heap.size, 0, none⟩).run Tryz.prog w' = .ok (.agg (nc n)) w' ∧ NodeAt w' w.heap.size 0 n ∧ Below w.heap.size w w') ((w.alloc (.cells (nc n) 36)).alloc (.cells (nc n) 36)).drew from ⟨by simp [go_sem], run_ldN (NodeAt.drewN (NodeAt.alloc (Blk.node (Blk.new' rfl)) _) 1), NodeAt.drewN (NodeAt.alloc (Blk.node (Blk.new' rfl)) _) 1, below_drewN (andAlloc (andAlloc (Below.refl _ _) _) _) 1⟩)
           have hbn : ∀ w, (bldN #[(0, .int .i64 3), (13, .int .i64 n.sub)]).run Tryz.prog w = .ok (.agg (nc { nz 3 with sub := n.sub })) w := fun w => by rw [← bldN_eq]; exact run_build w 36 _ _ (by kernel_rfl)
           have hq : ∀ w, (eqN (.agg (nc (bareR n))) (.agg (nc { nz 3 with sub := n.sub }))).run Tryz.prog w = .ok (.bool (eqB (bareR n) { nz 3 with sub := n.sub })) w := fun w => run_eqN (bareR n) { nz 3 with sub := n.sub } w
           have HBW : RowKit.Hid (Below w.heap.size w ((w.alloc (.cells (nc n) 36)).alloc (.cells (nc n) 36)).drew) := Lib.hid HS.out.2.2.2
           go_region_held3 (fun w' => w'.cell? ⟨w.heap.size, 17, none⟩ = some (.int .i64 n.sub) ∧ (ldN ⟨w.heap.size, 0, none⟩).run Tryz.prog w' = .ok (.agg (nc n)) w' ∧ NodeAt w' w.heap.size 0 n ∧ Below w.heap.size w w') (first | exact HS.out | exact rul_keep hb5 (by assumption) | exact rul_drew (by assumption)) (first | ((with_reducible refine (bare_any n _).mono ?_); rintro e w5 ⟨rfl, hb5⟩))
           all_goals go_wp2_with fail
           all_goals (go_ret; exact ⟨ret_bool HY.out.symm, andThen HBW.out hb5⟩))

  · have m1 : n.sub % 2 = 1 := by rw [hs]; decide
    have m2 : n.sub < 2 := by omega
    have HSB := Lib.hid hs
    clear hs
    rcases d1 with ⟨rfl, d2⟩ | ⟨rfl, d2⟩
    all_goals
      have D2 := Lib.hid d2
      clear d2 D1
      go_enter Tryz.func76, Tryz.ntmps76
      go_wp2_with (first | (with_reducible show wpList _ _ _ (_ :: _) _ _; refine wpList_load_node rfl _ rfl _ _ rfl _ (by repeat (first | apply NodeAt.row | (apply Blk.new'; first | rfl | (simp; done)) | (apply Blk.node; apply Blk.new'; first | rfl | (simp; done)) | assumption | apply NodeAt.alloc)) ?_) | (go_at_call 98; (with_reducible refine (three3_any _ _).mono ?_); rintro e w' ⟨rfl, rfl⟩; rw [HT.out]))
      all_goals first
        | (go_ret; exact ⟨ret_bool (ruleR_no (by have hs := HSB.out; have hd := D2.out; first | exact .inr (.inr (.inr (.inl ⟨by omega, by assumption⟩))) | exact .inr (.inr (.inr (.inr ⟨by omega, .inl (by assumption)⟩))) | exact .inr (.inr (.inr (.inr ⟨by omega, .inr (by assumption)⟩))))).symm, by repeat (first | exact Below.refl _ _ | refine andAlloc ?_ _)⟩)
        | (have hy := ruleR_yes (by have hs := HSB.out; have hd := D2.out; refine ⟨HT.out, by omega, by omega, by omega, by omega⟩)
           have HY := Lib.hid hy
           clear hy
           have HS := Lib.hid (show (fun w' => w'.cell? ⟨w.heap.size, 17, none⟩ = some (.int .i64 n.sub) ∧ (ldN ⟨w.heap.size, 0, none⟩).run Tryz.prog w' = .ok (.agg (nc n)) w' ∧ NodeAt w' w.heap.size 0 n ∧ Below w.heap.size w w') ((w.alloc (.cells (nc n) 36)).alloc (.cells (nc n) 36)).drew from ⟨by simp [go_sem], run_ldN (NodeAt.drewN (NodeAt.alloc (Blk.node (Blk.new' rfl)) _) 1), NodeAt.drewN (NodeAt.alloc (Blk.node (Blk.new' rfl)) _) 1, below_drewN (andAlloc (andAlloc (Below.refl _ _) _) _) 1⟩)
           have hbn : ∀ w, (bldN #[(0, .int .i64 3), (13, .int .i64 n.sub)]).run Tryz.prog w = .ok (.agg (nc { nz 3 with sub := n.sub })) w := fun w => by rw [← bldN_eq]; exact run_build w 36 _ _ (by kernel_rfl)
           have hq : ∀ w, (eqN (.agg (nc (bareR n))) (.agg (nc { nz 3 with sub := n.sub }))).run Tryz.prog w = .ok (.bool (eqB (bareR n) { nz 3 with sub := n.sub })) w := fun w => run_eqN (bareR n) { nz 3 with sub := n.sub } w
           have HBW : RowKit.Hid (Below w.heap.size w ((w.alloc (.cells (nc n) 36)).alloc (.cells (nc n) 36)).drew) := Lib.hid HS.out.2.2.2
           go_region_held3 (fun w' => w'.cell? ⟨w.heap.size, 17, none⟩ = some (.int .i64 n.sub) ∧ (ldN ⟨w.heap.size, 0, none⟩).run Tryz.prog w' = .ok (.agg (nc n)) w' ∧ NodeAt w' w.heap.size 0 n ∧ Below w.heap.size w w') (first | exact HS.out | exact rul_keep hb5 (by assumption) | exact rul_drew (by assumption)) (first | ((with_reducible refine (bare_any n _).mono ?_); rintro e w5 ⟨rfl, hb5⟩))
           all_goals go_wp2_with fail
           all_goals (go_ret; exact ⟨ret_bool HY.out.symm, andThen HBW.out hb5⟩))

  · have m1 : ¬ n.sub % 2 = 1 := by rw [hs]; decide
    have m2 : 2 ≤ n.sub := by omega
    have HSB := Lib.hid hs
    clear hs
    rcases d1 with ⟨rfl, d2⟩ | ⟨rfl, d2⟩
    all_goals
      have D2 := Lib.hid d2
      clear d2 D1
      go_enter Tryz.func76, Tryz.ntmps76
      go_wp2_with (first | (with_reducible show wpList _ _ _ (_ :: _) _ _; refine wpList_load_node rfl _ rfl _ _ rfl _ (by repeat (first | apply NodeAt.row | (apply Blk.new'; first | rfl | (simp; done)) | (apply Blk.node; apply Blk.new'; first | rfl | (simp; done)) | assumption | apply NodeAt.alloc)) ?_) | (go_at_call 98; (with_reducible refine (three3_any _ _).mono ?_); rintro e w' ⟨rfl, rfl⟩; rw [HT.out]))
      all_goals first
        | (go_ret; exact ⟨ret_bool (ruleR_no (by have hs := HSB.out; have hd := D2.out; first | exact .inr (.inr (.inr (.inl ⟨by omega, by assumption⟩))) | exact .inr (.inr (.inr (.inr ⟨by omega, .inl (by assumption)⟩))) | exact .inr (.inr (.inr (.inr ⟨by omega, .inr (by assumption)⟩))))).symm, by repeat (first | exact Below.refl _ _ | refine andAlloc ?_ _)⟩)
        | (have hy := ruleR_yes (by have hs := HSB.out; have hd := D2.out; refine ⟨HT.out, by omega, by omega, by omega, by omega⟩)
           have HY := Lib.hid hy
           clear hy
           have HS := Lib.hid (show (fun w' => w'.cell? ⟨w.heap.size, 17, none⟩ = some (.int .i64 n.sub) ∧ (ldN ⟨w.heap.size, 0, none⟩).run Tryz.prog w' = .ok (.agg (nc n)) w' ∧ NodeAt w' w.heap.size 0 n ∧ Below w.heap.size w w') ((w.alloc (.cells (nc n) 36)).alloc (.cells (nc n) 36)).drew from ⟨by simp [go_sem], run_ldN (NodeAt.drewN (NodeAt.alloc (Blk.node (Blk.new' rfl)) _) 1), NodeAt.drewN (NodeAt.alloc (Blk.node (Blk.new' rfl)) _) 1, below_drewN (andAlloc (andAlloc (Below.refl _ _) _) _) 1⟩)
           have hbn : ∀ w, (bldN #[(0, .int .i64 3), (13, .int .i64 n.sub)]).run Tryz.prog w = .ok (.agg (nc { nz 3 with sub := n.sub })) w := fun w => by rw [← bldN_eq]; exact run_build w 36 _ _ (by kernel_rfl)
           have hq : ∀ w, (eqN (.agg (nc (bareR n))) (.agg (nc { nz 3 with sub := n.sub }))).run Tryz.prog w = .ok (.bool (eqB (bareR n) { nz 3 with sub := n.sub })) w := fun w => run_eqN (bareR n) { nz 3 with sub := n.sub } w
           have HBW : RowKit.Hid (Below w.heap.size w ((w.alloc (.cells (nc n) 36)).alloc (.cells (nc n) 36)).drew) := Lib.hid HS.out.2.2.2
           go_region_held3 (fun w' => w'.cell? ⟨w.heap.size, 17, none⟩ = some (.int .i64 n.sub) ∧ (ldN ⟨w.heap.size, 0, none⟩).run Tryz.prog w' = .ok (.agg (nc n)) w' ∧ NodeAt w' w.heap.size 0 n ∧ Below w.heap.size w w') (first | exact HS.out | exact rul_keep hb5 (by assumption) | exact rul_drew (by assumption)) (first | ((with_reducible refine (bare_any n _).mono ?_); rintro e w5 ⟨rfl, hb5⟩))
           all_goals go_wp2_with fail
           all_goals (go_ret; exact ⟨ret_bool HY.out.symm, andThen HBW.out hb5⟩))

  · have m1 : n.sub % 2 = 1 := by rw [hs]; decide
    have m2 : 2 ≤ n.sub := by omega
    have HSB := Lib.hid hs
    clear hs
    rcases d1 with ⟨rfl, d2⟩ | ⟨rfl, d2⟩
    all_goals
      have D2 := Lib.hid d2
      clear d2 D1
      go_enter Tryz.func76, Tryz.ntmps76
      go_wp2_with (first | (with_reducible show wpList _ _ _ (_ :: _) _ _; refine wpList_load_node rfl _ rfl _ _ rfl _ (by repeat (first | apply NodeAt.row | (apply Blk.new'; first | rfl | (simp; done)) | (apply Blk.node; apply Blk.new'; first | rfl | (simp; done)) | assumption | apply NodeAt.alloc)) ?_) | (go_at_call 98; (with_reducible refine (three3_any _ _).mono ?_); rintro e w' ⟨rfl, rfl⟩; rw [HT.out]))
      all_goals first
        | (go_ret; exact ⟨ret_bool (ruleR_no (by have hs := HSB.out; have hd := D2.out; first | exact .inr (.inr (.inr (.inl ⟨by omega, by assumption⟩))) | exact .inr (.inr (.inr (.inr ⟨by omega, .inl (by assumption)⟩))) | exact .inr (.inr (.inr (.inr ⟨by omega, .inr (by assumption)⟩))))).symm, by repeat (first | exact Below.refl _ _ | refine andAlloc ?_ _)⟩)
        | (have hy := ruleR_yes (by have hs := HSB.out; have hd := D2.out; refine ⟨HT.out, by omega, by omega, by omega, by omega⟩)
           have HY := Lib.hid hy
           clear hy
           have HS := Lib.hid (show (fun w' => w'.cell? ⟨w.heap.size, 17, none⟩ = some (.int .i64 n.sub) ∧ (ldN ⟨w.heap.size, 0, none⟩).run Tryz.prog w' = .ok (.agg (nc n)) w' ∧ NodeAt w' w.heap.size 0 n ∧ Below w.heap.size w w') ((w.alloc (.cells (nc n) 36)).alloc (.cells (nc n) 36)).drew from ⟨by simp [go_sem], run_ldN (NodeAt.drewN (NodeAt.alloc (Blk.node (Blk.new' rfl)) _) 1), NodeAt.drewN (NodeAt.alloc (Blk.node (Blk.new' rfl)) _) 1, below_drewN (andAlloc (andAlloc (Below.refl _ _) _) _) 1⟩)
           have hbn : ∀ w, (bldN #[(0, .int .i64 3), (13, .int .i64 n.sub)]).run Tryz.prog w = .ok (.agg (nc { nz 3 with sub := n.sub })) w := fun w => by rw [← bldN_eq]; exact run_build w 36 _ _ (by kernel_rfl)
           have hq : ∀ w, (eqN (.agg (nc (bareR n))) (.agg (nc { nz 3 with sub := n.sub }))).run Tryz.prog w = .ok (.bool (eqB (bareR n) { nz 3 with sub := n.sub })) w := fun w => run_eqN (bareR n) { nz 3 with sub := n.sub } w
           have HBW : RowKit.Hid (Below w.heap.size w ((w.alloc (.cells (nc n) 36)).alloc (.cells (nc n) 36)).drew) := Lib.hid HS.out.2.2.2
           go_region_held3 (fun w' => w'.cell? ⟨w.heap.size, 17, none⟩ = some (.int .i64 n.sub) ∧ (ldN ⟨w.heap.size, 0, none⟩).run Tryz.prog w' = .ok (.agg (nc n)) w' ∧ NodeAt w' w.heap.size 0 n ∧ Below w.heap.size w w') (first | exact HS.out | exact rul_keep hb5 (by assumption) | exact rul_drew (by assumption)) (first | ((with_reducible refine (bare_any n _).mono ?_); rintro e w5 ⟨rfl, hb5⟩))
           all_goals go_wp2_with fail
           all_goals (go_ret; exact ⟨ret_bool HY.out.symm, andThen HBW.out hb5⟩))

end Go.Proofs.YtmcekdjhkjhcdaaGreatDoor.No

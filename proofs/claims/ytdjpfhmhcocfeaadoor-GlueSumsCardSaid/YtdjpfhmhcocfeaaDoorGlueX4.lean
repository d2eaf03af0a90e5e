import Derived.Test.YtdjpfhmhcocfeaaDoorGlueX3
/- Contracts of Show, and of the document's. Conditions: those that each theorem names. -/
namespace Go.Proofs.YtdjpfhmhcocfeaaDoor.Gl
open Go.ChangeShapes Go.WideShapes Go.ChangeAt Go.RowKit
open Me Ss
set_option linter.unusedVariables false
set_option linter.unusedSimpArgs false

def plusT : ByteArray := ⟨#[32, 112, 108, 117, 115, 32]⟩
def minusT : ByteArray := ⟨#[32, 109, 105, 110, 117, 115, 32]⟩
def shT (n s h a b : Int) : ByteArray := if glueB n s h a b = true then prS n ++ amT plusT s a ++ amT minusT h b else ⟨#[]⟩
/-- What is held while the region runs. -/
theorem keepS {w W W' : World} {g : Nat} {n s h a b : Value} (hb : Below W.heap.size W W')
    (hS : W.cell? ⟨g, 0, none⟩ = some n ∧ W.cell? ⟨g, 1, none⟩ = some s ∧ W.cell? ⟨g, 2, none⟩ = some h ∧ W.cell? ⟨g, 3, none⟩ = some a ∧ W.cell? ⟨g, 4, none⟩ = some b ∧ g < W.heap.size ∧ Below w.heap.size w W) :
    W'.cell? ⟨g, 0, none⟩ = some n ∧ W'.cell? ⟨g, 1, none⟩ = some s ∧ W'.cell? ⟨g, 2, none⟩ = some h ∧ W'.cell? ⟨g, 3, none⟩ = some a ∧ W'.cell? ⟨g, 4, none⟩ = some b ∧ g < W'.heap.size ∧ Below w.heap.size w W' := by
  obtain ⟨c0, c1, c2, c3, c4, hg, hB⟩ := hS
  obtain ⟨hc, _⟩ := old_cells hb
  exact ⟨(hc g 0 hg).trans c0, (hc g 1 hg).trans c1, (hc g 2 hg).trans c2, (hc g 3 hg).trans c3, (hc g 4 hg).trans c4, Nat.lt_of_lt_of_le hg hb.size, andThen hB hb⟩
theorem keepB {w W : World} {g : Nat} {n s h a b : Value}
    (hS : W.cell? ⟨g, 0, none⟩ = some n ∧ W.cell? ⟨g, 1, none⟩ = some s ∧ W.cell? ⟨g, 2, none⟩ = some h ∧ W.cell? ⟨g, 3, none⟩ = some a ∧ W.cell? ⟨g, 4, none⟩ = some b ∧ g < W.heap.size ∧ Below w.heap.size w W) :
    Below w.heap.size w W := hS.2.2.2.2.2.2
set_option maxHeartbeats 4000000 in
set_option maxRecDepth 100000 in
theorem show_any (n s h a b : Int) (w : World) (htab : Tab w) :
    Calls Tryd.prog 13 #[.agg #[.int .i64 n, .int .i64 s, .int .i64 h, .int .i64 a, .int .i64 b]] w fun e w' => e = .returned (.string (shT n s h a b)) ∧ Below w.heap.size w w' := by
  have HTAB := Lib.hid htab
  clear htab
  cases g1 : glueB n s h a b
  · have hc1 : (chk n s h a b != 0) = true := by rw [chk_no g1]; rfl
    have HS := Lib.hid (show shT n s h a b = ⟨#[]⟩ by unfold shT; rw [if_neg (by simp [g1])])
    clear g1
    go_enter Tryd.func13, Tryd.ntmps13
    go_wp2_with (go_at_call 11; refine (check_any _ _ _ _ _ _).mono ?_; rintro e w' ⟨rfl, rfl⟩)
    go_ret
    exact ⟨ret_strG HS.out.symm, by repeat (first | exact Below.refl _ _ | refine andAlloc ?_ _)⟩
  · have hc1 : (chk n s h a b != 0) = false := by rw [chk_yes g1]; rfl
    have HS := Lib.hid (show shT n s h a b = prS n ++ amT plusT s a ++ amT minusT h b by unfold shT; rw [if_pos g1])
    obtain ⟨-, -, -, ⟨a0, a1⟩, b0, b1⟩ := glueB_iff.1 g1
    have z1 := prS_size n
    have z2 := amT_size s a (show plusT.size ≤ 10 by decide)
    have z3 := amT_size h b (show minusT.size ≤ 10 by decide)
    have HP := Lib.hid (fun w hb => print_any n w (HTAB.out.below (w' := w) hb))
    have HA := Lib.hid (fun w hb => amount_any plusT s a w (HTAB.out.below (w' := w) hb) (by decide) a0 a1)
    have HB := Lib.hid (fun w hb => amount_any minusT h b w (HTAB.out.below (w' := w) hb) (by decide) b0 b1)
    generalize prS n = t1 at *
    generalize amT plusT s a = t2 at *
    generalize amT minusT h b = t3 at *
    have n1 : ¬ 9223372036854775807 < t1.size + t2.size := by omega
    have n2 : ¬ 9223372036854775807 < t1.size + t2.size + t3.size := by omega
    clear g1
    go_enter Tryd.func13, Tryd.ntmps13
    go_wp2_with (go_at_call 11; refine (check_any _ _ _ _ _ _).mono ?_; rintro e w' ⟨rfl, rfl⟩)
    generalize hW : (World.alloc (World.alloc w _) _) = W
    have hk : W.cell? ⟨w.heap.size, 0, none⟩ = some (.int .i64 n) ∧ W.cell? ⟨w.heap.size, 1, none⟩ = some (.int .i64 s) ∧ W.cell? ⟨w.heap.size, 2, none⟩ = some (.int .i64 h) ∧ W.cell? ⟨w.heap.size, 3, none⟩ = some (.int .i64 a) ∧ W.cell? ⟨w.heap.size, 4, none⟩ = some (.int .i64 b) ∧ w.heap.size < W.heap.size ∧ Below w.heap.size w W := by
      have hB : Blk W w.heap.size 23 #[.int .i64 n, .int .i64 s, .int .i64 h, .int .i64 a, .int .i64 b] := by rw [← hW]; exact (Blk.new' rfl).alloc _
      exact ⟨hB.cell 0, hB.cell 1, hB.cell 2, hB.cell 3, hB.cell 4, hB.lt, by rw [← hW]; exact andAlloc (andAlloc (Below.refl _ _) _) _⟩
    clear hW
    obtain ⟨c0, c1, c2, c3, c4, hg, hB⟩ := hk
    go_region_held3 (fun w' => w'.cell? ⟨w.heap.size, 0, none⟩ = some (.int .i64 n) ∧ w'.cell? ⟨w.heap.size, 1, none⟩ = some (.int .i64 s) ∧ w'.cell? ⟨w.heap.size, 2, none⟩ = some (.int .i64 h) ∧ w'.cell? ⟨w.heap.size, 3, none⟩ = some (.int .i64 a) ∧ w'.cell? ⟨w.heap.size, 4, none⟩ = some (.int .i64 b) ∧ w.heap.size < w'.heap.size ∧ Below w.heap.size w w')
      (first
        | exact ⟨by assumption, by assumption, by assumption, by assumption, by assumption, by assumption, by assumption⟩
        | exact ⟨by assumption, by assumption, by assumption, by assumption, by assumption, by assumption, Below.drew (by assumption)⟩
        | go_keep)
      (first
        | (go_at_call 24; refine (HP.out _ ?_).mono ?_; (refine keepB (w := w) (g := w.heap.size) (n := Value.int .i64 n) (s := Value.int .i64 s) (h := Value.int .i64 h) (a := Value.int .i64 a) (b := Value.int .i64 b) ?_; assumption); rintro e wz ⟨rfl, hbz⟩; have hkz := keepS (w := w) (g := w.heap.size) (n := Value.int .i64 n) (s := Value.int .i64 s) (h := Value.int .i64 h) (a := Value.int .i64 a) (b := Value.int .i64 b) hbz (by assumption); obtain ⟨k0, k1, k2, k3, k4, k5, k6⟩ := hkz)
        | (go_at_call_of 25 (Value.int .i64 s); refine (HA.out _ ?_).mono ?_; (refine keepB (w := w) (g := w.heap.size) (n := Value.int .i64 n) (s := Value.int .i64 s) (h := Value.int .i64 h) (a := Value.int .i64 a) (b := Value.int .i64 b) ?_; assumption); rintro e wz ⟨rfl, hbz⟩; have hkz := keepS (w := w) (g := w.heap.size) (n := Value.int .i64 n) (s := Value.int .i64 s) (h := Value.int .i64 h) (a := Value.int .i64 a) (b := Value.int .i64 b) hbz (by assumption); obtain ⟨k0, k1, k2, k3, k4, k5, k6⟩ := hkz)
        | (go_at_call_of 25 (Value.int .i64 h); refine (HB.out _ ?_).mono ?_; (refine keepB (w := w) (g := w.heap.size) (n := Value.int .i64 n) (s := Value.int .i64 s) (h := Value.int .i64 h) (a := Value.int .i64 a) (b := Value.int .i64 b) ?_; assumption); rintro e wz ⟨rfl, hbz⟩; have hkz := keepS (w := w) (g := w.heap.size) (n := Value.int .i64 n) (s := Value.int .i64 s) (h := Value.int .i64 h) (a := Value.int .i64 a) (b := Value.int .i64 b) hbz (by assumption); obtain ⟨k0, k1, k2, k3, k4, k5, k6⟩ := hkz))
    all_goals
      go_wp2_with fail
      go_ret
      exact ⟨ret_strG HS.out.symm, by assumption⟩
set_option maxHeartbeats 4000000 in
set_option maxRecDepth 100000 in
theorem rshow_any (n s h a b : Int) (w : World) :
    Calls Tryd.prog 14 #[.agg #[.int .i64 n, .int .i64 s, .int .i64 h, .int .i64 a, .int .i64 b]] w fun e w' => e = .returned (.string (shT n s h a b)) ∧ Below w.heap.size w w' := by
  cases g1 : glueB n s h a b
  · have hc1 : (chk n s h a b != 0) = true := by rw [chk_no g1]; rfl
    have HS := Lib.hid (show shT n s h a b = ⟨#[]⟩ by unfold shT; rw [if_neg (by simp [g1])])
    clear g1
    go_enter Tryd.func14, Tryd.ntmps14
    go_wp2_with (go_at_call 12; refine (rcheck_any _ _ _ _ _ _).mono ?_; rintro e w' ⟨rfl, rfl⟩)
    go_ret
    exact ⟨ret_strG HS.out.symm, by repeat (first | exact Below.refl _ _ | refine andAlloc ?_ _)⟩
  · have hc1 : (chk n s h a b != 0) = false := by rw [chk_yes g1]; rfl
    have HS := Lib.hid (show shT n s h a b = prS n ++ amT plusT s a ++ amT minusT h b by unfold shT; rw [if_pos g1])
    obtain ⟨-, -, -, ⟨a0, a1⟩, b0, b1⟩ := glueB_iff.1 g1
    have z1 := prS_size n
    have z2 := amT_size s a (show plusT.size ≤ 10 by decide)
    have z3 := amT_size h b (show minusT.size ≤ 10 by decide)
    have HP := Lib.hid (fun w' (hb : Below w.heap.size w w') => refPrint n w')
    have HA := Lib.hid (fun w' (hb : Below w.heap.size w w') => flex_any plusT s a w' (by decide) a0 a1)
    have HB := Lib.hid (fun w' (hb : Below w.heap.size w w') => flex_any minusT h b w' (by decide) b0 b1)
    generalize prS n = t1 at *
    generalize amT plusT s a = t2 at *
    generalize amT minusT h b = t3 at *
    have n1 : ¬ 9223372036854775807 < t1.size + t2.size := by omega
    have n2 : ¬ 9223372036854775807 < t1.size + t2.size + t3.size := by omega
    clear g1
    go_enter Tryd.func14, Tryd.ntmps14
    go_wp2_with (go_at_call 12; refine (rcheck_any _ _ _ _ _ _).mono ?_; rintro e w' ⟨rfl, rfl⟩)
    generalize hW : (World.alloc (World.alloc w _) _) = W
    have hk : W.cell? ⟨w.heap.size, 0, none⟩ = some (.int .i64 n) ∧ W.cell? ⟨w.heap.size, 1, none⟩ = some (.int .i64 s) ∧ W.cell? ⟨w.heap.size, 2, none⟩ = some (.int .i64 h) ∧ W.cell? ⟨w.heap.size, 3, none⟩ = some (.int .i64 a) ∧ W.cell? ⟨w.heap.size, 4, none⟩ = some (.int .i64 b) ∧ w.heap.size < W.heap.size ∧ Below w.heap.size w W := by
      have hB : Blk W w.heap.size 23 #[.int .i64 n, .int .i64 s, .int .i64 h, .int .i64 a, .int .i64 b] := by rw [← hW]; exact (Blk.new' rfl).alloc _
      exact ⟨hB.cell 0, hB.cell 1, hB.cell 2, hB.cell 3, hB.cell 4, hB.lt, by rw [← hW]; exact andAlloc (andAlloc (Below.refl _ _) _) _⟩
    clear hW
    obtain ⟨c0, c1, c2, c3, c4, hg, hB⟩ := hk
    go_region_held3 (fun w' => w'.cell? ⟨w.heap.size, 0, none⟩ = some (.int .i64 n) ∧ w'.cell? ⟨w.heap.size, 1, none⟩ = some (.int .i64 s) ∧ w'.cell? ⟨w.heap.size, 2, none⟩ = some (.int .i64 h) ∧ w'.cell? ⟨w.heap.size, 3, none⟩ = some (.int .i64 a) ∧ w'.cell? ⟨w.heap.size, 4, none⟩ = some (.int .i64 b) ∧ w.heap.size < w'.heap.size ∧ Below w.heap.size w w')
      (first
        | exact ⟨by assumption, by assumption, by assumption, by assumption, by assumption, by assumption, by assumption⟩
        | exact ⟨by assumption, by assumption, by assumption, by assumption, by assumption, by assumption, Below.drew (by assumption)⟩
        | go_keep)
      (first
        | (go_at_call 26; refine (HP.out _ ?_).mono ?_; (refine keepB (w := w) (g := w.heap.size) (n := Value.int .i64 n) (s := Value.int .i64 s) (h := Value.int .i64 h) (a := Value.int .i64 a) (b := Value.int .i64 b) ?_; assumption); rintro e wz ⟨rfl, hbz⟩; have hkz := keepS (w := w) (g := w.heap.size) (n := Value.int .i64 n) (s := Value.int .i64 s) (h := Value.int .i64 h) (a := Value.int .i64 a) (b := Value.int .i64 b) hbz (by assumption); obtain ⟨k0, k1, k2, k3, k4, k5, k6⟩ := hkz)
        | (go_at_call_of 27 (Value.int .i64 s); refine (HA.out _ ?_).mono ?_; (refine keepB (w := w) (g := w.heap.size) (n := Value.int .i64 n) (s := Value.int .i64 s) (h := Value.int .i64 h) (a := Value.int .i64 a) (b := Value.int .i64 b) ?_; assumption); rintro e wz ⟨rfl, hbz⟩; have hkz := keepS (w := w) (g := w.heap.size) (n := Value.int .i64 n) (s := Value.int .i64 s) (h := Value.int .i64 h) (a := Value.int .i64 a) (b := Value.int .i64 b) hbz (by assumption); obtain ⟨k0, k1, k2, k3, k4, k5, k6⟩ := hkz)
        | (go_at_call_of 27 (Value.int .i64 h); refine (HB.out _ ?_).mono ?_; (refine keepB (w := w) (g := w.heap.size) (n := Value.int .i64 n) (s := Value.int .i64 s) (h := Value.int .i64 h) (a := Value.int .i64 a) (b := Value.int .i64 b) ?_; assumption); rintro e wz ⟨rfl, hbz⟩; have hkz := keepS (w := w) (g := w.heap.size) (n := Value.int .i64 n) (s := Value.int .i64 s) (h := Value.int .i64 h) (a := Value.int .i64 a) (b := Value.int .i64 b) hbz (by assumption); obtain ⟨k0, k1, k2, k3, k4, k5, k6⟩ := hkz))
    all_goals
      go_wp2_with fail
      go_ret
      exact ⟨ret_strG HS.out.symm, by assumption⟩
end Go.Proofs.YtdjpfhmhcocfeaaDoor.Gl

import Derived.Test.YtdjpfhmhcocfeaaDoorGlueX4
import Derived.Test.YtdjpfhmhcocfeaaDoorGlueJ
/- The walk of GlueSums (printed by gen_gluex5.py). Conditions: those that each theorem names. -/
namespace Go.Proofs.YtdjpfhmhcocfeaaDoor.Gl
open Go.ChangeShapes Go.WideShapes Go.ChangeAt Go.RowKit
open Me Ss
set_option linter.unusedVariables false
set_option linter.unusedSimpArgs false

theorem keep7 {w W W' : World} {g0 g1 g2 g3 g4 g5 g6 : Nat} {n1 s1 h1 a1 b1 pn ps ph pa pb tn ts th ta tb on os oh oa ob : Int} (hb : Below W.heap.size W W') (hS : W.cell? ⟨g0, 0, none⟩ = some (.int .i64 n1) ∧ W.cell? ⟨g0, 1, none⟩ = some (.int .i64 s1) ∧ W.cell? ⟨g0, 2, none⟩ = some (.int .i64 h1) ∧ W.cell? ⟨g0, 3, none⟩ = some (.int .i64 a1) ∧ W.cell? ⟨g0, 4, none⟩ = some (.int .i64 b1) ∧ W.cell? ⟨g1, 0, none⟩ = some (.int .i64 pn) ∧ W.cell? ⟨g1, 1, none⟩ = some (.int .i64 ps) ∧ W.cell? ⟨g1, 2, none⟩ = some (.int .i64 ph) ∧ W.cell? ⟨g1, 3, none⟩ = some (.int .i64 pa) ∧ W.cell? ⟨g1, 4, none⟩ = some (.int .i64 pb) ∧ W.cell? ⟨g2, 0, none⟩ = some (.int .i64 pn) ∧ W.cell? ⟨g2, 1, none⟩ = some (.int .i64 ps) ∧ W.cell? ⟨g2, 2, none⟩ = some (.int .i64 ph) ∧ W.cell? ⟨g2, 3, none⟩ = some (.int .i64 pa) ∧ W.cell? ⟨g2, 4, none⟩ = some (.int .i64 pb) ∧ W.cell? ⟨g3, 0, none⟩ = some (.int .i64 tn) ∧ W.cell? ⟨g3, 1, none⟩ = some (.int .i64 ts) ∧ W.cell? ⟨g3, 2, none⟩ = some (.int .i64 th) ∧ W.cell? ⟨g3, 3, none⟩ = some (.int .i64 ta) ∧ W.cell? ⟨g3, 4, none⟩ = some (.int .i64 tb) ∧ W.cell? ⟨g4, 0, none⟩ = some (.int .i64 tn) ∧ W.cell? ⟨g4, 1, none⟩ = some (.int .i64 ts) ∧ W.cell? ⟨g4, 2, none⟩ = some (.int .i64 th) ∧ W.cell? ⟨g4, 3, none⟩ = some (.int .i64 ta) ∧ W.cell? ⟨g4, 4, none⟩ = some (.int .i64 tb) ∧ W.cell? ⟨g5, 0, none⟩ = some (.int .i64 on) ∧ W.cell? ⟨g5, 1, none⟩ = some (.int .i64 os) ∧ W.cell? ⟨g5, 2, none⟩ = some (.int .i64 oh) ∧ W.cell? ⟨g5, 3, none⟩ = some (.int .i64 oa) ∧ W.cell? ⟨g5, 4, none⟩ = some (.int .i64 ob) ∧ W.cell? ⟨g6, 0, none⟩ = some (.int .i64 on) ∧ W.cell? ⟨g6, 1, none⟩ = some (.int .i64 os) ∧ W.cell? ⟨g6, 2, none⟩ = some (.int .i64 oh) ∧ W.cell? ⟨g6, 3, none⟩ = some (.int .i64 oa) ∧ W.cell? ⟨g6, 4, none⟩ = some (.int .i64 ob) ∧ g0 < W.heap.size ∧ g1 < W.heap.size ∧ g2 < W.heap.size ∧ g3 < W.heap.size ∧ g4 < W.heap.size ∧ g5 < W.heap.size ∧ g6 < W.heap.size ∧ Below w.heap.size w W) : W'.cell? ⟨g0, 0, none⟩ = some (.int .i64 n1) ∧ W'.cell? ⟨g0, 1, none⟩ = some (.int .i64 s1) ∧ W'.cell? ⟨g0, 2, none⟩ = some (.int .i64 h1) ∧ W'.cell? ⟨g0, 3, none⟩ = some (.int .i64 a1) ∧ W'.cell? ⟨g0, 4, none⟩ = some (.int .i64 b1) ∧ W'.cell? ⟨g1, 0, none⟩ = some (.int .i64 pn) ∧ W'.cell? ⟨g1, 1, none⟩ = some (.int .i64 ps) ∧ W'.cell? ⟨g1, 2, none⟩ = some (.int .i64 ph) ∧ W'.cell? ⟨g1, 3, none⟩ = some (.int .i64 pa) ∧ W'.cell? ⟨g1, 4, none⟩ = some (.int .i64 pb) ∧ W'.cell? ⟨g2, 0, none⟩ = some (.int .i64 pn) ∧ W'.cell? ⟨g2, 1, none⟩ = some (.int .i64 ps) ∧ W'.cell? ⟨g2, 2, none⟩ = some (.int .i64 ph) ∧ W'.cell? ⟨g2, 3, none⟩ = some (.int .i64 pa) ∧ W'.cell? ⟨g2, 4, none⟩ = some (.int .i64 pb) ∧ W'.cell? ⟨g3, 0, none⟩ = some (.int .i64 tn) ∧ W'.cell? ⟨g3, 1, none⟩ = some (.int .i64 ts) ∧ W'.cell? ⟨g3, 2, none⟩ = some (.int .i64 th) ∧ W'.cell? ⟨g3, 3, none⟩ = some (.int .i64 ta) ∧ W'.cell? ⟨g3, 4, none⟩ = some (.int .i64 tb) ∧ W'.cell? ⟨g4, 0, none⟩ = some (.int .i64 tn) ∧ W'.cell? ⟨g4, 1, none⟩ = some (.int .i64 ts) ∧ W'.cell? ⟨g4, 2, none⟩ = some (.int .i64 th) ∧ W'.cell? ⟨g4, 3, none⟩ = some (.int .i64 ta) ∧ W'.cell? ⟨g4, 4, none⟩ = some (.int .i64 tb) ∧ W'.cell? ⟨g5, 0, none⟩ = some (.int .i64 on) ∧ W'.cell? ⟨g5, 1, none⟩ = some (.int .i64 os) ∧ W'.cell? ⟨g5, 2, none⟩ = some (.int .i64 oh) ∧ W'.cell? ⟨g5, 3, none⟩ = some (.int .i64 oa) ∧ W'.cell? ⟨g5, 4, none⟩ = some (.int .i64 ob) ∧ W'.cell? ⟨g6, 0, none⟩ = some (.int .i64 on) ∧ W'.cell? ⟨g6, 1, none⟩ = some (.int .i64 os) ∧ W'.cell? ⟨g6, 2, none⟩ = some (.int .i64 oh) ∧ W'.cell? ⟨g6, 3, none⟩ = some (.int .i64 oa) ∧ W'.cell? ⟨g6, 4, none⟩ = some (.int .i64 ob) ∧ g0 < W'.heap.size ∧ g1 < W'.heap.size ∧ g2 < W'.heap.size ∧ g3 < W'.heap.size ∧ g4 < W'.heap.size ∧ g5 < W'.heap.size ∧ g6 < W'.heap.size ∧ Below w.heap.size w W' := by
  obtain ⟨c00, c01, c02, c03, c04, c10, c11, c12, c13, c14, c20, c21, c22, c23, c24, c30, c31, c32, c33, c34, c40, c41, c42, c43, c44, c50, c51, c52, c53, c54, c60, c61, c62, c63, c64, q0, q1, q2, q3, q4, q5, q6, hB⟩ := hS
  obtain ⟨hc, _⟩ := old_cells hb
  exact ⟨(hc _ _ q0).trans c00, (hc _ _ q0).trans c01, (hc _ _ q0).trans c02, (hc _ _ q0).trans c03, (hc _ _ q0).trans c04, (hc _ _ q1).trans c10, (hc _ _ q1).trans c11, (hc _ _ q1).trans c12, (hc _ _ q1).trans c13, (hc _ _ q1).trans c14, (hc _ _ q2).trans c20, (hc _ _ q2).trans c21, (hc _ _ q2).trans c22, (hc _ _ q2).trans c23, (hc _ _ q2).trans c24, (hc _ _ q3).trans c30, (hc _ _ q3).trans c31, (hc _ _ q3).trans c32, (hc _ _ q3).trans c33, (hc _ _ q3).trans c34, (hc _ _ q4).trans c40, (hc _ _ q4).trans c41, (hc _ _ q4).trans c42, (hc _ _ q4).trans c43, (hc _ _ q4).trans c44, (hc _ _ q5).trans c50, (hc _ _ q5).trans c51, (hc _ _ q5).trans c52, (hc _ _ q5).trans c53, (hc _ _ q5).trans c54, (hc _ _ q6).trans c60, (hc _ _ q6).trans c61, (hc _ _ q6).trans c62, (hc _ _ q6).trans c63, (hc _ _ q6).trans c64, Nat.lt_of_lt_of_le q0 hb.size, Nat.lt_of_lt_of_le q1 hb.size, Nat.lt_of_lt_of_le q2 hb.size, Nat.lt_of_lt_of_le q3 hb.size, Nat.lt_of_lt_of_le q4 hb.size, Nat.lt_of_lt_of_le q5 hb.size, Nat.lt_of_lt_of_le q6 hb.size, andThen hB hb⟩
theorem keep7B {w W : World} {g0 g1 g2 g3 g4 g5 g6 : Nat} {n1 s1 h1 a1 b1 pn ps ph pa pb tn ts th ta tb on os oh oa ob : Int} (hS : W.cell? ⟨g0, 0, none⟩ = some (.int .i64 n1) ∧ W.cell? ⟨g0, 1, none⟩ = some (.int .i64 s1) ∧ W.cell? ⟨g0, 2, none⟩ = some (.int .i64 h1) ∧ W.cell? ⟨g0, 3, none⟩ = some (.int .i64 a1) ∧ W.cell? ⟨g0, 4, none⟩ = some (.int .i64 b1) ∧ W.cell? ⟨g1, 0, none⟩ = some (.int .i64 pn) ∧ W.cell? ⟨g1, 1, none⟩ = some (.int .i64 ps) ∧ W.cell? ⟨g1, 2, none⟩ = some (.int .i64 ph) ∧ W.cell? ⟨g1, 3, none⟩ = some (.int .i64 pa) ∧ W.cell? ⟨g1, 4, none⟩ = some (.int .i64 pb) ∧ W.cell? ⟨g2, 0, none⟩ = some (.int .i64 pn) ∧ W.cell? ⟨g2, 1, none⟩ = some (.int .i64 ps) ∧ W.cell? ⟨g2, 2, none⟩ = some (.int .i64 ph) ∧ W.cell? ⟨g2, 3, none⟩ = some (.int .i64 pa) ∧ W.cell? ⟨g2, 4, none⟩ = some (.int .i64 pb) ∧ W.cell? ⟨g3, 0, none⟩ = some (.int .i64 tn) ∧ W.cell? ⟨g3, 1, none⟩ = some (.int .i64 ts) ∧ W.cell? ⟨g3, 2, none⟩ = some (.int .i64 th) ∧ W.cell? ⟨g3, 3, none⟩ = some (.int .i64 ta) ∧ W.cell? ⟨g3, 4, none⟩ = some (.int .i64 tb) ∧ W.cell? ⟨g4, 0, none⟩ = some (.int .i64 tn) ∧ W.cell? ⟨g4, 1, none⟩ = some (.int .i64 ts) ∧ W.cell? ⟨g4, 2, none⟩ = some (.int .i64 th) ∧ W.cell? ⟨g4, 3, none⟩ = some (.int .i64 ta) ∧ W.cell? ⟨g4, 4, none⟩ = some (.int .i64 tb) ∧ W.cell? ⟨g5, 0, none⟩ = some (.int .i64 on) ∧ W.cell? ⟨g5, 1, none⟩ = some (.int .i64 os) ∧ W.cell? ⟨g5, 2, none⟩ = some (.int .i64 oh) ∧ W.cell? ⟨g5, 3, none⟩ = some (.int .i64 oa) ∧ W.cell? ⟨g5, 4, none⟩ = some (.int .i64 ob) ∧ W.cell? ⟨g6, 0, none⟩ = some (.int .i64 on) ∧ W.cell? ⟨g6, 1, none⟩ = some (.int .i64 os) ∧ W.cell? ⟨g6, 2, none⟩ = some (.int .i64 oh) ∧ W.cell? ⟨g6, 3, none⟩ = some (.int .i64 oa) ∧ W.cell? ⟨g6, 4, none⟩ = some (.int .i64 ob) ∧ g0 < W.heap.size ∧ g1 < W.heap.size ∧ g2 < W.heap.size ∧ g3 < W.heap.size ∧ g4 < W.heap.size ∧ g5 < W.heap.size ∧ g6 < W.heap.size ∧ Below w.heap.size w W) : Below w.heap.size w W := by
  obtain ⟨c00, c01, c02, c03, c04, c10, c11, c12, c13, c14, c20, c21, c22, c23, c24, c30, c31, c32, c33, c34, c40, c41, c42, c43, c44, c50, c51, c52, c53, c54, c60, c61, c62, c63, c64, q0, q1, q2, q3, q4, q5, q6, hB⟩ := hS
  exact hB
theorem eqG_self (a b c d e : Int) : eqG a b c d e a b c d e = true := by unfold eqG; simp
set_option maxHeartbeats 4000000 in
set_option maxRecDepth 100000 in
theorem sums_walk (n1 s1 h1 a1 b1 n2 s2 h2 a2 b2 k : Int) (w : World) (htab : Tab w) : Calls Tryd.prog 3 #[.agg #[.int .i64 n1, .int .i64 s1, .int .i64 h1, .int .i64 a1, .int .i64 b1], .agg #[.int .i64 n2, .int .i64 s2, .int .i64 h2, .int .i64 a2, .int .i64 b2], .int .i64 k] w fun e w' => e = .returned (.bool true) ∧ Below w.heap.size w w' := by
  have HTAB := Lib.hid htab
  clear htab
  obtain ⟨⟨⟨pn, ps, ph, pa, pb⟩, pE⟩, pq⟩ : ∃ r : G × Int, plusG ⟨n1, s1, h1, a1, b1⟩ ⟨n2, s2, h2, a2, b2⟩ = r := ⟨_, rfl⟩
  obtain ⟨⟨⟨tn, ts, th, ta, tb⟩, tE⟩, tq⟩ : ∃ r : G × Int, timesG ⟨n1, s1, h1, a1, b1⟩ k = r := ⟨_, rfl⟩
  obtain ⟨⟨⟨on, os, oh, oa, ob⟩, oE⟩, oq⟩ : ∃ r : G × Int, overG ⟨n1, s1, h1, a1, b1⟩ k = r := ⟨_, rfl⟩
  have Hp := Lib.hid (plus_any n1 s1 h1 a1 b1 n2 s2 h2 a2 b2 pn ps ph pa pb pE pq)
  have Rp := Lib.hid (rplus_any n1 s1 h1 a1 b1 n2 s2 h2 a2 b2 pn ps ph pa pb pE pq)
  have Ht := Lib.hid (times2_any n1 s1 h1 a1 b1 k tn ts th ta tb tE tq)
  have Rt := Lib.hid (rtimes2_any n1 s1 h1 a1 b1 k tn ts th ta tb tE tq)
  have Ho := Lib.hid (over_any n1 s1 h1 a1 b1 k on os oh oa ob oE oq)
  have Ro := Lib.hid (rover_any n1 s1 h1 a1 b1 k on os oh oa ob oE oq)
  clear pq tq oq
  go_enter Tryd.func3, Tryd.ntmps3
  go_wp2_with fail
  refine (Hp.out _).mono ?_
  rintro e w1 ⟨rfl, hb1⟩
  obtain ⟨ho1, hf1⟩ := old_cells hb1
  have hz1 := hb1.size
  simp at hz1
  have hu1 : w.heap.size < w1.heap.size := by omega
  have hv1 : w.heap.size + 1 < w1.heap.size := by omega
  go_wp2_with fail
  refine (Rp.out _).mono ?_
  rintro e w2 ⟨rfl, hb2⟩
  obtain ⟨ho2, hf2⟩ := old_cells hb2
  have hz2 := hb2.size
  simp at hz2
  have hu2 : w.heap.size < w2.heap.size := by omega
  have hv2 : w.heap.size + 1 < w2.heap.size := by omega
  have hx21 : w1.heap.size < w2.heap.size := by omega
  go_wp2_with fail
  refine (Ht.out _).mono ?_
  rintro e w3 ⟨rfl, hb3⟩
  obtain ⟨ho3, hf3⟩ := old_cells hb3
  have hz3 := hb3.size
  simp at hz3
  have hu3 : w.heap.size < w3.heap.size := by omega
  have hv3 : w.heap.size + 1 < w3.heap.size := by omega
  have hx31 : w1.heap.size < w3.heap.size := by omega
  have hx32 : w2.heap.size < w3.heap.size := by omega
  go_wp2_with fail
  refine (Rt.out _).mono ?_
  rintro e w4 ⟨rfl, hb4⟩
  obtain ⟨ho4, hf4⟩ := old_cells hb4
  have hz4 := hb4.size
  simp at hz4
  have hu4 : w.heap.size < w4.heap.size := by omega
  have hv4 : w.heap.size + 1 < w4.heap.size := by omega
  have hx41 : w1.heap.size < w4.heap.size := by omega
  have hx42 : w2.heap.size < w4.heap.size := by omega
  have hx43 : w3.heap.size < w4.heap.size := by omega
  go_wp2_with fail
  refine (Ho.out _).mono ?_
  rintro e w5 ⟨rfl, hb5⟩
  obtain ⟨ho5, hf5⟩ := old_cells hb5
  have hz5 := hb5.size
  simp at hz5
  have hu5 : w.heap.size < w5.heap.size := by omega
  have hv5 : w.heap.size + 1 < w5.heap.size := by omega
  have hx51 : w1.heap.size < w5.heap.size := by omega
  have hx52 : w2.heap.size < w5.heap.size := by omega
  have hx53 : w3.heap.size < w5.heap.size := by omega
  have hx54 : w4.heap.size < w5.heap.size := by omega
  go_wp2_with fail
  refine (Ro.out _).mono ?_
  rintro e w6 ⟨rfl, hb6⟩
  obtain ⟨ho6, hf6⟩ := old_cells hb6
  have hz6 := hb6.size
  simp at hz6
  have hu6 : w.heap.size < w6.heap.size := by omega
  have hv6 : w.heap.size + 1 < w6.heap.size := by omega
  have hx61 : w1.heap.size < w6.heap.size := by omega
  have hx62 : w2.heap.size < w6.heap.size := by omega
  have hx63 : w3.heap.size < w6.heap.size := by omega
  have hx64 : w4.heap.size < w6.heap.size := by omega
  have hx65 : w5.heap.size < w6.heap.size := by omega
  go_wp2_with fail
  have d0_0 : Blk ((w.alloc (.cells #[.int .i64 n1, .int .i64 s1, .int .i64 h1, .int .i64 a1, .int .i64 b1] 23)).alloc (.cells #[.int .i64 n2, .int .i64 s2, .int .i64 h2, .int .i64 a2, .int .i64 b2] 23)) w.heap.size 23 #[.int .i64 n1, .int .i64 s1, .int .i64 h1, .int .i64 a1, .int .i64 b1] := (Blk.new' rfl).alloc _
  have d0_1 : Blk (w1.alloc (.cells #[.int .i64 pn, .int .i64 ps, .int .i64 ph, .int .i64 pa, .int .i64 pb] 23)) w.heap.size 23 #[.int .i64 n1, .int .i64 s1, .int .i64 h1, .int .i64 a1, .int .i64 b1] := (d0_0.below hb1 (by first | (simp; done) | (simp; omega))).alloc _
  have d0_2 : Blk (w2.alloc (.cells #[.int .i64 pn, .int .i64 ps, .int .i64 ph, .int .i64 pa, .int .i64 pb] 23)) w.heap.size 23 #[.int .i64 n1, .int .i64 s1, .int .i64 h1, .int .i64 a1, .int .i64 b1] := (d0_1.below hb2 (by first | (simp; done) | (simp; omega))).alloc _
  have d0_3 : Blk (w3.alloc (.cells #[.int .i64 tn, .int .i64 ts, .int .i64 th, .int .i64 ta, .int .i64 tb] 23)) w.heap.size 23 #[.int .i64 n1, .int .i64 s1, .int .i64 h1, .int .i64 a1, .int .i64 b1] := (d0_2.below hb3 (by first | (simp; done) | (simp; omega))).alloc _
  have d0_4 : Blk (w4.alloc (.cells #[.int .i64 tn, .int .i64 ts, .int .i64 th, .int .i64 ta, .int .i64 tb] 23)) w.heap.size 23 #[.int .i64 n1, .int .i64 s1, .int .i64 h1, .int .i64 a1, .int .i64 b1] := (d0_3.below hb4 (by first | (simp; done) | (simp; omega))).alloc _
  have d0_5 : Blk (w5.alloc (.cells #[.int .i64 on, .int .i64 os, .int .i64 oh, .int .i64 oa, .int .i64 ob] 23)) w.heap.size 23 #[.int .i64 n1, .int .i64 s1, .int .i64 h1, .int .i64 a1, .int .i64 b1] := (d0_4.below hb5 (by first | (simp; done) | (simp; omega))).alloc _
  have d0_6 : Blk (w6.alloc (.cells #[.int .i64 on, .int .i64 os, .int .i64 oh, .int .i64 oa, .int .i64 ob] 23)) w.heap.size 23 #[.int .i64 n1, .int .i64 s1, .int .i64 h1, .int .i64 a1, .int .i64 b1] := (d0_5.below hb6 (by first | (simp; done) | (simp; omega))).alloc _
  have d1_1 : Blk (w1.alloc (.cells #[.int .i64 pn, .int .i64 ps, .int .i64 ph, .int .i64 pa, .int .i64 pb] 23)) w1.heap.size 23 #[.int .i64 pn, .int .i64 ps, .int .i64 ph, .int .i64 pa, .int .i64 pb] := Blk.new' rfl
  have d1_2 : Blk (w2.alloc (.cells #[.int .i64 pn, .int .i64 ps, .int .i64 ph, .int .i64 pa, .int .i64 pb] 23)) w1.heap.size 23 #[.int .i64 pn, .int .i64 ps, .int .i64 ph, .int .i64 pa, .int .i64 pb] := (d1_1.below hb2 (by first | (simp; done) | (simp; omega))).alloc _
  have d1_3 : Blk (w3.alloc (.cells #[.int .i64 tn, .int .i64 ts, .int .i64 th, .int .i64 ta, .int .i64 tb] 23)) w1.heap.size 23 #[.int .i64 pn, .int .i64 ps, .int .i64 ph, .int .i64 pa, .int .i64 pb] := (d1_2.below hb3 (by first | (simp; done) | (simp; omega))).alloc _
  have d1_4 : Blk (w4.alloc (.cells #[.int .i64 tn, .int .i64 ts, .int .i64 th, .int .i64 ta, .int .i64 tb] 23)) w1.heap.size 23 #[.int .i64 pn, .int .i64 ps, .int .i64 ph, .int .i64 pa, .int .i64 pb] := (d1_3.below hb4 (by first | (simp; done) | (simp; omega))).alloc _
  have d1_5 : Blk (w5.alloc (.cells #[.int .i64 on, .int .i64 os, .int .i64 oh, .int .i64 oa, .int .i64 ob] 23)) w1.heap.size 23 #[.int .i64 pn, .int .i64 ps, .int .i64 ph, .int .i64 pa, .int .i64 pb] := (d1_4.below hb5 (by first | (simp; done) | (simp; omega))).alloc _
  have d1_6 : Blk (w6.alloc (.cells #[.int .i64 on, .int .i64 os, .int .i64 oh, .int .i64 oa, .int .i64 ob] 23)) w1.heap.size 23 #[.int .i64 pn, .int .i64 ps, .int .i64 ph, .int .i64 pa, .int .i64 pb] := (d1_5.below hb6 (by first | (simp; done) | (simp; omega))).alloc _
  have d2_2 : Blk (w2.alloc (.cells #[.int .i64 pn, .int .i64 ps, .int .i64 ph, .int .i64 pa, .int .i64 pb] 23)) w2.heap.size 23 #[.int .i64 pn, .int .i64 ps, .int .i64 ph, .int .i64 pa, .int .i64 pb] := Blk.new' rfl
  have d2_3 : Blk (w3.alloc (.cells #[.int .i64 tn, .int .i64 ts, .int .i64 th, .int .i64 ta, .int .i64 tb] 23)) w2.heap.size 23 #[.int .i64 pn, .int .i64 ps, .int .i64 ph, .int .i64 pa, .int .i64 pb] := (d2_2.below hb3 (by first | (simp; done) | (simp; omega))).alloc _
  have d2_4 : Blk (w4.alloc (.cells #[.int .i64 tn, .int .i64 ts, .int .i64 th, .int .i64 ta, .int .i64 tb] 23)) w2.heap.size 23 #[.int .i64 pn, .int .i64 ps, .int .i64 ph, .int .i64 pa, .int .i64 pb] := (d2_3.below hb4 (by first | (simp; done) | (simp; omega))).alloc _
  have d2_5 : Blk (w5.alloc (.cells #[.int .i64 on, .int .i64 os, .int .i64 oh, .int .i64 oa, .int .i64 ob] 23)) w2.heap.size 23 #[.int .i64 pn, .int .i64 ps, .int .i64 ph, .int .i64 pa, .int .i64 pb] := (d2_4.below hb5 (by first | (simp; done) | (simp; omega))).alloc _
  have d2_6 : Blk (w6.alloc (.cells #[.int .i64 on, .int .i64 os, .int .i64 oh, .int .i64 oa, .int .i64 ob] 23)) w2.heap.size 23 #[.int .i64 pn, .int .i64 ps, .int .i64 ph, .int .i64 pa, .int .i64 pb] := (d2_5.below hb6 (by first | (simp; done) | (simp; omega))).alloc _
  have d3_3 : Blk (w3.alloc (.cells #[.int .i64 tn, .int .i64 ts, .int .i64 th, .int .i64 ta, .int .i64 tb] 23)) w3.heap.size 23 #[.int .i64 tn, .int .i64 ts, .int .i64 th, .int .i64 ta, .int .i64 tb] := Blk.new' rfl
  have d3_4 : Blk (w4.alloc (.cells #[.int .i64 tn, .int .i64 ts, .int .i64 th, .int .i64 ta, .int .i64 tb] 23)) w3.heap.size 23 #[.int .i64 tn, .int .i64 ts, .int .i64 th, .int .i64 ta, .int .i64 tb] := (d3_3.below hb4 (by first | (simp; done) | (simp; omega))).alloc _
  have d3_5 : Blk (w5.alloc (.cells #[.int .i64 on, .int .i64 os, .int .i64 oh, .int .i64 oa, .int .i64 ob] 23)) w3.heap.size 23 #[.int .i64 tn, .int .i64 ts, .int .i64 th, .int .i64 ta, .int .i64 tb] := (d3_4.below hb5 (by first | (simp; done) | (simp; omega))).alloc _
  have d3_6 : Blk (w6.alloc (.cells #[.int .i64 on, .int .i64 os, .int .i64 oh, .int .i64 oa, .int .i64 ob] 23)) w3.heap.size 23 #[.int .i64 tn, .int .i64 ts, .int .i64 th, .int .i64 ta, .int .i64 tb] := (d3_5.below hb6 (by first | (simp; done) | (simp; omega))).alloc _
  have d4_4 : Blk (w4.alloc (.cells #[.int .i64 tn, .int .i64 ts, .int .i64 th, .int .i64 ta, .int .i64 tb] 23)) w4.heap.size 23 #[.int .i64 tn, .int .i64 ts, .int .i64 th, .int .i64 ta, .int .i64 tb] := Blk.new' rfl
  have d4_5 : Blk (w5.alloc (.cells #[.int .i64 on, .int .i64 os, .int .i64 oh, .int .i64 oa, .int .i64 ob] 23)) w4.heap.size 23 #[.int .i64 tn, .int .i64 ts, .int .i64 th, .int .i64 ta, .int .i64 tb] := (d4_4.below hb5 (by first | (simp; done) | (simp; omega))).alloc _
  have d4_6 : Blk (w6.alloc (.cells #[.int .i64 on, .int .i64 os, .int .i64 oh, .int .i64 oa, .int .i64 ob] 23)) w4.heap.size 23 #[.int .i64 tn, .int .i64 ts, .int .i64 th, .int .i64 ta, .int .i64 tb] := (d4_5.below hb6 (by first | (simp; done) | (simp; omega))).alloc _
  have d5_5 : Blk (w5.alloc (.cells #[.int .i64 on, .int .i64 os, .int .i64 oh, .int .i64 oa, .int .i64 ob] 23)) w5.heap.size 23 #[.int .i64 on, .int .i64 os, .int .i64 oh, .int .i64 oa, .int .i64 ob] := Blk.new' rfl
  have d5_6 : Blk (w6.alloc (.cells #[.int .i64 on, .int .i64 os, .int .i64 oh, .int .i64 oa, .int .i64 ob] 23)) w5.heap.size 23 #[.int .i64 on, .int .i64 os, .int .i64 oh, .int .i64 oa, .int .i64 ob] := (d5_5.below hb6 (by first | (simp; done) | (simp; omega))).alloc _
  have d6_6 : Blk (w6.alloc (.cells #[.int .i64 on, .int .i64 os, .int .i64 oh, .int .i64 oa, .int .i64 ob] 23)) w6.heap.size 23 #[.int .i64 on, .int .i64 os, .int .i64 oh, .int .i64 oa, .int .i64 ob] := Blk.new' rfl
  have hBW : Below w.heap.size w (w6.alloc (.cells #[.int .i64 on, .int .i64 os, .int .i64 oh, .int .i64 oa, .int .i64 ob] 23)) := andAlloc (andThen (andAlloc (andThen (andAlloc (andThen (andAlloc (andThen (andAlloc (andThen (andAlloc (andThen (andAlloc (andAlloc (Below.refl _ _) _) _) hb1) _) hb2) _) hb3) _) hb4) _) hb5) _) hb6) _
  generalize (w6.alloc (.cells #[.int .i64 on, .int .i64 os, .int .i64 oh, .int .i64 oa, .int .i64 ob] 23)) = W at *
  have hk : W.cell? ⟨w.heap.size, 0, none⟩ = some (.int .i64 n1) ∧ W.cell? ⟨w.heap.size, 1, none⟩ = some (.int .i64 s1) ∧ W.cell? ⟨w.heap.size, 2, none⟩ = some (.int .i64 h1) ∧ W.cell? ⟨w.heap.size, 3, none⟩ = some (.int .i64 a1) ∧ W.cell? ⟨w.heap.size, 4, none⟩ = some (.int .i64 b1) ∧ W.cell? ⟨w1.heap.size, 0, none⟩ = some (.int .i64 pn) ∧ W.cell? ⟨w1.heap.size, 1, none⟩ = some (.int .i64 ps) ∧ W.cell? ⟨w1.heap.size, 2, none⟩ = some (.int .i64 ph) ∧ W.cell? ⟨w1.heap.size, 3, none⟩ = some (.int .i64 pa) ∧ W.cell? ⟨w1.heap.size, 4, none⟩ = some (.int .i64 pb) ∧ W.cell? ⟨w2.heap.size, 0, none⟩ = some (.int .i64 pn) ∧ W.cell? ⟨w2.heap.size, 1, none⟩ = some (.int .i64 ps) ∧ W.cell? ⟨w2.heap.size, 2, none⟩ = some (.int .i64 ph) ∧ W.cell? ⟨w2.heap.size, 3, none⟩ = some (.int .i64 pa) ∧ W.cell? ⟨w2.heap.size, 4, none⟩ = some (.int .i64 pb) ∧ W.cell? ⟨w3.heap.size, 0, none⟩ = some (.int .i64 tn) ∧ W.cell? ⟨w3.heap.size, 1, none⟩ = some (.int .i64 ts) ∧ W.cell? ⟨w3.heap.size, 2, none⟩ = some (.int .i64 th) ∧ W.cell? ⟨w3.heap.size, 3, none⟩ = some (.int .i64 ta) ∧ W.cell? ⟨w3.heap.size, 4, none⟩ = some (.int .i64 tb) ∧ W.cell? ⟨w4.heap.size, 0, none⟩ = some (.int .i64 tn) ∧ W.cell? ⟨w4.heap.size, 1, none⟩ = some (.int .i64 ts) ∧ W.cell? ⟨w4.heap.size, 2, none⟩ = some (.int .i64 th) ∧ W.cell? ⟨w4.heap.size, 3, none⟩ = some (.int .i64 ta) ∧ W.cell? ⟨w4.heap.size, 4, none⟩ = some (.int .i64 tb) ∧ W.cell? ⟨w5.heap.size, 0, none⟩ = some (.int .i64 on) ∧ W.cell? ⟨w5.heap.size, 1, none⟩ = some (.int .i64 os) ∧ W.cell? ⟨w5.heap.size, 2, none⟩ = some (.int .i64 oh) ∧ W.cell? ⟨w5.heap.size, 3, none⟩ = some (.int .i64 oa) ∧ W.cell? ⟨w5.heap.size, 4, none⟩ = some (.int .i64 ob) ∧ W.cell? ⟨w6.heap.size, 0, none⟩ = some (.int .i64 on) ∧ W.cell? ⟨w6.heap.size, 1, none⟩ = some (.int .i64 os) ∧ W.cell? ⟨w6.heap.size, 2, none⟩ = some (.int .i64 oh) ∧ W.cell? ⟨w6.heap.size, 3, none⟩ = some (.int .i64 oa) ∧ W.cell? ⟨w6.heap.size, 4, none⟩ = some (.int .i64 ob) ∧ w.heap.size < W.heap.size ∧ w1.heap.size < W.heap.size ∧ w2.heap.size < W.heap.size ∧ w3.heap.size < W.heap.size ∧ w4.heap.size < W.heap.size ∧ w5.heap.size < W.heap.size ∧ w6.heap.size < W.heap.size ∧ Below w.heap.size w W :=
    ⟨d0_6.cell 0, d0_6.cell 1, d0_6.cell 2, d0_6.cell 3, d0_6.cell 4, d1_6.cell 0, d1_6.cell 1, d1_6.cell 2, d1_6.cell 3, d1_6.cell 4, d2_6.cell 0, d2_6.cell 1, d2_6.cell 2, d2_6.cell 3, d2_6.cell 4, d3_6.cell 0, d3_6.cell 1, d3_6.cell 2, d3_6.cell 3, d3_6.cell 4, d4_6.cell 0, d4_6.cell 1, d4_6.cell 2, d4_6.cell 3, d4_6.cell 4, d5_6.cell 0, d5_6.cell 1, d5_6.cell 2, d5_6.cell 3, d5_6.cell 4, d6_6.cell 0, d6_6.cell 1, d6_6.cell 2, d6_6.cell 3, d6_6.cell 4, d0_6.lt, d1_6.lt, d2_6.lt, d3_6.lt, d4_6.lt, d5_6.lt, d6_6.lt, hBW⟩
  clear d0_0 d0_1 d0_2 d0_3 d0_4 d0_5 d0_6 d1_1 d1_2 d1_3 d1_4 d1_5 d1_6 d2_2 d2_3 d2_4 d2_5 d2_6 d3_3 d3_4 d3_5 d3_6 d4_4 d4_5 d4_6 d5_5 d5_6 d6_6 hBW hb1 ho1 hf1 hz1 hu1 hv1 hb2 ho2 hf2 hz2 hu2 hv2 hb3 ho3 hf3 hz3 hu3 hv3 hb4 ho4 hf4 hz4 hu4 hv4 hb5 ho5 hf5 hz5 hu5 hv5 hb6 ho6 hf6 hz6 hu6 hv6 hx21 hx31 hx32 hx41 hx42 hx43 hx51 hx52 hx53 hx54 hx61 hx62 hx63 hx64 hx65 Hp Rp Ht Rt Ho Ro
  generalize hg1 : w1.heap.size = g1 at *
  generalize hg2 : w2.heap.size = g2 at *
  generalize hg3 : w3.heap.size = g3 at *
  generalize hg4 : w4.heap.size = g4 at *
  generalize hg5 : w5.heap.size = g5 at *
  generalize hg6 : w6.heap.size = g6 at *
  clear hg1 hg2 hg3 hg4 hg5 hg6
  have CC := Lib.hid (fun w => (check_any n1 s1 h1 a1 b1 w).mono fun e w' h => (And.intro h.1 (h.2 ▸ andAlloc (Below.refl _ _) _) : e = .returned (.int .i64 (chk n1 s1 h1 a1 b1)) ∧ Below w.heap.size w w'))
  have CR := Lib.hid (fun w => (rcheck_any n1 s1 h1 a1 b1 w).mono fun e w' h => (And.intro h.1 (h.2 ▸ andAlloc (Below.refl _ _) _) : e = .returned (.int .i64 (chk n1 s1 h1 a1 b1)) ∧ Below w.heap.size w w'))
  have CS := Lib.hid (fun w' (hb : Below w.heap.size w w') => show_any n1 s1 h1 a1 b1 w' (HTAB.out.below hb))
  have CT := Lib.hid (fun w' => rshow_any n1 s1 h1 a1 b1 w')
  generalize chk n1 s1 h1 a1 b1 = cc at *
  generalize shT n1 s1 h1 a1 b1 = tt at *
  have ep : ∀ w : World, (binOp .eql 23 (.agg #[.int .i64 pn, .int .i64 ps, .int .i64 ph, .int .i64 pa, .int .i64 pb]) (.agg #[.int .i64 pn, .int .i64 ps, .int .i64 ph, .int .i64 pa, .int .i64 pb])).run Tryd.prog w = .ok (.bool true) w := fun w => by rw [eql_any, eqG_self]
  have et : ∀ w : World, (binOp .eql 23 (.agg #[.int .i64 tn, .int .i64 ts, .int .i64 th, .int .i64 ta, .int .i64 tb]) (.agg #[.int .i64 tn, .int .i64 ts, .int .i64 th, .int .i64 ta, .int .i64 tb])).run Tryd.prog w = .ok (.bool true) w := fun w => by rw [eql_any, eqG_self]
  have eo : ∀ w : World, (binOp .eql 23 (.agg #[.int .i64 on, .int .i64 os, .int .i64 oh, .int .i64 oa, .int .i64 ob]) (.agg #[.int .i64 on, .int .i64 os, .int .i64 oh, .int .i64 oa, .int .i64 ob])).run Tryd.prog w = .ok (.bool true) w := fun w => by rw [eql_any, eqG_self]
  obtain ⟨c00, c01, c02, c03, c04, c10, c11, c12, c13, c14, c20, c21, c22, c23, c24, c30, c31, c32, c33, c34, c40, c41, c42, c43, c44, c50, c51, c52, c53, c54, c60, c61, c62, c63, c64, q0, q1, q2, q3, q4, q5, q6, hB⟩ := hk
  go_region_held3 (fun w' => w'.cell? ⟨w.heap.size, 0, none⟩ = some (.int .i64 n1) ∧ w'.cell? ⟨w.heap.size, 1, none⟩ = some (.int .i64 s1) ∧ w'.cell? ⟨w.heap.size, 2, none⟩ = some (.int .i64 h1) ∧ w'.cell? ⟨w.heap.size, 3, none⟩ = some (.int .i64 a1) ∧ w'.cell? ⟨w.heap.size, 4, none⟩ = some (.int .i64 b1) ∧ w'.cell? ⟨g1, 0, none⟩ = some (.int .i64 pn) ∧ w'.cell? ⟨g1, 1, none⟩ = some (.int .i64 ps) ∧ w'.cell? ⟨g1, 2, none⟩ = some (.int .i64 ph) ∧ w'.cell? ⟨g1, 3, none⟩ = some (.int .i64 pa) ∧ w'.cell? ⟨g1, 4, none⟩ = some (.int .i64 pb) ∧ w'.cell? ⟨g2, 0, none⟩ = some (.int .i64 pn) ∧ w'.cell? ⟨g2, 1, none⟩ = some (.int .i64 ps) ∧ w'.cell? ⟨g2, 2, none⟩ = some (.int .i64 ph) ∧ w'.cell? ⟨g2, 3, none⟩ = some (.int .i64 pa) ∧ w'.cell? ⟨g2, 4, none⟩ = some (.int .i64 pb) ∧ w'.cell? ⟨g3, 0, none⟩ = some (.int .i64 tn) ∧ w'.cell? ⟨g3, 1, none⟩ = some (.int .i64 ts) ∧ w'.cell? ⟨g3, 2, none⟩ = some (.int .i64 th) ∧ w'.cell? ⟨g3, 3, none⟩ = some (.int .i64 ta) ∧ w'.cell? ⟨g3, 4, none⟩ = some (.int .i64 tb) ∧ w'.cell? ⟨g4, 0, none⟩ = some (.int .i64 tn) ∧ w'.cell? ⟨g4, 1, none⟩ = some (.int .i64 ts) ∧ w'.cell? ⟨g4, 2, none⟩ = some (.int .i64 th) ∧ w'.cell? ⟨g4, 3, none⟩ = some (.int .i64 ta) ∧ w'.cell? ⟨g4, 4, none⟩ = some (.int .i64 tb) ∧ w'.cell? ⟨g5, 0, none⟩ = some (.int .i64 on) ∧ w'.cell? ⟨g5, 1, none⟩ = some (.int .i64 os) ∧ w'.cell? ⟨g5, 2, none⟩ = some (.int .i64 oh) ∧ w'.cell? ⟨g5, 3, none⟩ = some (.int .i64 oa) ∧ w'.cell? ⟨g5, 4, none⟩ = some (.int .i64 ob) ∧ w'.cell? ⟨g6, 0, none⟩ = some (.int .i64 on) ∧ w'.cell? ⟨g6, 1, none⟩ = some (.int .i64 os) ∧ w'.cell? ⟨g6, 2, none⟩ = some (.int .i64 oh) ∧ w'.cell? ⟨g6, 3, none⟩ = some (.int .i64 oa) ∧ w'.cell? ⟨g6, 4, none⟩ = some (.int .i64 ob) ∧ w.heap.size < w'.heap.size ∧ g1 < w'.heap.size ∧ g2 < w'.heap.size ∧ g3 < w'.heap.size ∧ g4 < w'.heap.size ∧ g5 < w'.heap.size ∧ g6 < w'.heap.size ∧ Below w.heap.size w w')
    (first
      | exact ⟨by assumption, by assumption, by assumption, by assumption, by assumption, by assumption, by assumption, by assumption, by assumption, by assumption, by assumption, by assumption, by assumption, by assumption, by assumption, by assumption, by assumption, by assumption, by assumption, by assumption, by assumption, by assumption, by assumption, by assumption, by assumption, by assumption, by assumption, by assumption, by assumption, by assumption, by assumption, by assumption, by assumption, by assumption, by assumption, by assumption, by assumption, by assumption, by assumption, by assumption, by assumption, by assumption, by assumption⟩
      | exact ⟨by assumption, by assumption, by assumption, by assumption, by assumption, by assumption, by assumption, by assumption, by assumption, by assumption, by assumption, by assumption, by assumption, by assumption, by assumption, by assumption, by assumption, by assumption, by assumption, by assumption, by assumption, by assumption, by assumption, by assumption, by assumption, by assumption, by assumption, by assumption, by assumption, by assumption, by assumption, by assumption, by assumption, by assumption, by assumption, by assumption, by assumption, by assumption, by assumption, by assumption, by assumption, by assumption, Below.drew (by assumption)⟩
      | go_keep)
    (first
      | (go_at_call 10; refine (num_any _ _).mono ?_; rintro e wz ⟨rfl, rfl⟩)
      | (go_at_call 11; refine (CC.out _).mono ?_; rintro e wz ⟨rfl, hbz⟩; have hkz := keep7 (w := w) (g0 := w.heap.size) (g1 := g1) (g2 := g2) (g3 := g3) (g4 := g4) (g5 := g5) (g6 := g6) (n1 := n1) (s1 := s1) (h1 := h1) (a1 := a1) (b1 := b1) (pn := pn) (ps := ps) (ph := ph) (pa := pa) (pb := pb) (tn := tn) (ts := ts) (th := th) (ta := ta) (tb := tb) (on := on) (os := os) (oh := oh) (oa := oa) (ob := ob) hbz (by assumption); obtain ⟨z0, z1, z2, z3, z4, z5, z6, z7, z8, z9, z10, z11, z12, z13, z14, z15, z16, z17, z18, z19, z20, z21, z22, z23, z24, z25, z26, z27, z28, z29, z30, z31, z32, z33, z34, z35, z36, z37, z38, z39, z40, z41, z42⟩ := hkz)
      | (go_at_call 12; refine (CR.out _).mono ?_; rintro e wz ⟨rfl, hbz⟩; have hkz := keep7 (w := w) (g0 := w.heap.size) (g1 := g1) (g2 := g2) (g3 := g3) (g4 := g4) (g5 := g5) (g6 := g6) (n1 := n1) (s1 := s1) (h1 := h1) (a1 := a1) (b1 := b1) (pn := pn) (ps := ps) (ph := ph) (pa := pa) (pb := pb) (tn := tn) (ts := ts) (th := th) (ta := ta) (tb := tb) (on := on) (os := os) (oh := oh) (oa := oa) (ob := ob) hbz (by assumption); obtain ⟨z0, z1, z2, z3, z4, z5, z6, z7, z8, z9, z10, z11, z12, z13, z14, z15, z16, z17, z18, z19, z20, z21, z22, z23, z24, z25, z26, z27, z28, z29, z30, z31, z32, z33, z34, z35, z36, z37, z38, z39, z40, z41, z42⟩ := hkz)
      | (go_at_call 13; refine (CS.out _ ?_).mono ?_; (refine keep7B (w := w) (g0 := w.heap.size) (g1 := g1) (g2 := g2) (g3 := g3) (g4 := g4) (g5 := g5) (g6 := g6) (n1 := n1) (s1 := s1) (h1 := h1) (a1 := a1) (b1 := b1) (pn := pn) (ps := ps) (ph := ph) (pa := pa) (pb := pb) (tn := tn) (ts := ts) (th := th) (ta := ta) (tb := tb) (on := on) (os := os) (oh := oh) (oa := oa) (ob := ob) ?_; assumption); rintro e wz ⟨rfl, hbz⟩; have hkz := keep7 (w := w) (g0 := w.heap.size) (g1 := g1) (g2 := g2) (g3 := g3) (g4 := g4) (g5 := g5) (g6 := g6) (n1 := n1) (s1 := s1) (h1 := h1) (a1 := a1) (b1 := b1) (pn := pn) (ps := ps) (ph := ph) (pa := pa) (pb := pb) (tn := tn) (ts := ts) (th := th) (ta := ta) (tb := tb) (on := on) (os := os) (oh := oh) (oa := oa) (ob := ob) hbz (by assumption); obtain ⟨z0, z1, z2, z3, z4, z5, z6, z7, z8, z9, z10, z11, z12, z13, z14, z15, z16, z17, z18, z19, z20, z21, z22, z23, z24, z25, z26, z27, z28, z29, z30, z31, z32, z33, z34, z35, z36, z37, z38, z39, z40, z41, z42⟩ := hkz)
      | (go_at_call 14; refine (CT.out _).mono ?_; rintro e wz ⟨rfl, hbz⟩; have hkz := keep7 (w := w) (g0 := w.heap.size) (g1 := g1) (g2 := g2) (g3 := g3) (g4 := g4) (g5 := g5) (g6 := g6) (n1 := n1) (s1 := s1) (h1 := h1) (a1 := a1) (b1 := b1) (pn := pn) (ps := ps) (ph := ph) (pa := pa) (pb := pb) (tn := tn) (ts := ts) (th := th) (ta := ta) (tb := tb) (on := on) (os := os) (oh := oh) (oa := oa) (ob := ob) hbz (by assumption); obtain ⟨z0, z1, z2, z3, z4, z5, z6, z7, z8, z9, z10, z11, z12, z13, z14, z15, z16, z17, z18, z19, z20, z21, z22, z23, z24, z25, z26, z27, z28, z29, z30, z31, z32, z33, z34, z35, z36, z37, z38, z39, z40, z41, z42⟩ := hkz)
      | (go_at_call 15; refine (live_any _).mono ?_; rintro e wz ⟨rfl, hbz⟩; have hkz := keep7 (w := w) (g0 := w.heap.size) (g1 := g1) (g2 := g2) (g3 := g3) (g4 := g4) (g5 := g5) (g6 := g6) (n1 := n1) (s1 := s1) (h1 := h1) (a1 := a1) (b1 := b1) (pn := pn) (ps := ps) (ph := ph) (pa := pa) (pb := pb) (tn := tn) (ts := ts) (th := th) (ta := ta) (tb := tb) (on := on) (os := os) (oh := oh) (oa := oa) (ob := ob) hbz (by assumption); obtain ⟨z0, z1, z2, z3, z4, z5, z6, z7, z8, z9, z10, z11, z12, z13, z14, z15, z16, z17, z18, z19, z20, z21, z22, z23, z24, z25, z26, z27, z28, z29, z30, z31, z32, z33, z34, z35, z36, z37, z38, z39, z40, z41, z42⟩ := hkz))
  all_goals
    go_wp2_with fail
    go_ret
    exact ⟨rfl, by assumption⟩
end Go.Proofs.YtdjpfhmhcocfeaaDoor.Gl

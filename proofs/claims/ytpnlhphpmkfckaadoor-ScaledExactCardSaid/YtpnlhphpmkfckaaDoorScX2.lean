import Derived.Test.YtpnlhphpmkfckaaDoorScX
import Derived.Test.YtpnlhphpmkfckaaDoorScT
/- The walk of ScaledExact (printed by gen_scx2.py). Conditions: those that each theorem names. -/
namespace Go.Proofs.YtpnlhphpmkfckaaDoor.Ss
open Go.ChangeShapes Go.WideShapes Go.ChangeAt Go.RowKit
open Me Sc
set_option linter.unusedVariables false
set_option linter.unusedSimpArgs false

theorem least_true (x q d r : Int) (w : World) (p0 : -4611686018427387904 ≤ q * d) (p1 : q * d ≤ 4611686018427387904) (r0 : -2147483647 ≤ r) (r1 : r ≤ 2147483647) (d1 : 1 ≤ d) (d2 : d ≤ 2147483647)
    (h : q * d + r = x ∧ (x < 0 → r ≤ 0 ∧ -r < d) ∧ (0 ≤ x → 0 ≤ r ∧ r < d)) : Calls Tryd.prog 34 #[.int .i64 x, .int .i64 q, .int .i64 d, .int .i64 r] w fun e w' => e = .returned (.bool true) ∧ w = w' := by
  have e1 : (q * d + r != x) = false := by rw [bne_eq_false_iff_eq]; exact h.1
  by_cases hx : x < 0
  · obtain ⟨a, b⟩ := h.2.1 hx
    clear h
    go_enter Tryd.func34, Tryd.ntmps34
    go_wp2
    go_ret
    exact ⟨by first | rfl | exact ret_bool (by simp [*]), rfl⟩
  · obtain ⟨a, b⟩ := h.2.2 (by omega)
    clear h
    go_enter Tryd.func34, Tryd.ntmps34
    go_wp2
    go_ret
    exact ⟨by first | rfl | exact ret_bool (by simp [*]), rfl⟩
theorem ov_ok {x d : Int} (x0 : -1073741823 ≤ x) (x1 : x ≤ 1073741823) (d1 : 1 ≤ d) (d2 : d ≤ 2147483647) : ovQ x d = x.tdiv d ∧ ovR x d = x.tmod d ∧ ovE x d = 0 := by
  have a := farB_in (x := x) (by omega) (by omega)
  have b := farB_in (x := d) (by omega) (by omega)
  have c : ¬ d = 0 := by omega
  simp [ovQ, ovR, ovE, a, b, c]
theorem fr_ok {x n d : Int} (x0 : -1073741823 ≤ x) (x1 : x ≤ 1073741823) (n0 : 0 ≤ n) (n1 : n ≤ 2147483646) (d1 : 1 ≤ d) (d2 : d ≤ 2147483647) :
    (bigB ((x * n).tdiv d) = false → frQ x n d = (x * n).tdiv d ∧ frR x n d = (x * n).tmod d ∧ frE x n d = 0) ∧ (bigB ((x * n).tdiv d) = true → frQ x n d = 0 ∧ frR x n d = 0 ∧ frE x n d = 20) := by
  have a := farB_in (x := x) (by omega) (by omega)
  have b := farB_in (x := d) (by omega) (by omega)
  have c := farB_in (x := n) (by omega) (by omega)
  have e : ¬ (n < 0 ∨ d < 1) := by omega
  constructor <;> intro h <;> simp [frQ, frR, frE, a, b, c, e, h]
set_option maxHeartbeats 2000000 in
set_option maxRecDepth 100000 in
theorem exact_walk (x n d : Int) (w : World) (htab : Tab w) : Calls Tryd.prog 8 #[.int .i64 x, .int .i64 n, .int .i64 d] w fun e w' => e = .returned (.bool true) ∧ Below w.heap.size w w' := by
  have HTAB := Lib.hid htab
  clear htab
  obtain ⟨X0, X1⟩ := tmD_bd x
  have HDX := Lib.hid fun w => ldimen x w
  generalize tmD x = X at *
  have nb0 := Int.tmod_lt_of_pos n (show (0 : Int) < 2147483647 by omega)
  have nb1 := Int.lt_tmod_of_pos n (show (0 : Int) < 2147483647 by omega)
  have db0 := Int.tmod_lt_of_pos d (show (0 : Int) < 2147483647 by omega)
  have db1 := Int.lt_tmod_of_pos d (show (0 : Int) < 2147483647 by omega)
  go_enter Tryd.func8, Tryd.ntmps8
  go_wp2_with fail
  refine (HDX.out _).mono ?_
  rintro e w' ⟨rfl, rfl⟩
  go_wp2_with fail
  obtain ⟨N, hN⟩ : ∃ N, N = (n.tmod 2147483647 + 2147483647) % 2147483647 := ⟨_, rfl⟩
  obtain ⟨D, hD⟩ : ∃ D, D = 1 + d.tmod 2147483647 % 2147483647 := ⟨_, rfl⟩
  rw [← hN, ← hD]
  have N0 : 0 ≤ N := by omega
  have N1 : N ≤ 2147483646 := by omega
  have D1 : 1 ≤ D := by omega
  have D2 : D ≤ 2147483647 := by omega
  clear hN hD nb0 nb1 db0 db1
  have HL1 := Lib.hid (least_of (x := X) D1)
  have ho := over_any X D w
  rw [(ov_ok X0 X1 D1 D2).1, (ov_ok X0 X1 D1 D2).2.1, (ov_ok X0 X1 D1 D2).2.2] at ho
  refine ho.mono ?_
  clear ho
  rintro e w1 ⟨rfl, hb1⟩
  go_wp2_with fail
  obtain ⟨m0, m1⟩ := mul_bd (a := X) (b := N) (m := 1073741823) (n := 2147483647) ⟨X0, X1⟩ ⟨by omega, by omega⟩
  have HL2 := Lib.hid (least_of (x := X * N) D1)
  obtain ⟨q0, q1⟩ := tdiv_bd (a := X) (d := D) (m := 1073741823) ⟨X0, X1⟩
  obtain ⟨qd0, qd1⟩ := mul_bd (a := X.tdiv D) (b := D) (m := 1073741823) (n := 2147483647) ⟨q0, q1⟩ ⟨by omega, by omega⟩
  have rb0 := Int.tmod_lt_of_pos X (show 0 < D by omega)
  have rb1 := Int.lt_tmod_of_pos X (show 0 < D by omega)
  have HLT1 := Lib.hid fun w => least_true X (X.tdiv D) D (X.tmod D) w (by omega) (by omega) (by omega) (by omega) D1 D2 HL1.out
  cases hz : bigB ((X * N).tdiv D)
  · have hf := frac_any X N D w1
    rw [((fr_ok X0 X1 N0 N1 D1 D2).1 hz).1, ((fr_ok X0 X1 N0 N1 D1 D2).1 hz).2.1, ((fr_ok X0 X1 N0 N1 D1 D2).1 hz).2.2] at hf
    refine hf.mono ?_
    clear hf
    rintro e w2 ⟨rfl, hb2⟩
    have hl2 := andThen hb1 hb2
    clear hb1 hb2
    obtain ⟨z0, z1⟩ := bigB_no hz
    have sb0 := Int.tmod_lt_of_pos (X * N) (show 0 < D by omega)
    have sb1 := Int.lt_tmod_of_pos (X * N) (show 0 < D by omega)
    have hsd := HL2.out.1
    have HLT2 := Lib.hid fun w => least_true (X * N) ((X * N).tdiv D) D ((X * N).tmod D) w (by omega) (by omega) (by omega) (by omega) D1 D2 HL2.out
    clear hsd
    go_wp2_with (go_at_call 16; refine (num_any _ _).mono ?_; rintro e w' ⟨rfl, rfl⟩)
    refine (HLT1.out _).mono ?_
    rintro e w' ⟨rfl, rfl⟩
    go_wp2_with fail
    refine (knows_any _ (HTAB.out.below hl2)).mono ?_
    rintro e wk ⟨rfl, hbk⟩
    have hl3 := andThen hl2 hbk
    clear hl2 hbk
    go_wp2_with (go_at_call 16; refine (num_any _ _).mono ?_; rintro e w' ⟨rfl, rfl⟩)
    refine (HLT2.out _).mono ?_
    rintro e w' ⟨rfl, rfl⟩
    go_wp2_with (go_at_call 16; refine (num_any _ _).mono ?_; rintro e w' ⟨rfl, rfl⟩)
    have g0 := Int.emod_nonneg N (show D + 1 ≠ 0 by omega)
    have g1 := Int.emod_lt_of_pos N (show 0 < D + 1 by omega)
    generalize N % (D + 1) = m at *
    have hx := ex_ok (x := X) (m := m) (d := D) X0 X1 g0 (by omega) D1 D2
    obtain ⟨hok, h1, h2, h3, h4, h5⟩ := hx
    have c1 := fun w => part_any X m D w
    have c2 := fun w => part_any X (D - m) D w
    have c3 := fun w => part_any X D D w
    have c4 := fun w => part_any X 0 D w
    have c5 := fun w => part_any (-X) m D w
    rw [h1] at c1
    rw [h2] at c2
    rw [h3.1, h3.2] at c3
    rw [h4.1, h4.2] at c4
    rw [h5.1, h5.2] at c5
    have HOK := Lib.hid hok
    clear hok h1 h2 h3 h4 h5
    generalize paV X m D = a at *
    generalize paV X (D - m) D = b at *
    have C1 := Lib.hid c1
    have C2 := Lib.hid c2
    have C3 := Lib.hid c3
    have C4 := Lib.hid c4
    have C5 := Lib.hid c5
    clear c1 c2 c3 c4 c5
    have a0 := HOK.out.a0
    have a1 := HOK.out.a1
    have b0 := HOK.out.b0
    have b1 := HOK.out.b1
    refine (C1.out _).mono ?_
    rintro e w4 ⟨rfl, hb4⟩
    have hl4 := andThen hl3 hb4
    clear hl3 hb4
    go_wp2_with fail
    refine (C2.out _).mono ?_
    rintro e w5 ⟨rfl, hb5⟩
    have hl5 := andThen hl4 hb5
    clear hl4 hb5
    go_wp2_with fail
    refine (C3.out _).mono ?_
    rintro e w6 ⟨rfl, hb6⟩
    have hl6 := andThen hl5 hb6
    clear hl5 hb6
    go_wp2_with fail
    refine (C4.out _).mono ?_
    rintro e w7 ⟨rfl, hb7⟩
    have hl7 := andThen hl6 hb7
    clear hl6 hb7
    go_wp2_with fail
    refine (C5.out _).mono ?_
    rintro e w8 ⟨rfl, hb8⟩
    have hl8 := andThen hl7 hb8
    clear hl7 hb8
    have off0 := HOK.out.off0
    have off1 := HOK.out.off1
    have n0 := HOK.out.n0
    have n1 := HOK.out.n1
    obtain ⟨v0, v1⟩ := mul_bd (a := X) (b := m) (m := 1073741823) (n := 2147483647) ⟨X0, X1⟩ ⟨by omega, by omega⟩
    obtain ⟨u0, u1⟩ := mul_bd (a := a) (b := D) (m := 1073741823) (n := 2147483647) ⟨a0, a1⟩ ⟨by omega, by omega⟩
    go_wp2_with (go_at_call 16; refine (num_any _ _).mono ?_; rintro e w' ⟨rfl, rfl⟩)
    go_ret
    exact ⟨by first | rfl | exact ret_bool (by simp [*]), hl8⟩
  · have hf := frac_any X N D w1
    rw [((fr_ok X0 X1 N0 N1 D1 D2).2 hz).1, ((fr_ok X0 X1 N0 N1 D1 D2).2 hz).2.1, ((fr_ok X0 X1 N0 N1 D1 D2).2 hz).2.2] at hf
    refine hf.mono ?_
    clear hf
    rintro e w2 ⟨rfl, hb2⟩
    have hl2 := andThen hb1 hb2
    clear hb1 hb2
    go_wp2_with (go_at_call 16; refine (num_any _ _).mono ?_; rintro e w' ⟨rfl, rfl⟩)
    refine (HLT1.out _).mono ?_
    rintro e w' ⟨rfl, rfl⟩
    go_wp2_with fail
    refine (knows_any _ (HTAB.out.below hl2)).mono ?_
    rintro e wk ⟨rfl, hbk⟩
    have hl3 := andThen hl2 hbk
    clear hl2 hbk
    go_wp2_with (go_at_call 16; refine (num_any _ _).mono ?_; rintro e w' ⟨rfl, rfl⟩)
    have g0 := Int.emod_nonneg N (show D + 1 ≠ 0 by omega)
    have g1 := Int.emod_lt_of_pos N (show 0 < D + 1 by omega)
    generalize N % (D + 1) = m at *
    have hx := ex_ok (x := X) (m := m) (d := D) X0 X1 g0 (by omega) D1 D2
    obtain ⟨hok, h1, h2, h3, h4, h5⟩ := hx
    have c1 := fun w => part_any X m D w
    have c2 := fun w => part_any X (D - m) D w
    have c3 := fun w => part_any X D D w
    have c4 := fun w => part_any X 0 D w
    have c5 := fun w => part_any (-X) m D w
    rw [h1] at c1
    rw [h2] at c2
    rw [h3.1, h3.2] at c3
    rw [h4.1, h4.2] at c4
    rw [h5.1, h5.2] at c5
    have HOK := Lib.hid hok
    clear hok h1 h2 h3 h4 h5
    generalize paV X m D = a at *
    generalize paV X (D - m) D = b at *
    have C1 := Lib.hid c1
    have C2 := Lib.hid c2
    have C3 := Lib.hid c3
    have C4 := Lib.hid c4
    have C5 := Lib.hid c5
    clear c1 c2 c3 c4 c5
    have a0 := HOK.out.a0
    have a1 := HOK.out.a1
    have b0 := HOK.out.b0
    have b1 := HOK.out.b1
    refine (C1.out _).mono ?_
    rintro e w4 ⟨rfl, hb4⟩
    have hl4 := andThen hl3 hb4
    clear hl3 hb4
    go_wp2_with fail
    refine (C2.out _).mono ?_
    rintro e w5 ⟨rfl, hb5⟩
    have hl5 := andThen hl4 hb5
    clear hl4 hb5
    go_wp2_with fail
    refine (C3.out _).mono ?_
    rintro e w6 ⟨rfl, hb6⟩
    have hl6 := andThen hl5 hb6
    clear hl5 hb6
    go_wp2_with fail
    refine (C4.out _).mono ?_
    rintro e w7 ⟨rfl, hb7⟩
    have hl7 := andThen hl6 hb7
    clear hl6 hb7
    go_wp2_with fail
    refine (C5.out _).mono ?_
    rintro e w8 ⟨rfl, hb8⟩
    have hl8 := andThen hl7 hb8
    clear hl7 hb8
    have off0 := HOK.out.off0
    have off1 := HOK.out.off1
    have n0 := HOK.out.n0
    have n1 := HOK.out.n1
    obtain ⟨v0, v1⟩ := mul_bd (a := X) (b := m) (m := 1073741823) (n := 2147483647) ⟨X0, X1⟩ ⟨by omega, by omega⟩
    obtain ⟨u0, u1⟩ := mul_bd (a := a) (b := D) (m := 1073741823) (n := 2147483647) ⟨a0, a1⟩ ⟨by omega, by omega⟩
    go_wp2_with (go_at_call 16; refine (num_any _ _).mono ?_; rintro e w' ⟨rfl, rfl⟩)
    go_ret
    exact ⟨by first | rfl | exact ret_bool (by simp [*]), hl8⟩
end Go.Proofs.YtpnlhphpmkfckaaDoor.Ss

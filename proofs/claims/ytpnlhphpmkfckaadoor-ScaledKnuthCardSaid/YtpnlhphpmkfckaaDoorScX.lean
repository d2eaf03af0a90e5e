import Derived.Test.YtpnlhphpmkfckaaDoorScP
import Derived.Test.YtpnlhphpmkfckaaDoorScQ
import Derived.Lib.MinMax
/- The walk of ScaledBadness (printed by gen_scx.py). Conditions: those that each theorem names. -/
namespace Go.Proofs.YtpnlhphpmkfckaaDoor.Ss
open Go.ChangeShapes Go.WideShapes Go.ChangeAt Go.RowKit
open Me Sc
set_option linter.unusedVariables false
set_option linter.unusedSimpArgs false

/-- A dimension out of any number. -/
def tmD (x : Int) : Int := x.tmod 1073741824
theorem tmD_bd (x : Int) : -1073741823 ≤ tmD x ∧ tmD x ≤ 1073741823 := by
  have h1 := Int.tmod_lt_of_pos x (show (0 : Int) < 1073741824 by omega)
  have h2 := Int.lt_tmod_of_pos x (show (0 : Int) < 1073741824 by omega)
  unfold tmD
  omega
theorem ldimen (x : Int) (w : World) : Calls Tryd.prog 12 #[.int .i64 x] w fun e w' => e = .returned (.int .i64 (tmD x)) ∧ w = w' := by
  have hb := tmD_bd x
  obtain ⟨h2, h3⟩ := hb
  unfold tmD at h2 h3
  go_enter Tryd.func12, Tryd.ntmps12
  go_wp2
  go_ret
  exact ⟨ret_int (by unfold tmD; first | rfl | exact IntWalk.wrap64_in _ (by omega)), rfl⟩
set_option maxHeartbeats 2000000 in
set_option maxRecDepth 100000 in
theorem bad_walk (t s more : Int) (w : World) (htab : Tab w) : Calls Tryd.prog 4 #[.int .i64 t, .int .i64 s, .int .i64 more] w fun e w' => e = .returned (.bool true) ∧ Below w.heap.size w w' := by
  have HTAB := Lib.hid htab
  clear htab
  obtain ⟨tb0, tb1⟩ := tmD_bd t
  obtain ⟨S0, S1⟩ := tmD_bd s
  obtain ⟨mb0, mb1⟩ := tmD_bd more
  have HDT := Lib.hid fun w => ldimen t w
  have HDS := Lib.hid fun w => ldimen s w
  have HDM := Lib.hid fun w => ldimen more w
  generalize tmD t = X at *
  generalize tmD s = S at *
  generalize tmD more = Y at *
  obtain ⟨T, hT⟩ : ∃ T, T = max X (-X) := ⟨_, rfl⟩
  obtain ⟨M, hM⟩ : ∃ M, M = max Y (-Y) := ⟨_, rfl⟩
  have T0 : 0 ≤ T := by omega
  have T1 : T ≤ 1073741823 := by omega
  have M0 : 0 ≤ M := by omega
  have M1 : M ≤ 1073741823 := by omega
  have HOK := Lib.hid (bd_ok T0 T1 S0 S1 M0 M1)
  have E1 := Lib.hid (bdE_ok T0 T1 S0 S1)
  have E2 := Lib.hid (bdE_ok (t := min (T + M) 1073741823) (s := S) (by omega) (by omega) S0 S1)
  have E3 := Lib.hid (bdE_ok (t := T) (s := min (S + M) 1073741823) T0 T1 (by omega) (by omega))
  have E4 := Lib.hid (bdE_ok (t := T) (s := T) T0 T1 (by omega) T1)
  have hTe := hT.symm
  have hMe := hM.symm
  clear hT hM
  go_enter Tryd.func4, Tryd.ntmps4
  go_wp2_with fail
  refine (HDT.out _).mono ?_
  rintro e w' ⟨rfl, rfl⟩
  go_wp2_with fail
  refine (HDT.out _).mono ?_
  rintro e w' ⟨rfl, rfl⟩
  go_wp2_with fail
  refine (HDS.out _).mono ?_
  rintro e w' ⟨rfl, rfl⟩
  go_wp2_with fail
  refine (HDM.out _).mono ?_
  rintro e w' ⟨rfl, rfl⟩
  go_wp2_with fail
  refine (HDM.out _).mono ?_
  rintro e w' ⟨rfl, rfl⟩
  go_wp2_with fail
  have hc1 := bad_any T S w
  rw [E1.out] at hc1
  refine hc1.mono ?_
  clear hc1
  rintro e w1 ⟨rfl, hb1⟩
  have hl1 := hb1
  clear hb1
  go_wp2_with fail
  have hc2 := bad_any (min (T + M) 1073741823) S w1
  rw [E2.out] at hc2
  refine hc2.mono ?_
  clear hc2
  rintro e w2 ⟨rfl, hb2⟩
  have hl2 := andThen hl1 hb2
  clear hl1 hb2
  go_wp2_with fail
  have hc3 := bad_any T (min (S + M) 1073741823) w2
  rw [E3.out] at hc3
  refine hc3.mono ?_
  clear hc3
  rintro e w3 ⟨rfl, hb3⟩
  have hl3 := andThen hl2 hb3
  clear hl2 hb3
  go_wp2_with fail
  have hc4 := bad_any T T w3
  rw [E4.out] at hc4
  refine hc4.mono ?_
  clear hc4
  rintro e w4 ⟨rfl, hb4⟩
  have hl4 := andThen hl3 hb4
  clear hl3 hb4
  generalize bdV T S = b at *
  generalize bdV (min (T + M) 1073741823) S = c at *
  generalize bdV T (min (S + M) 1073741823) = d at *
  generalize bdV T T = f at *
  have b0 := HOK.out.b0
  have b1 := HOK.out.b1
  have bc := HOK.out.bc
  have db := HOK.out.db
  clear hTe hMe
  by_cases hT0 : T = 0
  · obtain ⟨z1, z2⟩ := HOK.out.zero hT0
    subst z1 z2
    have e1 : (T == 0) = true := by simpa using hT0
    have e2 : T ≤ 0 := by omega
    clear hT0
    go_wp2_with (first | (go_at_call 16; refine (num_any _ _).mono ?_; rintro e w' ⟨rfl, rfl⟩) | (go_at_call 17; refine (knows_any _ (HTAB.out.below hl4)).mono ?_; rintro e wk ⟨rfl, hbk⟩))
    all_goals (go_ret; exact ⟨rfl, andThen hl4 hbk⟩)
  · have p : 0 < T := by omega
    have e1 : (T == 0) = false := by simpa using hT0
    have z1 := HOK.out.pos p
    subst z1
    clear hT0
    by_cases hS : S < 1
    · have z2 := HOK.out.none p hS
      subst z2
      go_wp2_with (first | (go_at_call 16; refine (num_any _ _).mono ?_; rintro e w' ⟨rfl, rfl⟩) | (go_at_call 17; refine (knows_any _ (HTAB.out.below hl4)).mono ?_; rintro e wk ⟨rfl, hbk⟩))
      all_goals (go_ret; exact ⟨rfl, andThen hl4 hbk⟩)
    · have hS1 : 1 ≤ S := by omega
      by_cases h7 : 7230584 < T
      · go_wp2_with (first | (go_at_call 16; refine (num_any _ _).mono ?_; rintro e w' ⟨rfl, rfl⟩) | (go_at_call 17; refine (knows_any _ (HTAB.out.below hl4)).mono ?_; rintro e wk ⟨rfl, hbk⟩))
        all_goals (go_ret; exact ⟨rfl, andThen hl4 hbk⟩)
      · have h7' : T ≤ 7230584 := by omega
        obtain ⟨r, hr⟩ : ∃ r, r = 297 * T / S := ⟨_, rfl⟩
        have hr0 : 0 ≤ r := by rw [hr]; exact Int.ediv_nonneg (by omega) (by omega)
        have hrT : r ≤ 297 * T := by rw [hr]; exact Int.ediv_le_self _ (by omega)
        have hre := hr.symm
        have HR := Lib.hid hr
        clear hr
        by_cases r5 : r ≤ 50
        · have z2 := HOK.out.small p hS1 h7' (by rw [← HR.out]; exact r5)
          subst z2
          go_wp2_with (first | (go_at_call 16; refine (num_any _ _).mono ?_; rintro e w' ⟨rfl, rfl⟩) | (go_at_call 17; refine (knows_any _ (HTAB.out.below hl4)).mono ?_; rintro e wk ⟨rfl, hbk⟩))
          all_goals (go_ret; exact ⟨rfl, andThen hl4 hbk⟩)
        · have z2 := HOK.out.some p hS1 h7' (by rw [← HR.out]; omega)
          have e3 : (b == 0) = false := by rw [beq_eq_false_iff_ne]; omega
          have e5 : decide (r ≤ 50) = false := decide_eq_false (by omega)
          by_cases r6 : 1290 < r
          · have z3 := HOK.out.top p hS1 h7' (by rw [← HR.out]; exact r6)
            subst z3
            go_wp2_with (first | (go_at_call 16; refine (num_any _ _).mono ?_; rintro e w' ⟨rfl, rfl⟩) | (go_at_call 17; refine (knows_any _ (HTAB.out.below hl4)).mono ?_; rintro e wk ⟨rfl, hbk⟩))
            all_goals (go_ret; exact ⟨rfl, andThen hl4 hbk⟩)
          · go_wp2_with (first | (go_at_call 16; refine (num_any _ _).mono ?_; rintro e w' ⟨rfl, rfl⟩) | (go_at_call 17; refine (knows_any _ (HTAB.out.below hl4)).mono ?_; rintro e wk ⟨rfl, hbk⟩))
            all_goals (go_ret; exact ⟨rfl, andThen hl4 hbk⟩)
end Go.Proofs.YtpnlhphpmkfckaaDoor.Ss

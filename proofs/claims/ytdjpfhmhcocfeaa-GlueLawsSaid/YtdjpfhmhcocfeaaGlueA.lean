import Derived.Test.YtdjpfhmhcocfeaaRows
import Derived.Test.YtdjpfhmhcocfeaaGlueD
import Derived.Test.YtdjpfhmhcocfeaaShelf
import Derived.WalkKit
import Derived.ProofKit
import Derived.OpenShut
import Derived.WalkSpells
import Derived.WalkLawsBesides
import Derived.Handy
import Derived.Outline
import Derived.Lib.Hide
import Derived.Deep.DeepCutAuto
/- Contracts of the small functions of the layer glue: near, round, Share, and the document's Share. Conditions: those that each theorem names. -/
namespace Go.Proofs.Ytdjpfhmhcocfeaa.Gl
open Go.ChangeShapes Go.WideShapes Go.ChangeAt Go.RowKit

theorem ret_bool {a b : Bool} (h : a = b) : Ending.returned (.bool a) = .returned (.bool b) := by rw [h]
theorem ret_int {k : IntKind} {a b : Int} (h : a = b) : Ending.returned (.int k a) = .returned (.int k b) := by rw [h]
theorem ret_two {k l : IntKind} {a b c d : Int} (h : a = b) (h' : c = d) : Ending.returned (.tuple #[.int k a, .int l c]) = .returned (.tuple #[.int k b, .int l d]) := by rw [h, h']
theorem ret_intbool {k : IntKind} {a b : Int} {c d : Bool} (h : a = b) (h' : c = d) : Ending.returned (.tuple #[.int k a, .bool c]) = .returned (.tuple #[.int k b, .bool d]) := by rw [h, h']

theorem and_one_i64 (x : Int) (h0 : 0 ≤ x) (h1 : x ≤ 9223372036854775807) : bits .and .i64 x 1 = x % 2 := by
  obtain ⟨a, rfl⟩ := Int.eq_ofNat_of_zero_le h0
  have ha : (BitVec.ofInt 64 (a : Int)).toNat = a := by
    rw [BitVec.ofInt_natCast, BitVec.toNat_ofNat]; exact Nat.mod_eq_of_lt (by omega)
  show IntKind.i64.wrap ((BitVec.ofInt 64 (a : Int) &&& BitVec.ofInt 64 1).toNat : Int) = _
  rw [BitVec.toNat_and, ha, show (BitVec.ofInt 64 1).toNat = 1 from rfl, Nat.and_one_is_mod, IntKind.wrap_i64]
  omega

theorem near_any (x : Int) (w : World) :
    Calls Try.prog 24 #[.int .i64 x] w fun e w' => e = .returned (.bool (nearB x)) ∧ w = w' := by
  by_cases h0 : -70368744177664 ≤ x
  · by_cases h1 : x ≤ 70368744177664
    · go_enter Try.func24, Try.ntmps24
      go_wp2
      go_ret
      exact ⟨ret_bool (nearB_yes h0 h1).symm, rfl⟩
    · go_enter Try.func24, Try.ntmps24
      go_wp2
      go_ret
      exact ⟨ret_bool (nearB_no (by omega)).symm, rfl⟩
  · go_enter Try.func24, Try.ntmps24
    go_wp2
    go_ret
    exact ⟨ret_bool (nearB_no (by omega)).symm, rfl⟩

theorem within_any (x : Int) (w : World) :
    Calls Try.prog 26 #[.int .i64 x] w fun e w' => e = .returned (.bool (nearB x)) ∧ w = w' := by
  by_cases h0 : -70368744177664 ≤ x
  · by_cases h1 : x ≤ 70368744177664
    · go_enter Try.func26, Try.ntmps26
      go_wp2
      go_ret
      exact ⟨ret_bool (nearB_yes h0 h1).symm, rfl⟩
    · go_enter Try.func26, Try.ntmps26
      go_wp2
      go_ret
      exact ⟨ret_bool (nearB_no (by omega)).symm, rfl⟩
  · go_enter Try.func26, Try.ntmps26
    go_wp2
    go_ret
    exact ⟨ret_bool (nearB_no (by omega)).symm, rfl⟩

theorem num_any (x : Int) (w : World) :
    Calls Try.prog 11 #[.int .i64 x] w fun e w' => e = .returned (.int .i64 x) ∧ w = w' := by
  go_enter Try.func11, Try.ntmps11
  go_wp2
  go_ret
  exact ⟨rfl, rfl⟩

/-- The document's Share: what is out of range. -/
theorem refShare_range (s n d : Int) (w : World) (hok : shOk s n d = false) :
    Calls Try.prog 10 #[.int .i64 s, .int .i64 n, .int .i64 d] w fun e w' => e = .returned (.tuple #[.int .i64 0, .int .i64 11]) ∧ w = w' := by
  by_cases hd : d < 1
  · go_enter Try.func10, Try.ntmps10
    go_wp2_with (first | (go_at_call 26; refine (within_any _ _).mono ?_; rintro e w' ⟨rfl, rfl⟩))
    go_ret2
    exact ⟨rfl, rfl⟩
  · cases hs : nearB s
    · go_enter Try.func10, Try.ntmps10
      go_wp2_with (first | (go_at_call 26; refine (within_any _ _).mono ?_; rintro e w' ⟨rfl, rfl⟩))
      go_ret2
      exact ⟨rfl, rfl⟩
    · cases hn : nearB n
      · go_enter Try.func10, Try.ntmps10
        go_wp2_with (first | (go_at_call 26; refine (within_any _ _).mono ?_; rintro e w' ⟨rfl, rfl⟩))
        go_ret2
        exact ⟨rfl, rfl⟩
      · have hd' : nearB d = false := by
          cases hx : nearB d
          · rfl
          · rw [show shOk s n d = true by simp [shOk, hs, hn, hx]; omega] at hok; cases hok
        go_enter Try.func10, Try.ntmps10
        go_wp2_with (first | (go_at_call 26; refine (within_any _ _).mono ?_; rintro e w' ⟨rfl, rfl⟩))
        go_ret2
        exact ⟨rfl, rfl⟩

theorem refShare_in (s n d : Int) (w : World) (hok : shOk s n d = true) :
    Calls Try.prog 10 #[.int .i64 s, .int .i64 n, .int .i64 d] w fun e w' => e = .returned (.tuple #[.int .i64 (shV s n d), .int .i64 (shE s n d)]) ∧ w = w' := by
  obtain ⟨h1, ⟨s0, s1⟩, ⟨n0, n1⟩, d0, d1⟩ := shOk_iff.1 hok
  have hs := nearB_yes s0 s1
  have hn := nearB_yes n0 n1
  have hd := nearB_yes d0 d1
  have HOK := Lib.hid hok
  clear hok
  have hdd : decide (d < 1) = false := decide_eq_false (by omega)
  go_enter Try.func10, Try.ntmps10
  go_upto_if 30 with (first | (go_at_call 26; refine (within_any _ _).mono ?_; rintro e w' ⟨rfl, rfl⟩))
  go_cut [0, 8] (fun v0 v8 wx => v0 = .int .i64 (mag s) ∧ v8 = .int .i64 (sg s) ∧ w = wx)
  case first =>
    go_wp2_with fail
    · go_meet
      have h : s < 0 := by assumption
      exact ⟨by rw [mag_below h], by rw [sg, if_pos h], rfl⟩
    · go_meet
      have h : 0 ≤ s := by assumption
      exact ⟨by rw [mag_above h], by rw [sg, if_neg (by omega)], rfl⟩
  case rest =>
    obtain ⟨rfl, rfl, rfl⟩ := hcut
    have hsg := sg_bd s
    go_upto_if 36 with fail
    go_cut [1, 8] (fun v0 v8 wx => v0 = .int .i64 (mag n) ∧ v8 = .int .i64 (sgn s n) ∧ w = wx)
    case first =>
      go_wp2_with fail
      · go_meet
        have h : n < 0 := by assumption
        exact ⟨by rw [mag_below h], by rw [sgn_below h], rfl⟩
      · go_meet
        have h : 0 ≤ n := by assumption
        exact ⟨by rw [mag_above h], by rw [sgn_above h], rfl⟩
    case rest =>
      obtain ⟨rfl, rfl, rfl⟩ := hcut
      have b0 := mag_nonneg s
      have b1 : mag s ≤ 70368744177664 := mag_le s0 s1
      have c0 := mag_nonneg n
      have c1 : mag n ≤ 70368744177664 := mag_le n0 n1
      clear s0 s1 n0 n1 hs hn hd hdd hsg
      go_wp2_with fail
      go_loop [9, 10, 11] (fun q r i => ∃ k : Nat, k ≤ 47 ∧ i = .int .i64 ((k : Int) - 1) ∧ q = .int .i64 (mag n * (mag s / 2 ^ k) / d) ∧ r = .int .i64 (mag n * (mag s / 2 ^ k) % d) ∧ mag n * (mag s / 2 ^ k) / d ≤ 70368744177664) (fun _ _ i => (intOf i + 1).toNat)
      case atStart =>
        have e : mag s / 2 ^ 47 = 0 := Int.ediv_eq_zero_of_lt b0 (by omega)
        exact ⟨47, by omega, rfl, by rw [e]; simp, by rw [e]; simp, by rw [e]; simp⟩
      case round =>
        obtain ⟨k, hk, rfl, rfl, rfl, hq⟩ := hrel
        have q0 : 0 ≤ mag n * (mag s / 2 ^ k) / d := Int.ediv_nonneg (Int.mul_nonneg c0 (top_nonneg b0 _)) (by omega)
        have r0 : 0 ≤ mag n * (mag s / 2 ^ k) % d := Int.emod_nonneg _ (by omega)
        have r1 : mag n * (mag s / 2 ^ k) % d < d := Int.emod_lt_of_pos _ (by omega)
        cases k with
        | zero =>
          rw [show mag s / 2 ^ 0 = mag s by simp] at *
          have up := rq_up (p := mag n * mag s) (d := d)
          have down := rq_down (p := mag n * mag s) (d := d)
          have far := end_far HOK.out
          have fin := end_ok HOK.out
          generalize hQ : mag n * mag s / d = Q at *
          generalize hR : mag n * mag s % d = R at *
          generalize hV : rq (mag n * mag s) d = V at *
          generalize hG : sgn s n = G at *
          have UP := Lib.hid up
          have DOWN := Lib.hid down
          have FAR := Lib.hid far
          have FIN := Lib.hid fin
          have hg : G = 1 ∨ G = -1 := by have := sgn_cases s n; rw [hG] at this; exact this
          clear hQ hR hV hG up down far fin HOK
          rcases hg with rfl | rfl
          all_goals
            go_wp2_with fail
            · have h2 : d ≤ 2 * R := by assumption
              have h3 : 70368744177664 < Q + 1 := by assumption
              obtain ⟨f1, f2⟩ := FAR.out (by rw [UP.out h2]; exact h3)
              go_ret2
              exact ⟨ret_two f1.symm f2.symm, rfl⟩
            · have h2 : d ≤ 2 * R := by assumption
              have h3 : Q + 1 ≤ 70368744177664 := by assumption
              have h4 := UP.out h2
              obtain ⟨f1, f2⟩ := FIN.out (by rw [h4]; exact h3)
              go_ret2
              exact ⟨ret_two (by rw [f1, h4]; omega) f2.symm, rfl⟩
            · have h2 : 2 * R < d := by assumption
              have h4 := DOWN.out h2
              obtain ⟨f1, f2⟩ := FIN.out (by rw [h4]; exact hq)
              go_ret2
              exact ⟨ret_two (by rw [f1, h4]; omega) f2.symm, rfl⟩
        | succ j =>
          rw [show ((j + 1 : Nat) : Int) - 1 = j from by omega]
          have t0 := top_nonneg b0 j
          have t1 := top_le b0 j
          have hand := and_one_i64 (mag s / 2 ^ j) t0 (by omega)
          rcases bit_cases (mag s / 2 ^ j) with hb | hb
          · have ht : (bits BinOp.and IntKind.i64 (mag s / 2 ^ j) 1 == 1) = false := by rw [hand, hb]; rfl
            obtain ⟨e1, e2⟩ := round_zero (n := mag n) (d := d) (s := mag s) (j := j) h1 hb
            generalize hQ : mag n * (mag s / 2 ^ (j + 1)) / d = Q at *
            generalize hR : mag n * (mag s / 2 ^ (j + 1)) % d = R at *
            have E1 := Lib.hid e1
            have E2 := Lib.hid e2
            have g0 : 0 ≤ 2 * R / d := Int.ediv_nonneg (by omega) (by omega)
            have g1 : 2 * R / d ≤ 2 * R := Int.ediv_le_self _ (by omega)
            clear hQ hR e1 e2 hand hb t0 t1
            go_wp2_with fail
            · have hf : 70368744177664 < 2 * Q + 2 * R / d := by assumption
              obtain ⟨f1, f2⟩ := far_top HOK.out (E1.out ▸ hf)
              go_ret2
              exact ⟨ret_two f1.symm f2.symm, rfl⟩
            · have hf : 2 * Q + 2 * R / d ≤ 70368744177664 := by assumption
              go_round
              case rel => exact ⟨j, by omega, rfl, by rw [E1.out], by rw [E2.out], E1.out ▸ hf⟩
              case measure => simp [intOf]
          · have ht : (bits BinOp.and IntKind.i64 (mag s / 2 ^ j) 1 == 1) = true := by rw [hand, hb]; rfl
            obtain ⟨e1, e2⟩ := round_one (n := mag n) (d := d) (s := mag s) (j := j) h1 hb
            generalize hQ : mag n * (mag s / 2 ^ (j + 1)) / d = Q at *
            generalize hR : mag n * (mag s / 2 ^ (j + 1)) % d = R at *
            have E1 := Lib.hid e1
            have E2 := Lib.hid e2
            have g0 : 0 ≤ (2 * R + mag n) / d := Int.ediv_nonneg (by omega) (by omega)
            have g1 : (2 * R + mag n) / d ≤ 2 * R + mag n := Int.ediv_le_self _ (by omega)
            clear hQ hR e1 e2 hand hb t0 t1
            go_wp2_with fail
            · have hf : 70368744177664 < 2 * Q + (2 * R + mag n) / d := by assumption
              obtain ⟨f1, f2⟩ := far_top HOK.out (E1.out ▸ hf)
              go_ret2
              exact ⟨ret_two f1.symm f2.symm, rfl⟩
            · have hf : 2 * Q + (2 * R + mag n) / d ≤ 70368744177664 := by assumption
              go_round
              case rel => exact ⟨j, by omega, rfl, by rw [E1.out], by rw [E2.out], E1.out ▸ hf⟩
              case measure => simp [intOf]
end Go.Proofs.Ytdjpfhmhcocfeaa.Gl

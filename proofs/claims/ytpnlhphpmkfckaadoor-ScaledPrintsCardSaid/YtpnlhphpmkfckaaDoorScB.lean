import Derived.Test.YtpnlhphpmkfckaaDoorScA
import Derived.Test.YtpnlhphpmkfckaaDoorDivB
import Derived.Lib.RabinKarpLaws
/- Contracts of Part and Badness, and of the document's (printed by gen_scb.py). Conditions: those that each theorem names. -/
namespace Go.Proofs.YtpnlhphpmkfckaaDoor.Ss
open Go.ChangeShapes Go.WideShapes Go.ChangeAt Go.RowKit
open Me Sc
set_option linter.unusedVariables false
set_option linter.unusedSimpArgs false

theorem rnd_up {p d q r : Nat} (hq : p / d = q) (hr : p % d = r) (h : d ≤ 2 * r) : rnd p d = q + 1 := by unfold rnd; rw [hq, hr, if_pos h]
theorem rnd_dn {p d q r : Nat} (hq : p / d = q) (hr : p % d = r) (h : ¬ d ≤ 2 * r) : rnd p d = q := by unfold rnd; rw [hq, hr, if_neg h]
theorem paV_pos {X S D : Nat} (hx : farB (X : Int) = false) (h : paOk S D = true) : paV X S D = ((rnd (X * S) D : Nat) : Int) := by
  unfold paV
  rw [if_neg (by simp [hx]), if_neg (by simp [h]), if_neg (by omega)]
  simp
theorem paV_neg {X S D : Nat} (hx : farB (-(X : Int)) = false) (h : paOk S D = true) (h0 : -(X : Int) < 0) : paV (-(X : Int)) S D = -((rnd (X * S) D : Nat) : Int) := by
  unfold paV
  rw [if_neg (by simp [hx]), if_neg (by simp [h]), if_pos h0]
  simp
theorem paE_ok {x n d : Int} (hx : farB x = false) (h : paOk n d = true) : paE x n d = 0 := by simp [paE, hx, h]
theorem quo_le {X S D : Nat} (h : S ≤ D) (hD : 0 < D) : X * S / D ≤ X := by
  have h1 : X * S / D ≤ X * D / D := Nat.div_le_div_right (Nat.mul_le_mul_left _ h)
  rwa [Nat.mul_div_cancel _ hD] at h1
theorem hi_lt {X S D H L : Nat} (hX : X ≤ 2147483647) (hS : S ≤ D) (hD : 0 < D) (h : H * 18446744073709551616 + L = X * S) : H < D := by
  have h1 : X * S ≤ 2147483647 * D := Nat.mul_le_mul hX hS
  omega
set_option maxHeartbeats 1000000 in
theorem part_any (x n d : Int) (w : World) : Calls Tryd.prog 35 #[.int .i64 x, .int .i64 n, .int .i64 d] w fun e w' => e = .returned (.tuple #[.int .i64 (paV x n d), .int .i64 (paE x n d)]) ∧ Below w.heap.size w w' := by
  cases hx : farB x
  · obtain ⟨x0, x1⟩ := farB_no hx
    by_cases c0 : n < 0
    · have hp : paOk n d = false := decide_eq_false (by omega)
      go_enter Tryd.func35, Tryd.ntmps35
      go_wp2_with (first | (go_at_call 42; refine (far_any _ _).mono ?_; rintro e w' ⟨rfl, rfl⟩))
      go_ret2
      exact ⟨ret_ints (by simp [paV, *]) (by simp [paE, *]), (by repeat (first | exact Below.refl _ _ | assumption | apply below_drewN | apply andAlloc))⟩
    · skip
      by_cases c1 : d < n
      · have hp : paOk n d = false := decide_eq_false (by omega)
        go_enter Tryd.func35, Tryd.ntmps35
        go_wp2_with (first | (go_at_call 42; refine (far_any _ _).mono ?_; rintro e w' ⟨rfl, rfl⟩))
        go_ret2
        exact ⟨ret_ints (by simp [paV, *]) (by simp [paE, *]), (by repeat (first | exact Below.refl _ _ | assumption | apply below_drewN | apply andAlloc))⟩
      · skip
        by_cases c2 : d < 1
        · have hp : paOk n d = false := decide_eq_false (by omega)
          go_enter Tryd.func35, Tryd.ntmps35
          go_wp2_with (first | (go_at_call 42; refine (far_any _ _).mono ?_; rintro e w' ⟨rfl, rfl⟩))
          go_ret2
          exact ⟨ret_ints (by simp [paV, *]) (by simp [paE, *]), (by repeat (first | exact Below.refl _ _ | assumption | apply below_drewN | apply andAlloc))⟩
        · skip
          by_cases c3 : 1152921504606846976 < d
          · have hp : paOk n d = false := decide_eq_false (by omega)
            go_enter Tryd.func35, Tryd.ntmps35
            go_wp2_with (first | (go_at_call 42; refine (far_any _ _).mono ?_; rintro e w' ⟨rfl, rfl⟩))
            go_ret2
            exact ⟨ret_ints (by simp [paV, *]) (by simp [paE, *]), (by repeat (first | exact Below.refl _ _ | assumption | apply below_drewN | apply andAlloc))⟩
          · obtain ⟨S, rfl⟩ : ∃ S : Nat, n = S := ⟨n.toNat, by omega⟩
            obtain ⟨D, rfl⟩ : ∃ D : Nat, d = D := ⟨d.toNat, by omega⟩
            have hp : paOk S D = true := decide_eq_true ⟨by omega, by omega, by omega, by omega⟩
            by_cases sg : x < 0
            · obtain ⟨X, rfl⟩ : ∃ X : Nat, x = -(X : Int) := ⟨x.natAbs, by omega⟩
              obtain ⟨H, L, hHL, hL, hmul⟩ := Dv.mul_any X S (by omega) (by omega)
              have hHD := hi_lt (X := X) (S := S) (D := D) (by omega) (by omega) (by omega) hHL
              obtain ⟨Q, R, hQ, hR, hdiv⟩ := Dv.div_any H L D hL hHD (by omega)
              rw [hHL] at hQ hR
              have hRD : R < D := by rw [← hR]; exact Nat.mod_lt _ (by omega)
              have hQX : Q ≤ X := by rw [← hQ]; exact quo_le (by omega) (by omega)
              have HM := Lib.hid hmul
              have HD := Lib.hid hdiv
              have HQ := Lib.hid hQ
              have HR := Lib.hid hR
              have HX := Lib.hid hx
              have HP := Lib.hid hp
              have HS := Lib.hid sg
              have hL' : L ≤ 18446744073709551615 := by omega
              clear hmul hdiv hQ hR hHL hL hp
              by_cases hup : D ≤ 2 * R
              · have HUP := Lib.hid hup
                have hup1 : (D : Int) ≤ 2 * R := by omega
                clear hup
                go_enter Tryd.func35, Tryd.ntmps35
                go_wp2_with (first | (go_at_call 42; refine (far_any _ _).mono ?_; rintro e w' ⟨rfl, rfl⟩) | (go_at_call 62; refine (HM.out _).mono ?_; rintro e w' ⟨rfl, rfl⟩) | (go_at_call 63; refine (HD.out _).mono ?_; rintro e w' ⟨rfl, nd, rfl⟩))
                go_ret2
                exact ⟨ret_ints (by rw [paV_neg HX.out HP.out HS.out, rnd_up HQ.out HR.out HUP.out]; try (first | rfl | omega | (push_cast; omega))) (paE_ok HX.out HP.out).symm, (by repeat (first | exact Below.refl _ _ | assumption | apply below_drewN | apply andAlloc))⟩
              · have HUP := Lib.hid hup
                have hup1 : (2 : Int) * R < D := by omega
                clear hup
                go_enter Tryd.func35, Tryd.ntmps35
                go_wp2_with (first | (go_at_call 42; refine (far_any _ _).mono ?_; rintro e w' ⟨rfl, rfl⟩) | (go_at_call 62; refine (HM.out _).mono ?_; rintro e w' ⟨rfl, rfl⟩) | (go_at_call 63; refine (HD.out _).mono ?_; rintro e w' ⟨rfl, nd, rfl⟩))
                go_ret2
                exact ⟨ret_ints (by rw [paV_neg HX.out HP.out HS.out, rnd_dn HQ.out HR.out HUP.out]; try (first | rfl | omega | (push_cast; omega))) (paE_ok HX.out HP.out).symm, (by repeat (first | exact Below.refl _ _ | assumption | apply below_drewN | apply andAlloc))⟩
            · obtain ⟨X, rfl⟩ : ∃ X : Nat, x = (X : Int) := ⟨x.natAbs, by omega⟩
              obtain ⟨H, L, hHL, hL, hmul⟩ := Dv.mul_any X S (by omega) (by omega)
              have hHD := hi_lt (X := X) (S := S) (D := D) (by omega) (by omega) (by omega) hHL
              obtain ⟨Q, R, hQ, hR, hdiv⟩ := Dv.div_any H L D hL hHD (by omega)
              rw [hHL] at hQ hR
              have hRD : R < D := by rw [← hR]; exact Nat.mod_lt _ (by omega)
              have hQX : Q ≤ X := by rw [← hQ]; exact quo_le (by omega) (by omega)
              have HM := Lib.hid hmul
              have HD := Lib.hid hdiv
              have HQ := Lib.hid hQ
              have HR := Lib.hid hR
              have HX := Lib.hid hx
              have HP := Lib.hid hp
              have HS := Lib.hid sg
              have hL' : L ≤ 18446744073709551615 := by omega
              clear hmul hdiv hQ hR hHL hL hp
              by_cases hup : D ≤ 2 * R
              · have HUP := Lib.hid hup
                have hup1 : (D : Int) ≤ 2 * R := by omega
                clear hup
                go_enter Tryd.func35, Tryd.ntmps35
                go_wp2_with (first | (go_at_call 42; refine (far_any _ _).mono ?_; rintro e w' ⟨rfl, rfl⟩) | (go_at_call 62; refine (HM.out _).mono ?_; rintro e w' ⟨rfl, rfl⟩) | (go_at_call 63; refine (HD.out _).mono ?_; rintro e w' ⟨rfl, nd, rfl⟩))
                go_ret2
                exact ⟨ret_ints (by rw [paV_pos HX.out HP.out, rnd_up HQ.out HR.out HUP.out]; try (first | rfl | omega | (push_cast; omega))) (paE_ok HX.out HP.out).symm, (by repeat (first | exact Below.refl _ _ | assumption | apply below_drewN | apply andAlloc))⟩
              · have HUP := Lib.hid hup
                have hup1 : (2 : Int) * R < D := by omega
                clear hup
                go_enter Tryd.func35, Tryd.ntmps35
                go_wp2_with (first | (go_at_call 42; refine (far_any _ _).mono ?_; rintro e w' ⟨rfl, rfl⟩) | (go_at_call 62; refine (HM.out _).mono ?_; rintro e w' ⟨rfl, rfl⟩) | (go_at_call 63; refine (HD.out _).mono ?_; rintro e w' ⟨rfl, nd, rfl⟩))
                go_ret2
                exact ⟨ret_ints (by rw [paV_pos HX.out HP.out, rnd_dn HQ.out HR.out HUP.out]; try (first | rfl | omega | (push_cast; omega))) (paE_ok HX.out HP.out).symm, (by repeat (first | exact Below.refl _ _ | assumption | apply below_drewN | apply andAlloc))⟩
  · go_enter Tryd.func35, Tryd.ntmps35
    go_wp2_with (first | (go_at_call 42; refine (far_any _ _).mono ?_; rintro e w' ⟨rfl, rfl⟩))
    go_ret2
    exact ⟨ret_ints (by simp [paV, *]) (by simp [paE, *]), (by repeat (first | exact Below.refl _ _ | assumption | apply below_drewN | apply andAlloc))⟩

theorem dm {P D q r : Nat} (h : q * D + r = P) (hr : r < D) : P / D = q ∧ P % D = r := by
  subst h
  constructor
  · rw [Nat.mul_comm, Nat.mul_add_div (by omega), Nat.div_eq_of_lt hr, Nat.add_zero]
  · rw [Nat.mul_comm, Nat.mul_add_mod, Nat.mod_eq_of_lt hr]
theorem q_le {p S D q r : Nat} (h : q * D + r = p * S) (hS : S ≤ D) (hD : 0 < D) : q ≤ p := by
  have h1 : p * S ≤ p * D := Nat.mul_le_mul_left _ hS
  exact Nat.le_of_mul_le_mul_right (by omega : q * D ≤ p * D) hD
theorem bit_of {X k : Nat} (hX : X ≤ 2147483647) : bits BinOp.and IntKind.i64 ((X : Int) / 2 ^ k) 1 = ((X / 2 ^ k % 2 : Nat) : Int) := by
  have h := Go.Proofs.and_one (X / 2 ^ k) (Nat.lt_of_le_of_lt (Nat.div_le_self _ _) (by omega))
  rw [← h]
  congr 1
theorem bit_start {X S D k Q0 R0 b : Nat} (hQ : Q0 = X / 2 ^ (k + 1) * S / D) (hR : R0 = X / 2 ^ (k + 1) * S % D) (hb : X / 2 ^ k % 2 = b) : 2 * Q0 * D + (2 * R0 + b * S) = X / 2 ^ k * S := by
  have h1 : X / 2 ^ (k + 1) = X / 2 ^ k / 2 := by rw [Nat.pow_succ, Nat.div_div_eq_div_mul]
  rw [h1] at hQ hR
  have h2 := Nat.div_add_mod (X / 2 ^ k / 2 * S) D
  rw [← hQ, ← hR] at h2
  have h3 : X / 2 ^ k = 2 * (X / 2 ^ k / 2) + b := by omega
  generalize X / 2 ^ k / 2 = p at *
  rw [h3, Nat.add_mul, Nat.mul_assoc 2 p S, ← h2, Nat.mul_assoc, Nat.mul_comm Q0 D]
  omega
structure InvP (X S D k q r : Nat) : Prop where
  eq : q * D + r = X / 2 ^ k * S
  lo : r ≤ 3 * D
set_option maxHeartbeats 1000000 in
theorem refpart (X S D : Nat) (w : World) (hX : X ≤ 2147483647) (hS : S ≤ D) (hD : 1 ≤ D) (hD1 : D ≤ 1152921504606846976) :
    Calls Tryd.prog 64 #[.int .i64 X, .int .i64 S, .int .i64 D] w fun e w' => e = .returned (.tuple #[.int .i64 ((X * S / D : Nat) : Int), .int .i64 ((X * S % D : Nat) : Int)]) ∧ w = w' := by
  go_enter Tryd.func64, Tryd.ntmps64
  go_wp2_with fail
  go_loop [8, 9, 10] (fun q r b => ∃ k : Nat, k ≤ 32 ∧ b = .int .i64 ((k : Int) - 1) ∧ q = .int .i64 ((X / 2 ^ k * S / D : Nat) : Int) ∧ r = .int .i64 ((X / 2 ^ k * S % D : Nat) : Int)) (fun _ _ b => (intOf b + 1).toNat)
  case atStart => exact ⟨32, by omega, rfl, by rw [show X / 2 ^ 32 = 0 by omega]; simp, by rw [show X / 2 ^ 32 = 0 by omega]; simp⟩
  case round =>
    obtain ⟨k, hk, rfl, rfl, rfl⟩ := hrel
    cases k with
    | zero =>
      go_wp2_with fail
      go_ret2
      exact ⟨ret_ints (by simp) (by simp), rfl⟩
    | succ k =>
      have hk1 : ((k + 1 : Nat) : Int) - 1 = (k : Int) := by omega
      rw [hk1]
      have hk0 : 0 ≤ (k : Int) := by omega
      have hk2 : (k : Int) ≤ 31 := by omega
      obtain ⟨Q0, hQ0⟩ : ∃ Q0, Q0 = X / 2 ^ (k + 1) * S / D := ⟨_, rfl⟩
      obtain ⟨R0, hR0⟩ : ∃ R0, R0 = X / 2 ^ (k + 1) * S % D := ⟨_, rfl⟩
      rw [← hQ0, ← hR0]
      have hR1 : R0 < D := by rw [hR0]; exact Nat.mod_lt _ hD
      have hQ1 : Q0 ≤ 2147483647 := by rw [hQ0]; exact Nat.le_trans (quo_le hS hD) (Nat.le_trans (Nat.div_le_self _ _) hX)
      have HQ := Lib.hid hQ0
      have HR := Lib.hid hR0
      clear hQ0 hR0 hk1
      have HB := Lib.hid (bit_of (k := k) hX)
      by_cases hbit : X / 2 ^ k % 2 = 1
      · have eb : (bits BinOp.and IntKind.i64 ((X : Int) / 2 ^ k) 1 == 1) = true := by rw [HB.out, show X / 2 ^ k % 2 = 1 by omega]; rfl
        have HST := Lib.hid (bit_start HQ.out HR.out (show X / 2 ^ k % 2 = 1 by omega))
        have HBT := Lib.hid hbit
        clear hbit
        go_wp2_with fail
        go_loop [8, 9] (fun q r => ∃ q' r' : Nat, q = .int .i64 q' ∧ r = .int .i64 r' ∧ InvP X S D k q' r') (fun _ r => (intOf r).toNat)
        case atStart => exact ⟨2 * Q0, 2 * R0 + 1 * S, congrArg (Value.int .i64) (by push_cast; rfl), congrArg (Value.int .i64) (by push_cast; omega), HST.out, by omega⟩
        case round =>
          obtain ⟨q, r, rfl, rfl, hI⟩ := hrel
          have hq := Nat.le_trans (q_le hI.eq hS hD) (Nat.le_trans (Nat.div_le_self _ _) hX)
          have hr3 := hI.lo
          have HI := Lib.hid hI
          clear hI
          by_cases hlt : r < D
          · go_wp2_with fail
            go_round
            case rel => exact ⟨k, by omega, rfl, by rw [(dm HI.out.eq hlt).1], by rw [(dm HI.out.eq hlt).2]⟩
            case measure => simp [intOf]
          · have hge : (D : Int) ≤ r := by omega
            go_wp2_with fail
            go_round
            case rel => exact ⟨q + 1, r - D, by go_num, congrArg (Value.int .i64) (by omega), by have h := HI.out.eq; rw [← h, Nat.add_mul]; omega, by omega⟩
            case measure => simp [intOf]; omega
      · have eb : (bits BinOp.and IntKind.i64 ((X : Int) / 2 ^ k) 1 == 1) = false := by rw [HB.out, show X / 2 ^ k % 2 = 0 by omega]; rfl
        have HST := Lib.hid (bit_start HQ.out HR.out (show X / 2 ^ k % 2 = 0 by omega))
        have HBT := Lib.hid hbit
        clear hbit
        go_wp2_with fail
        go_loop [8, 9] (fun q r => ∃ q' r' : Nat, q = .int .i64 q' ∧ r = .int .i64 r' ∧ InvP X S D k q' r') (fun _ r => (intOf r).toNat)
        case atStart => exact ⟨2 * Q0, 2 * R0 + 0 * S, congrArg (Value.int .i64) (by push_cast; rfl), congrArg (Value.int .i64) (by push_cast; omega), HST.out, by omega⟩
        case round =>
          obtain ⟨q, r, rfl, rfl, hI⟩ := hrel
          have hq := Nat.le_trans (q_le hI.eq hS hD) (Nat.le_trans (Nat.div_le_self _ _) hX)
          have hr3 := hI.lo
          have HI := Lib.hid hI
          clear hI
          by_cases hlt : r < D
          · go_wp2_with fail
            go_round
            case rel => exact ⟨k, by omega, rfl, by rw [(dm HI.out.eq hlt).1], by rw [(dm HI.out.eq hlt).2]⟩
            case measure => simp [intOf]
          · have hge : (D : Int) ≤ r := by omega
            go_wp2_with fail
            go_round
            case rel => exact ⟨q + 1, r - D, by go_num, congrArg (Value.int .i64) (by omega), by have h := HI.out.eq; rw [← h, Nat.add_mul]; omega, by omega⟩
            case measure => simp [intOf]; omega
set_option maxHeartbeats 1000000 in
theorem refPart (x n d : Int) (w : World) : Calls Tryd.prog 36 #[.int .i64 x, .int .i64 n, .int .i64 d] w fun e w' => e = .returned (.tuple #[.int .i64 (paV x n d), .int .i64 (paE x n d)]) ∧ Below w.heap.size w w' := by
  cases hx : farB x
  · obtain ⟨x0, x1⟩ := farB_no hx
    by_cases c0 : n < 0
    · have hp : paOk n d = false := decide_eq_false (by omega)
      go_enter Tryd.func36, Tryd.ntmps36
      go_wp2_with (first | (go_at_call 52; refine (refFar _ _).mono ?_; rintro e w' ⟨rfl, rfl⟩))
      go_ret2
      exact ⟨ret_ints (by simp [paV, *]) (by simp [paE, *]), (by repeat (first | exact Below.refl _ _ | assumption | apply below_drewN | apply andAlloc))⟩
    · skip
      by_cases c1 : d < n
      · have hp : paOk n d = false := decide_eq_false (by omega)
        go_enter Tryd.func36, Tryd.ntmps36
        go_wp2_with (first | (go_at_call 52; refine (refFar _ _).mono ?_; rintro e w' ⟨rfl, rfl⟩))
        go_ret2
        exact ⟨ret_ints (by simp [paV, *]) (by simp [paE, *]), (by repeat (first | exact Below.refl _ _ | assumption | apply below_drewN | apply andAlloc))⟩
      · skip
        by_cases c2 : d < 1
        · have hp : paOk n d = false := decide_eq_false (by omega)
          go_enter Tryd.func36, Tryd.ntmps36
          go_wp2_with (first | (go_at_call 52; refine (refFar _ _).mono ?_; rintro e w' ⟨rfl, rfl⟩))
          go_ret2
          exact ⟨ret_ints (by simp [paV, *]) (by simp [paE, *]), (by repeat (first | exact Below.refl _ _ | assumption | apply below_drewN | apply andAlloc))⟩
        · skip
          by_cases c3 : 1152921504606846976 < d
          · have hp : paOk n d = false := decide_eq_false (by omega)
            go_enter Tryd.func36, Tryd.ntmps36
            go_wp2_with (first | (go_at_call 52; refine (refFar _ _).mono ?_; rintro e w' ⟨rfl, rfl⟩))
            go_ret2
            exact ⟨ret_ints (by simp [paV, *]) (by simp [paE, *]), (by repeat (first | exact Below.refl _ _ | assumption | apply below_drewN | apply andAlloc))⟩
          · obtain ⟨S, rfl⟩ : ∃ S : Nat, n = S := ⟨n.toNat, by omega⟩
            obtain ⟨D, rfl⟩ : ∃ D : Nat, d = D := ⟨d.toNat, by omega⟩
            have hp : paOk S D = true := decide_eq_true ⟨by omega, by omega, by omega, by omega⟩
            by_cases sg : x < 0
            · obtain ⟨X, rfl⟩ : ∃ X : Nat, x = -(X : Int) := ⟨x.natAbs, by omega⟩
              have HRP := Lib.hid fun w => refpart X S D w (by omega) (by omega) (by omega) (by omega)
              obtain ⟨Q, hQ⟩ : ∃ Q, X * S / D = Q := ⟨_, rfl⟩
              obtain ⟨R, hR⟩ : ∃ R, X * S % D = R := ⟨_, rfl⟩
              have hRD : R < D := by rw [← hR]; exact Nat.mod_lt _ (by omega)
              have hQX : Q ≤ X := by rw [← hQ]; exact quo_le (by omega) (by omega)
              rw [hQ, hR] at HRP
              have HQ := Lib.hid hQ
              have HR := Lib.hid hR
              have HX := Lib.hid hx
              have HP := Lib.hid hp
              have HS := Lib.hid sg
              clear hQ hR hp
              by_cases hup : D ≤ 2 * R
              · have HUP := Lib.hid hup
                have hup1 : (D : Int) ≤ 2 * R := by omega
                clear hup
                go_enter Tryd.func36, Tryd.ntmps36
                go_wp2_with (first | (go_at_call 52; refine (refFar _ _).mono ?_; rintro e w' ⟨rfl, rfl⟩) | (go_at_call 64; refine (HRP.out _).mono ?_; rintro e w' ⟨rfl, rfl⟩))
                go_ret2
                exact ⟨ret_ints (by rw [paV_neg HX.out HP.out HS.out, rnd_up HQ.out HR.out HUP.out]; try (first | rfl | omega | (push_cast; omega))) (paE_ok HX.out HP.out).symm, (by repeat (first | exact Below.refl _ _ | assumption | apply below_drewN | apply andAlloc))⟩
              · have HUP := Lib.hid hup
                have hup1 : (2 : Int) * R < D := by omega
                clear hup
                go_enter Tryd.func36, Tryd.ntmps36
                go_wp2_with (first | (go_at_call 52; refine (refFar _ _).mono ?_; rintro e w' ⟨rfl, rfl⟩) | (go_at_call 64; refine (HRP.out _).mono ?_; rintro e w' ⟨rfl, rfl⟩))
                go_ret2
                exact ⟨ret_ints (by rw [paV_neg HX.out HP.out HS.out, rnd_dn HQ.out HR.out HUP.out]; try (first | rfl | omega | (push_cast; omega))) (paE_ok HX.out HP.out).symm, (by repeat (first | exact Below.refl _ _ | assumption | apply below_drewN | apply andAlloc))⟩
            · obtain ⟨X, rfl⟩ : ∃ X : Nat, x = (X : Int) := ⟨x.natAbs, by omega⟩
              have HRP := Lib.hid fun w => refpart X S D w (by omega) (by omega) (by omega) (by omega)
              obtain ⟨Q, hQ⟩ : ∃ Q, X * S / D = Q := ⟨_, rfl⟩
              obtain ⟨R, hR⟩ : ∃ R, X * S % D = R := ⟨_, rfl⟩
              have hRD : R < D := by rw [← hR]; exact Nat.mod_lt _ (by omega)
              have hQX : Q ≤ X := by rw [← hQ]; exact quo_le (by omega) (by omega)
              rw [hQ, hR] at HRP
              have HQ := Lib.hid hQ
              have HR := Lib.hid hR
              have HX := Lib.hid hx
              have HP := Lib.hid hp
              have HS := Lib.hid sg
              clear hQ hR hp
              by_cases hup : D ≤ 2 * R
              · have HUP := Lib.hid hup
                have hup1 : (D : Int) ≤ 2 * R := by omega
                clear hup
                go_enter Tryd.func36, Tryd.ntmps36
                go_wp2_with (first | (go_at_call 52; refine (refFar _ _).mono ?_; rintro e w' ⟨rfl, rfl⟩) | (go_at_call 64; refine (HRP.out _).mono ?_; rintro e w' ⟨rfl, rfl⟩))
                go_ret2
                exact ⟨ret_ints (by rw [paV_pos HX.out HP.out, rnd_up HQ.out HR.out HUP.out]; try (first | rfl | omega | (push_cast; omega))) (paE_ok HX.out HP.out).symm, (by repeat (first | exact Below.refl _ _ | assumption | apply below_drewN | apply andAlloc))⟩
              · have HUP := Lib.hid hup
                have hup1 : (2 : Int) * R < D := by omega
                clear hup
                go_enter Tryd.func36, Tryd.ntmps36
                go_wp2_with (first | (go_at_call 52; refine (refFar _ _).mono ?_; rintro e w' ⟨rfl, rfl⟩) | (go_at_call 64; refine (HRP.out _).mono ?_; rintro e w' ⟨rfl, rfl⟩))
                go_ret2
                exact ⟨ret_ints (by rw [paV_pos HX.out HP.out, rnd_dn HQ.out HR.out HUP.out]; try (first | rfl | omega | (push_cast; omega))) (paE_ok HX.out HP.out).symm, (by repeat (first | exact Below.refl _ _ | assumption | apply below_drewN | apply andAlloc))⟩
  · go_enter Tryd.func36, Tryd.ntmps36
    go_wp2_with (first | (go_at_call 52; refine (refFar _ _).mono ?_; rintro e w' ⟨rfl, rfl⟩))
    go_ret2
    exact ⟨ret_ints (by simp [paV, *]) (by simp [paE, *]), (by repeat (first | exact Below.refl _ _ | assumption | apply below_drewN | apply andAlloc))⟩

theorem shr18 (a : Int) : a / 2 ^ 18 = a / 262144 := rfl
theorem bd_far {t s : Int} (h : farB t = true ∨ farB s = true) : bdV t s = 0 ∧ bdE t s = 11 := by unfold bdV bdE; rw [if_pos h, if_pos h]; exact ⟨rfl, rfl⟩
theorem bd_neg {t s : Int} (ht : farB t = false) (hs : farB s = false) (h : t < 0) : bdV t s = 0 ∧ bdE t s = 1 := by simp [bdV, bdE, ht, hs, h]
theorem bd_zero {t s : Int} (ht : farB t = false) (hs : farB s = false) (h : t = 0) : bdV t s = 0 ∧ bdE t s = 0 := by subst h; simp [bdV, bdE, ht, hs]
theorem bd_none {t s : Int} (ht : farB t = false) (hs : farB s = false) (h : 0 < t) (h1 : s < 1) : bdV t s = 10000 ∧ bdE t s = 0 := by
  have a : ¬ t < 0 := by omega
  have b : ¬ t = 0 := by omega
  simp [bdV, bdE, ht, hs, a, b, h1]
theorem bd_inf {t s r : Int} (ht : farB t = false) (hs : farB s = false) (h : 0 < t) (h1 : 1 ≤ s) (hr : bdR t s = r) (h2 : 1290 < r) : bdV t s = 10000 ∧ bdE t s = 0 := by
  have a : ¬ t < 0 := by omega
  have b : ¬ t = 0 := by omega
  have c : ¬ s < 1 := by omega
  simp [bdV, bdE, ht, hs, a, b, c, hr, h2]
theorem bd_fin {t s r : Int} (ht : farB t = false) (hs : farB s = false) (h : 0 < t) (h1 : 1 ≤ s) (hr : bdR t s = r) (h2 : r ≤ 1290) : bdV t s = (r * r * r + 131072) / 262144 ∧ bdE t s = 0 := by
  have a : ¬ t < 0 := by omega
  have b : ¬ t = 0 := by omega
  have c : ¬ s < 1 := by omega
  have d : ¬ 1290 < r := by omega
  simp [bdV, bdE, ht, hs, a, b, c, hr, d]
theorem bdR_a {t s : Int} (h : 0 < t) (h1 : 1 ≤ s) (h2 : t ≤ 7230584) : bdR t s = 297 * t / s := by
  unfold bdR
  rw [if_pos h2, Int.tdiv_eq_ediv_of_nonneg (by omega)]
theorem bdR_b {t s : Int} (h : 0 < t) (h2 : 7230584 < t) (h3 : 1663497 ≤ s) : bdR t s = t / (s / 297) := by
  unfold bdR
  rw [if_neg (by omega), if_pos h3, Int.tdiv_eq_ediv_of_nonneg (by omega), Int.tdiv_eq_ediv_of_nonneg (by omega)]
theorem bdR_c {t s : Int} (h2 : 7230584 < t) (h3 : s < 1663497) : bdR t s = t := by
  unfold bdR
  rw [if_neg (by omega), if_neg (by omega)]
theorem cube_bd {r : Int} (h0 : 0 ≤ r) (h1 : r ≤ 1290) : 0 ≤ r * r ∧ r * r ≤ 1664100 ∧ 0 ≤ r * r * r ∧ r * r * r ≤ 2146689000 := by
  have a := Int.mul_nonneg h0 h0
  have b : r * r ≤ 1290 * 1290 := Int.mul_le_mul h1 h1 h0 (by omega)
  have c := Int.mul_nonneg a h0
  have d : r * r * r ≤ 1664100 * 1290 := Int.mul_le_mul (by omega) h1 h0 (by omega)
  exact ⟨a, by omega, c, by omega⟩
set_option maxHeartbeats 1000000 in
theorem bad_any (t s : Int) (w : World) : Calls Tryd.prog 20 #[.int .i64 t, .int .i64 s] w fun e w' => e = .returned (.tuple #[.int .i64 (bdV t s), .int .i64 (bdE t s)]) ∧ Below w.heap.size w w' := by
  cases ht : farB t
  · obtain ⟨t0, t1⟩ := farB_no ht
    have HT := Lib.hid ht
    cases hs : farB s
    · obtain ⟨s0, s1⟩ := farB_no hs
      have HS := Lib.hid hs
      by_cases n0 : t < 0
      · go_enter Tryd.func20, Tryd.ntmps20
        go_wp2_with (first | (go_at_call 51; refine (anyFar2 _ t s _ ((Blk.new' rfl).cell 0) ((Blk.new' rfl).cell 1)).mono ?_; rintro e w' ⟨rfl, rfl⟩))
        go_ret2
        exact ⟨ret_ints (by rw [(bd_neg HT.out HS.out n0).1]) (by rw [(bd_neg HT.out HS.out n0).2]), (by repeat (first | exact Below.refl _ _ | assumption | apply below_drewN | apply andAlloc))⟩
      · by_cases n1 : t = 0
        · have e1 : (t == 0) = true := by simpa using n1
          have N1 := Lib.hid n1
          clear n1
          go_enter Tryd.func20, Tryd.ntmps20
          go_wp2_with (first | (go_at_call 51; refine (anyFar2 _ t s _ ((Blk.new' rfl).cell 0) ((Blk.new' rfl).cell 1)).mono ?_; rintro e w' ⟨rfl, rfl⟩))
          go_ret2
          exact ⟨ret_ints (by rw [(bd_zero HT.out HS.out N1.out).1]) (by rw [(bd_zero HT.out HS.out N1.out).2]), (by repeat (first | exact Below.refl _ _ | assumption | apply below_drewN | apply andAlloc))⟩
        · have hp : 0 < t := by omega
          have e1 : (t == 0) = false := by simpa using n1
          clear n1
          by_cases n2 : s < 1
          · go_enter Tryd.func20, Tryd.ntmps20
            go_wp2_with (first | (go_at_call 51; refine (anyFar2 _ t s _ ((Blk.new' rfl).cell 0) ((Blk.new' rfl).cell 1)).mono ?_; rintro e w' ⟨rfl, rfl⟩))
            go_ret2
            exact ⟨ret_ints (by rw [(bd_none HT.out HS.out hp n2).1]) (by rw [(bd_none HT.out HS.out hp n2).2]), (by repeat (first | exact Below.refl _ _ | assumption | apply below_drewN | apply andAlloc))⟩
          · have hs1 : 1 ≤ s := by omega
            by_cases c1 : t ≤ 7230584
            · have v0 : 0 ≤ t * 297 / s := Int.ediv_nonneg (by omega) (by omega)
              have v1 : t * 297 / s ≤ t * 297 := Int.ediv_le_self _ (by omega)
              by_cases big : 1290 < t * 297 / s
              · go_enter Tryd.func20, Tryd.ntmps20
                go_wp2_with (first | (go_at_call 51; refine (anyFar2 _ t s _ ((Blk.new' rfl).cell 0) ((Blk.new' rfl).cell 1)).mono ?_; rintro e w' ⟨rfl, rfl⟩))
                go_ret2
                exact ⟨ret_ints (by rw [(bd_inf HT.out HS.out hp hs1 (show bdR t s = t * 297 / s by rw [bdR_a hp hs1 c1, Int.mul_comm]) big).1]) (by rw [(bd_inf HT.out HS.out hp hs1 (show bdR t s = t * 297 / s by rw [bdR_a hp hs1 c1, Int.mul_comm]) big).2]), (by repeat (first | exact Below.refl _ _ | assumption | apply below_drewN | apply andAlloc))⟩
              · obtain ⟨u0, u1, u2, u3⟩ := cube_bd (r := t * 297 / s) (by omega) (by omega)
                go_enter Tryd.func20, Tryd.ntmps20
                go_wp2_with (first | (go_at_call 51; refine (anyFar2 _ t s _ ((Blk.new' rfl).cell 0) ((Blk.new' rfl).cell 1)).mono ?_; rintro e w' ⟨rfl, rfl⟩))
                go_ret2
                exact ⟨ret_ints (by rw [(bd_fin HT.out HS.out hp hs1 (show bdR t s = t * 297 / s by rw [bdR_a hp hs1 c1, Int.mul_comm]) (by omega)).1]) (by rw [(bd_fin HT.out HS.out hp hs1 (show bdR t s = t * 297 / s by rw [bdR_a hp hs1 c1, Int.mul_comm]) (by omega)).2]), (by repeat (first | exact Below.refl _ _ | assumption | apply below_drewN | apply andAlloc))⟩
            · by_cases c2 : 1663497 ≤ s
              · have v0 : 0 ≤ t / (s / 297) := Int.ediv_nonneg (by omega) (by omega)
                have v1 : t / (s / 297) ≤ t := Int.ediv_le_self _ (by omega)
                have v2 : 1 ≤ s / 297 := by omega
                by_cases big : 1290 < t / (s / 297)
                · go_enter Tryd.func20, Tryd.ntmps20
                  go_wp2_with (first | (go_at_call 51; refine (anyFar2 _ t s _ ((Blk.new' rfl).cell 0) ((Blk.new' rfl).cell 1)).mono ?_; rintro e w' ⟨rfl, rfl⟩))
                  go_ret2
                  exact ⟨ret_ints (by rw [(bd_inf HT.out HS.out hp hs1 (bdR_b hp (by omega) c2) big).1]) (by rw [(bd_inf HT.out HS.out hp hs1 (bdR_b hp (by omega) c2) big).2]), (by repeat (first | exact Below.refl _ _ | assumption | apply below_drewN | apply andAlloc))⟩
                · obtain ⟨u0, u1, u2, u3⟩ := cube_bd (r := t / (s / 297)) (by omega) (by omega)
                  go_enter Tryd.func20, Tryd.ntmps20
                  go_wp2_with (first | (go_at_call 51; refine (anyFar2 _ t s _ ((Blk.new' rfl).cell 0) ((Blk.new' rfl).cell 1)).mono ?_; rintro e w' ⟨rfl, rfl⟩))
                  go_ret2
                  exact ⟨ret_ints (by rw [(bd_fin HT.out HS.out hp hs1 (bdR_b hp (by omega) c2) (by omega)).1]) (by rw [(bd_fin HT.out HS.out hp hs1 (bdR_b hp (by omega) c2) (by omega)).2]), (by repeat (first | exact Below.refl _ _ | assumption | apply below_drewN | apply andAlloc))⟩
              · have c3 : 1290 < t := by omega
                go_enter Tryd.func20, Tryd.ntmps20
                go_wp2_with (first | (go_at_call 51; refine (anyFar2 _ t s _ ((Blk.new' rfl).cell 0) ((Blk.new' rfl).cell 1)).mono ?_; rintro e w' ⟨rfl, rfl⟩))
                go_ret2
                exact ⟨ret_ints (by rw [(bd_inf HT.out HS.out hp hs1 (bdR_c (by omega) (by omega)) c3).1]) (by rw [(bd_inf HT.out HS.out hp hs1 (bdR_c (by omega) (by omega)) c3).2]), (by repeat (first | exact Below.refl _ _ | assumption | apply below_drewN | apply andAlloc))⟩
    · have HS := Lib.hid hs
      go_enter Tryd.func20, Tryd.ntmps20
      go_wp2_with (first | (go_at_call 51; refine (anyFar2 _ t s _ ((Blk.new' rfl).cell 0) ((Blk.new' rfl).cell 1)).mono ?_; rintro e w' ⟨rfl, rfl⟩))
      go_ret2
      exact ⟨ret_ints (by rw [(bd_far (.inr HS.out)).1]) (by rw [(bd_far (.inr HS.out)).2]), (by repeat (first | exact Below.refl _ _ | assumption | apply below_drewN | apply andAlloc))⟩
  · have HT := Lib.hid ht
    go_enter Tryd.func20, Tryd.ntmps20
    go_wp2_with (first | (go_at_call 51; refine (anyFar2 _ t s _ ((Blk.new' rfl).cell 0) ((Blk.new' rfl).cell 1)).mono ?_; rintro e w' ⟨rfl, rfl⟩))
    go_ret2
    exact ⟨ret_ints (by rw [(bd_far (.inl HT.out)).1]) (by rw [(bd_far (.inl HT.out)).2]), (by repeat (first | exact Below.refl _ _ | assumption | apply below_drewN | apply andAlloc))⟩
set_option maxHeartbeats 1000000 in
theorem refBad (t s : Int) (w : World) : Calls Tryd.prog 37 #[.int .i64 t, .int .i64 s] w fun e w' => e = .returned (.tuple #[.int .i64 (bdV t s), .int .i64 (bdE t s)]) ∧ Below w.heap.size w w' := by
  cases ht : farB t
  · obtain ⟨t0, t1⟩ := farB_no ht
    have HT := Lib.hid ht
    cases hs : farB s
    · obtain ⟨s0, s1⟩ := farB_no hs
      have HS := Lib.hid hs
      by_cases n0 : t < 0
      · go_enter Tryd.func37, Tryd.ntmps37
        go_wp2_with (first | (go_at_call 52; refine (refFar _ _).mono ?_; rintro e w' ⟨rfl, rfl⟩))
        go_ret2
        exact ⟨ret_ints (by rw [(bd_neg HT.out HS.out n0).1]) (by rw [(bd_neg HT.out HS.out n0).2]), (by repeat (first | exact Below.refl _ _ | assumption | apply below_drewN | apply andAlloc))⟩
      · by_cases n1 : t = 0
        · have e1 : (t == 0) = true := by simpa using n1
          have N1 := Lib.hid n1
          clear n1
          go_enter Tryd.func37, Tryd.ntmps37
          go_wp2_with (first | (go_at_call 52; refine (refFar _ _).mono ?_; rintro e w' ⟨rfl, rfl⟩))
          go_ret2
          exact ⟨ret_ints (by rw [(bd_zero HT.out HS.out N1.out).1]) (by rw [(bd_zero HT.out HS.out N1.out).2]), (by repeat (first | exact Below.refl _ _ | assumption | apply below_drewN | apply andAlloc))⟩
        · have hp : 0 < t := by omega
          have e1 : (t == 0) = false := by simpa using n1
          clear n1
          by_cases n2 : s < 1
          · go_enter Tryd.func37, Tryd.ntmps37
            go_wp2_with (first | (go_at_call 52; refine (refFar _ _).mono ?_; rintro e w' ⟨rfl, rfl⟩))
            go_ret2
            exact ⟨ret_ints (by rw [(bd_none HT.out HS.out hp n2).1]) (by rw [(bd_none HT.out HS.out hp n2).2]), (by repeat (first | exact Below.refl _ _ | assumption | apply below_drewN | apply andAlloc))⟩
          · have hs1 : 1 ≤ s := by omega
            by_cases c1 : t ≤ 7230584
            · have v0 : 0 ≤ 297 * t / s := Int.ediv_nonneg (by omega) (by omega)
              have v1 : 297 * t / s ≤ 297 * t := Int.ediv_le_self _ (by omega)
              by_cases big : 1290 < 297 * t / s
              · go_enter Tryd.func37, Tryd.ntmps37
                go_wp2_with (first | (go_at_call 52; refine (refFar _ _).mono ?_; rintro e w' ⟨rfl, rfl⟩))
                go_ret2
                exact ⟨ret_ints (by rw [(bd_inf HT.out HS.out hp hs1 (show bdR t s = 297 * t / s by rw [bdR_a hp hs1 c1]) big).1]) (by rw [(bd_inf HT.out HS.out hp hs1 (show bdR t s = 297 * t / s by rw [bdR_a hp hs1 c1]) big).2]), (by repeat (first | exact Below.refl _ _ | assumption | apply below_drewN | apply andAlloc))⟩
              · obtain ⟨u0, u1, u2, u3⟩ := cube_bd (r := 297 * t / s) (by omega) (by omega)
                go_enter Tryd.func37, Tryd.ntmps37
                go_wp2_with (first | (go_at_call 52; refine (refFar _ _).mono ?_; rintro e w' ⟨rfl, rfl⟩))
                go_ret2
                exact ⟨ret_ints (by rw [(bd_fin HT.out HS.out hp hs1 (show bdR t s = 297 * t / s by rw [bdR_a hp hs1 c1]) (by omega)).1]) (by rw [(bd_fin HT.out HS.out hp hs1 (show bdR t s = 297 * t / s by rw [bdR_a hp hs1 c1]) (by omega)).2]), (by repeat (first | exact Below.refl _ _ | assumption | apply below_drewN | apply andAlloc))⟩
            · by_cases c2 : 1663497 ≤ s
              · have v0 : 0 ≤ t / (s / 297) := Int.ediv_nonneg (by omega) (by omega)
                have v1 : t / (s / 297) ≤ t := Int.ediv_le_self _ (by omega)
                have v2 : 1 ≤ s / 297 := by omega
                by_cases big : 1290 < t / (s / 297)
                · go_enter Tryd.func37, Tryd.ntmps37
                  go_wp2_with (first | (go_at_call 52; refine (refFar _ _).mono ?_; rintro e w' ⟨rfl, rfl⟩))
                  go_ret2
                  exact ⟨ret_ints (by rw [(bd_inf HT.out HS.out hp hs1 (bdR_b hp (by omega) c2) big).1]) (by rw [(bd_inf HT.out HS.out hp hs1 (bdR_b hp (by omega) c2) big).2]), (by repeat (first | exact Below.refl _ _ | assumption | apply below_drewN | apply andAlloc))⟩
                · obtain ⟨u0, u1, u2, u3⟩ := cube_bd (r := t / (s / 297)) (by omega) (by omega)
                  go_enter Tryd.func37, Tryd.ntmps37
                  go_wp2_with (first | (go_at_call 52; refine (refFar _ _).mono ?_; rintro e w' ⟨rfl, rfl⟩))
                  go_ret2
                  exact ⟨ret_ints (by rw [(bd_fin HT.out HS.out hp hs1 (bdR_b hp (by omega) c2) (by omega)).1]) (by rw [(bd_fin HT.out HS.out hp hs1 (bdR_b hp (by omega) c2) (by omega)).2]), (by repeat (first | exact Below.refl _ _ | assumption | apply below_drewN | apply andAlloc))⟩
              · have c3 : 1290 < t := by omega
                go_enter Tryd.func37, Tryd.ntmps37
                go_wp2_with (first | (go_at_call 52; refine (refFar _ _).mono ?_; rintro e w' ⟨rfl, rfl⟩))
                go_ret2
                exact ⟨ret_ints (by rw [(bd_inf HT.out HS.out hp hs1 (bdR_c (by omega) (by omega)) c3).1]) (by rw [(bd_inf HT.out HS.out hp hs1 (bdR_c (by omega) (by omega)) c3).2]), (by repeat (first | exact Below.refl _ _ | assumption | apply below_drewN | apply andAlloc))⟩
    · have HS := Lib.hid hs
      go_enter Tryd.func37, Tryd.ntmps37
      go_wp2_with (first | (go_at_call 52; refine (refFar _ _).mono ?_; rintro e w' ⟨rfl, rfl⟩))
      go_ret2
      exact ⟨ret_ints (by rw [(bd_far (.inr HS.out)).1]) (by rw [(bd_far (.inr HS.out)).2]), (by repeat (first | exact Below.refl _ _ | assumption | apply below_drewN | apply andAlloc))⟩
  · have HT := Lib.hid ht
    go_enter Tryd.func37, Tryd.ntmps37
    go_wp2_with (first | (go_at_call 52; refine (refFar _ _).mono ?_; rintro e w' ⟨rfl, rfl⟩))
    go_ret2
    exact ⟨ret_ints (by rw [(bd_far (.inl HT.out)).1]) (by rw [(bd_far (.inl HT.out)).2]), (by repeat (first | exact Below.refl _ _ | assumption | apply below_drewN | apply andAlloc))⟩
end Go.Proofs.YtpnlhphpmkfckaaDoor.Ss

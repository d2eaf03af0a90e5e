import Derived.Test.YtoboecenlangmaaGlueA0
import Derived.Test.YtoboecenlangmaaDivB
/- Contracts of glue.round and glue.Share. Conditions: those that each theorem names. -/
namespace Go.Proofs.Ytoboecenlangmaa.Gl
open Go.ChangeShapes Go.WideShapes Go.ChangeAt Go.RowKit

def RoundIs (p d : Int) (e : Ending) : Prop := if pOk p d = true then e = .returned (.tuple #[.int .i64 (pq p d), .bool true]) else ∃ v, e = .returned (.tuple #[.int .i64 v, .bool false])
theorem RoundIs.yes {p d a : Int} {b : Bool} (h : pOk p d = true) (ha : a = pq p d) (hb : b = true) : RoundIs p d (.returned (.tuple #[.int .i64 a, .bool b])) := by
  unfold RoundIs; rw [if_pos h, ha, hb]
theorem RoundIs.no {p d a : Int} {b : Bool} (h : pOk p d = false) (hb : b = false) : RoundIs p d (.returned (.tuple #[.int .i64 a, .bool b])) := by
  unfold RoundIs; rw [if_neg (by simp [h]), hb]; exact ⟨_, rfl⟩

/-- glue.round, wrap and all. -/
theorem round_any (N S D : Nat) (hN : N ≤ 70368744177664) (hS : S ≤ 70368744177664) (hD0 : 0 < D) (hD : D ≤ 70368744177664) (w : World) :
    Calls Try.prog 120 #[.int .i64 N, .int .i64 S, .int .i64 D] w fun e w' => RoundIs ((N : Int) * S) D e ∧ ∃ n, w' = w.drewN n := by
  obtain ⟨H, L, hHL, hL, hmul⟩ := Dv.mul_any N S (by omega) (by omega)
  have HM := Lib.hid hmul
  clear hmul
  have hHLi : (H : Int) * 18446744073709551616 + L = (N : Int) * S := by
    have h := congrArg (fun n : Nat => (n : Int)) hHL
    rw [← Int.natCast_mul, ← h]
    omega
  by_cases hDH : D ≤ H
  · have hfar : pOk ((N : Int) * S) D = false := by
      refine pOk_far (Int.le_ediv_of_mul_le (by omega) ?_)
      rw [W64_eq]
      omega
    have HF := Lib.hid hfar
    have HH := Lib.hid hHL
    clear hHL hHLi hfar
    go_enter Try.func120, Try.ntmps120
    go_wp2_with (go_at_call 123; refine (HM.out _).mono ?_; rintro e w' ⟨rfl, rfl⟩)
    go_ret2
    exact ⟨.no HF.out rfl, 0, rfl⟩
  · obtain ⟨Q, R, hQ, hR, hdiv⟩ := Dv.div_any H L D hL (by omega) (by omega)
    rw [hHL] at hQ hR
    have hQi : (N : Int) * S / D = Q := by rw [← hQ]; push_cast; rfl
    have hRi : (N : Int) * S % D = R := by rw [← hR]; push_cast; rfl
    have hRD : R < D := by rw [← hR]; exact Nat.mod_lt _ hD0
    have hQu : (Q : Int) < 18446744073709551616 := by
      rw [← hQi]
      exact Int.ediv_lt_of_lt_mul (by omega) (by omega)
    have hP := pOk_near (p := (N : Int) * S) (d := D) (by rw [hQi, W64_eq]; exact hQu)
    have HD := Lib.hid hdiv
    have HH := Lib.hid hHL
    have hQu' : (Q : Int) ≤ 18446744073709551615 := by omega
    have hL' : L ≤ 18446744073709551615 := by omega
    clear hdiv hHL hHLi hQ hR hQu hL
    by_cases hup : D - R ≤ R
    · have hr := pq_up (p := (N : Int) * S) (d := D) (by rw [hRi]; omega)
      rw [W64_eq] at hr
      have e1 : IntKind.u64.wrap ((Q : Int) + 1) = ((Q : Int) + 1) % 18446744073709551616 := Dv.u64_wrap _
      rw [hQi] at hr
      have v0 := Int.emod_nonneg ((Q : Int) + 1) (show (18446744073709551616 : Int) ≠ 0 by omega)
      have v1 : ((Q : Int) + 1) % 18446744073709551616 ≤ 18446744073709551615 := by omega
      rw [hr] at hP
      generalize ((Q : Int) + 1) % 18446744073709551616 = V at *
      have HR' := Lib.hid hr
      have HP' := Lib.hid hP
      clear hr hP hQi hRi
      by_cases hfit : V ≤ 70368744177664
      · go_enter Try.func120, Try.ntmps120
        go_wp2_with (first | (go_at_call 123; refine (HM.out _).mono ?_; rintro e w' ⟨rfl, rfl⟩) | (go_at_call 124; refine (HD.out _).mono ?_; rintro e w' ⟨rfl, n, rfl⟩))
        go_ret2
        exact ⟨.yes (by rw [HP'.out]; exact decide_eq_true hfit) (by rw [HR'.out]) rfl, _, rfl⟩
      · go_enter Try.func120, Try.ntmps120
        go_wp2_with (first | (go_at_call 123; refine (HM.out _).mono ?_; rintro e w' ⟨rfl, rfl⟩) | (go_at_call 124; refine (HD.out _).mono ?_; rintro e w' ⟨rfl, n, rfl⟩))
        go_ret2
        exact ⟨.no (by rw [HP'.out]; exact decide_eq_false (by omega)) (decide_eq_false (by omega)), _, rfl⟩
    · have hr := pq_down (p := (N : Int) * S) (d := D) (by rw [hRi]; omega)
      rw [hQi] at hr
      rw [hr] at hP
      have HR' := Lib.hid hr
      have HP' := Lib.hid hP
      clear hr hP hQi hRi
      by_cases hfit : (Q : Int) ≤ 70368744177664
      · go_enter Try.func120, Try.ntmps120
        go_wp2_with (first | (go_at_call 123; refine (HM.out _).mono ?_; rintro e w' ⟨rfl, rfl⟩) | (go_at_call 124; refine (HD.out _).mono ?_; rintro e w' ⟨rfl, n, rfl⟩))
        go_ret2
        exact ⟨.yes (by rw [HP'.out]; exact decide_eq_true hfit) (by rw [HR'.out]) rfl, _, rfl⟩
      · go_enter Try.func120, Try.ntmps120
        go_wp2_with (first | (go_at_call 123; refine (HM.out _).mono ?_; rintro e w' ⟨rfl, rfl⟩) | (go_at_call 124; refine (HD.out _).mono ?_; rintro e w' ⟨rfl, n, rfl⟩))
        go_ret2
        exact ⟨.no (by rw [HP'.out]; exact decide_eq_false (by omega)) (decide_eq_false (by omega)), _, rfl⟩
theorem share_range (s n d : Int) (w : World) (hok : shOk s n d = false) :
    Calls Try.prog 83 #[.int .i64 s, .int .i64 n, .int .i64 d] w fun e w' => e = .returned (.tuple #[.int .i64 0, .int .i64 11]) ∧ w = w' := by
  by_cases hd : d < 1
  · go_enter Try.func83, Try.ntmps83
    go_wp2_with (first | (go_at_call 81; refine (near_any _ _).mono ?_; rintro e w' ⟨rfl, rfl⟩))
    go_ret2
    exact ⟨rfl, rfl⟩
  · cases hs : nearB s
    · go_enter Try.func83, Try.ntmps83
      go_wp2_with (first | (go_at_call 81; refine (near_any _ _).mono ?_; rintro e w' ⟨rfl, rfl⟩))
      go_ret2
      exact ⟨rfl, rfl⟩
    · cases hn : nearB n
      · go_enter Try.func83, Try.ntmps83
        go_wp2_with (first | (go_at_call 81; refine (near_any _ _).mono ?_; rintro e w' ⟨rfl, rfl⟩))
        go_ret2
        exact ⟨rfl, rfl⟩
      · have hd' : nearB d = false := by
          cases hx : nearB d
          · rfl
          · rw [show shOk s n d = true by simp [shOk, hs, hn, hx]; omega] at hok; cases hok
        go_enter Try.func83, Try.ntmps83
        go_wp2_with (first | (go_at_call 81; refine (near_any _ _).mono ?_; rintro e w' ⟨rfl, rfl⟩))
        go_ret2
        exact ⟨rfl, rfl⟩

/-- What Share hands back, past its tests. -/
def ShareIs (s n d : Int) (e : Ending) : Prop := e = .returned (.tuple #[.int .i64 (psV s n d), .int .i64 (psE s n d)])
theorem ShareIs.far {s n d a b : Int} (hok : shOk s n d = true) (h : pOk (mag n * mag s) d = false) (ha : a = 0) (hb : b = 20) : ShareIs s n d (.returned (.tuple #[.int .i64 a, .int .i64 b])) := by
  have h1 := psE_far hok h
  have h2 : psV s n d = 0 := psV_err (by omega)
  unfold ShareIs; rw [h1, h2, ha, hb]
theorem ShareIs.ok {s n d a b : Int} (hok : shOk s n d = true) (h : pOk (mag n * mag s) d = true) (ha : a = sgn s n * pq (mag n * mag s) d) (hb : b = 0) : ShareIs s n d (.returned (.tuple #[.int .i64 a, .int .i64 b])) := by
  have h1 := psE_ok hok h
  have h2 := psV_ok h1
  unfold ShareIs; rw [h1, h2, ha, hb]

theorem pOk_bd {p d : Int} (h : pOk p d = true) (hp : 0 ≤ p) (hd : 1 ≤ d) : 0 ≤ pq p d ∧ pq p d ≤ 70368744177664 := by
  unfold pOk at h
  simp only [Bool.and_eq_true, decide_eq_true_eq] at h
  refine ⟨?_, h.2⟩
  have h0 : 0 ≤ p / d := Int.ediv_nonneg hp (by omega)
  unfold pq
  split
  · exact Int.emod_nonneg _ (by rw [W64_eq]; omega)
  · exact h0

theorem share_in (s n d : Int) (w : World) (hok : shOk s n d = true) :
    Calls Try.prog 83 #[.int .i64 s, .int .i64 n, .int .i64 d] w fun e w' => ShareIs s n d e ∧ ∃ k, w' = w.drewN k := by
  obtain ⟨h1, ⟨s0, s1⟩, ⟨n0, n1⟩, d0, d1⟩ := shOk_iff.1 hok
  have hs := nearB_yes s0 s1
  have hn := nearB_yes n0 n1
  have hd := nearB_yes d0 d1
  have hdd : decide (d < 1) = false := decide_eq_false (by omega)
  obtain ⟨N, hN, hN', hN1⟩ := mag_cast n0 n1
  obtain ⟨S, hS, hS', hS1⟩ := mag_cast s0 s1
  obtain ⟨D, rfl⟩ := Int.eq_ofNat_of_zero_le (show 0 ≤ d by omega)
  have hround := fun w => round_any N S D (by omega) (by omega) (by omega) (by omega) w
  have far := fun a b h => ShareIs.far (a := a) (b := b) hok h
  have fin := fun a b h => ShareIs.ok (a := a) (b := b) hok h
  have hbd := fun h => pOk_bd (p := mag n * mag s) (d := D) h (Int.mul_nonneg (mag_nonneg n) (mag_nonneg s)) (by omega)
  rw [hN, hS] at far fin hbd
  have HR := Lib.hid hround
  have FAR := Lib.hid far
  have FIN := Lib.hid fin
  have HBD := Lib.hid hbd
  clear hround far fin hok hN hS hbd
  cases hp : pOk ((N : Int) * S) D
  · have HP := Lib.hid hp
    clear hp
    go_enter Try.func83, Try.ntmps83
    go_wp2_with (first | (go_at_call 81; refine (near_any _ _).mono ?_; rintro e w' ⟨rfl, rfl⟩))
    refine (HR.out _).mono ?_
    rintro e w' ⟨hr, k, rfl⟩
    unfold RoundIs at hr
    rw [if_neg (by rw [HP.out]; simp)] at hr
    obtain ⟨v, rfl⟩ := hr
    go_wp2_with fail
    go_ret2
    exact ⟨FAR.out _ _ HP.out rfl rfl, _, rfl⟩
  · obtain ⟨v0, v1⟩ := HBD.out hp
    have HP := Lib.hid hp
    clear hp
    have hsg1 := sgn_mul (s := s) (n := n) (q := pq ((N : Int) * S) D)
    have HSG := Lib.hid hsg1
    clear hsg1
    by_cases hs0 : s < 0
    · have hs0' : decide (s < 0) = true := decide_eq_true hs0
      by_cases hn0 : n < 0
      · have hn0' : decide (n < 0) = true := decide_eq_true hn0
        go_enter Try.func83, Try.ntmps83
        go_wp2_with (first | (go_at_call 81; refine (near_any _ _).mono ?_; rintro e w' ⟨rfl, rfl⟩))
        refine (HR.out _).mono ?_
        rintro e w' ⟨hr, k, rfl⟩
        unfold RoundIs at hr
        rw [if_pos HP.out] at hr
        subst hr
        go_wp2_with fail
        go_ret2
        exact ⟨FIN.out _ _ HP.out (by rw [← HSG.out]; simp [hs0, hn0]) rfl, _, rfl⟩
      · have hn0' : decide (n < 0) = false := decide_eq_false hn0
        go_enter Try.func83, Try.ntmps83
        go_wp2_with (first | (go_at_call 81; refine (near_any _ _).mono ?_; rintro e w' ⟨rfl, rfl⟩))
        refine (HR.out _).mono ?_
        rintro e w' ⟨hr, k, rfl⟩
        unfold RoundIs at hr
        rw [if_pos HP.out] at hr
        subst hr
        go_wp2_with fail
        go_ret2
        exact ⟨FIN.out _ _ HP.out (by rw [← HSG.out]; simp [hs0, Int.not_lt.2 hn0]) rfl, _, rfl⟩
    · have hs0' : decide (s < 0) = false := decide_eq_false hs0
      by_cases hn0 : n < 0
      · have hn0' : decide (n < 0) = true := decide_eq_true hn0
        go_enter Try.func83, Try.ntmps83
        go_wp2_with (first | (go_at_call 81; refine (near_any _ _).mono ?_; rintro e w' ⟨rfl, rfl⟩))
        refine (HR.out _).mono ?_
        rintro e w' ⟨hr, k, rfl⟩
        unfold RoundIs at hr
        rw [if_pos HP.out] at hr
        subst hr
        go_wp2_with fail
        go_ret2
        exact ⟨FIN.out _ _ HP.out (by rw [← HSG.out]; simp [Int.not_lt.2 hs0, hn0]) rfl, _, rfl⟩
      · have hn0' : decide (n < 0) = false := decide_eq_false hn0
        go_enter Try.func83, Try.ntmps83
        go_wp2_with (first | (go_at_call 81; refine (near_any _ _).mono ?_; rintro e w' ⟨rfl, rfl⟩))
        refine (HR.out _).mono ?_
        rintro e w' ⟨hr, k, rfl⟩
        unfold RoundIs at hr
        rw [if_pos HP.out] at hr
        subst hr
        go_wp2_with fail
        go_ret2
        exact ⟨FIN.out _ _ HP.out (by rw [← HSG.out]; simp [Int.not_lt.2 hs0, Int.not_lt.2 hn0]) rfl, _, rfl⟩

/-- glue.Share: what it answers, wrap and all. -/
theorem share_any (s n d : Int) (w : World) :
    Calls Try.prog 83 #[.int .i64 s, .int .i64 n, .int .i64 d] w fun e w' => e = .returned (.tuple #[.int .i64 (psV s n d), .int .i64 (psE s n d)]) ∧ ∃ k, w' = w.drewN k := by
  cases h : shOk s n d
  · refine (share_range s n d w h).mono ?_
    rintro e w' ⟨rfl, rfl⟩
    have h1 := psE_range h
    exact ⟨by rw [h1, psV_err (by omega)], 0, rfl⟩
  · exact share_in s n d w h
end Go.Proofs.Ytoboecenlangmaa.Gl

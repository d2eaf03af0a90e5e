import Derived.Test.YtpnlhphpmkfckaaDoorSc
/- Badness, in plain Lean: it grows with t, falls with s, within its bounds. Conditions: those that each theorem names. -/
namespace Go.Proofs.YtpnlhphpmkfckaaDoor.Sc
set_option linter.unusedVariables false

/-- Out of the quotient. -/
def bdG (r : Int) : Int := if 1290 < r then 10000 else (r * r * r + 131072) / 262144
theorem cube_mono {a b : Int} (h0 : 0 ≤ a) (h : a ≤ b) : a * a * a ≤ b * b * b := by
  have h1 : a * a ≤ b * b := Int.mul_le_mul h h h0 (by omega)
  exact Int.mul_le_mul h1 h h0 (Int.mul_nonneg (by omega) (by omega))
theorem bdG_bd {r : Int} (h : 0 ≤ r) : 0 ≤ bdG r ∧ bdG r ≤ 10000 := by
  unfold bdG
  split
  · omega
  · have h1 := cube_mono h (show r ≤ 1290 by omega)
    have h2 := cube_mono (show (0 : Int) ≤ 0 by omega) h
    omega
theorem bdG_mono {a b : Int} (h0 : 0 ≤ a) (h : a ≤ b) : bdG a ≤ bdG b := by
  by_cases hb : 1290 < b
  · have e : bdG b = 10000 := by unfold bdG; rw [if_pos hb]
    rw [e]
    exact (bdG_bd h0).2
  · have h1 := cube_mono h0 h
    unfold bdG
    rw [if_neg hb, if_neg (by omega)]
    omega
theorem bdG_small {r : Int} (h : 0 ≤ r) (h1 : r ≤ 50) : bdG r = 0 := by
  have h2 := cube_mono h h1
  have h3 := cube_mono (show (0 : Int) ≤ 0 by omega) h
  unfold bdG
  rw [if_neg (by omega)]
  omega
theorem bdG_some {r : Int} (h1 : 50 < r) : 1 ≤ bdG r := by
  have h := bdG_mono (show (0 : Int) ≤ 51 by omega) (show 51 ≤ r by omega)
  have e : bdG 51 = 1 := by decide
  omega
theorem bdV_g {t s : Int} (ht : 0 < t) (ht1 : t ≤ 1073741823) (hs : 1 ≤ s) (hs1 : s ≤ 1073741823) : bdV t s = bdG (bdR t s) := by
  unfold bdV bdG
  rw [if_neg (by simp [farB_in (x := t) (by omega) (by omega), farB_in (x := s) (by omega) (by omega)]), if_neg (by omega), if_neg (by omega), if_neg (by omega)]
theorem bdV_zero {s : Int} (h0 : -1073741823 ≤ s) (h1 : s ≤ 1073741823) : bdV 0 s = 0 := by
  unfold bdV
  simp [farB_in (x := s) (by omega) (by omega), farB_in (x := 0) (by omega) (by omega)]
theorem bdV_none {t s : Int} (ht : 0 < t) (ht1 : t ≤ 1073741823) (h0 : -1073741823 ≤ s) (hs : s < 1) : bdV t s = 10000 := by
  unfold bdV
  rw [if_neg (by simp [farB_in (x := t) (by omega) (by omega), farB_in (x := s) (by omega) (by omega)]), if_neg (by omega), if_neg (by omega), if_pos hs]
theorem bdE_ok {t s : Int} (ht : 0 ≤ t) (ht1 : t ≤ 1073741823) (h0 : -1073741823 ≤ s) (hs : s ≤ 1073741823) : bdE t s = 0 := by
  unfold bdE
  rw [if_neg (by simp [farB_in (x := t) (by omega) (by omega), farB_in (x := s) (by omega) (by omega)]), if_neg (by omega)]
theorem rA {t s : Int} (h : 0 < t) (h2 : t ≤ 7230584) : bdR t s = 297 * t / s := by
  unfold bdR
  rw [if_pos h2, Int.tdiv_eq_ediv_of_nonneg (by omega)]
theorem rB {t s : Int} (h2 : 7230584 < t) (h3 : 1663497 ≤ s) : bdR t s = t / (s / 297) := by
  unfold bdR
  rw [if_neg (by omega), if_pos h3, Int.tdiv_eq_ediv_of_nonneg (by omega), Int.tdiv_eq_ediv_of_nonneg (by omega)]
theorem rC {t s : Int} (h2 : 7230584 < t) (h3 : s < 1663497) : bdR t s = t := by
  unfold bdR
  rw [if_neg (by omega), if_neg (by omega)]
theorem div_le_of {a b c : Int} (hb : 0 < b) (h : a < (c + 1) * b) : a / b ≤ c := by
  have := Int.ediv_lt_of_lt_mul hb h
  omega
theorem bdR_0 {t s : Int} (ht : 0 < t) (hs : 1 ≤ s) : 0 ≤ bdR t s := bdR_nonneg ht hs
theorem bdG_top {r : Int} (h : 1290 < r) : bdG r = 10000 := by unfold bdG; rw [if_pos h]
theorem ediv_anti {a b c : Int} (ha : 0 ≤ a) (hb : 0 < b) (h : b ≤ c) : a / c ≤ a / b := by
  refine (Int.le_ediv_iff_mul_le hb).2 ?_
  have h1 : a / c * b ≤ a / c * c := Int.mul_le_mul_of_nonneg_left h (Int.ediv_nonneg ha (by omega))
  have h2 := Int.ediv_mul_le a (show c ≠ 0 by omega)
  omega
/-- It grows with t. -/
theorem bdG_t {t u s : Int} (ht : 0 < t) (h : t ≤ u) (hs : 1 ≤ s) : bdG (bdR t s) ≤ bdG (bdR u s) := by
  by_cases hu : u ≤ 7230584
  · refine bdG_mono (bdR_0 ht hs) ?_
    rw [rA ht (by omega), rA (by omega) hu]
    exact Int.ediv_le_ediv (by omega) (by omega)
  · by_cases hs3 : 1663497 ≤ s
    · refine bdG_mono (bdR_0 ht hs) ?_
      by_cases h7 : t ≤ 7230584
      · rw [rA ht h7, rB (by omega) hs3]
        have hq : 0 < s / 297 := by omega
        refine (Int.le_ediv_iff_mul_le hq).2 ?_
        have h1 : 297 * t / s * (297 * (s / 297)) ≤ 297 * t / s * s := Int.mul_le_mul_of_nonneg_left (by omega) (Int.ediv_nonneg (by omega) (by omega))
        have h2 := Int.ediv_mul_le (297 * t) (show s ≠ 0 by omega)
        have h3 : 297 * t / s * (297 * (s / 297)) = 297 * (297 * t / s * (s / 297)) := by
          rw [← Int.mul_assoc, Int.mul_comm (297 * t / s) 297, Int.mul_assoc]
        omega
      · rw [rB (by omega) hs3, rB (by omega) hs3]
        exact Int.ediv_le_ediv (by omega) h
    · rw [rC (t := u) (by omega) (by omega), bdG_top (r := u) (by omega)]
      exact (bdG_bd (bdR_0 ht hs)).2
/-- It falls with s. -/
theorem bdG_s {t s r : Int} (ht : 0 < t) (hs : 1 ≤ s) (h : s ≤ r) : bdG (bdR t r) ≤ bdG (bdR t s) := by
  by_cases h7 : t ≤ 7230584
  · refine bdG_mono (bdR_0 ht (by omega)) ?_
    rw [rA ht h7, rA ht h7]
    exact ediv_anti (by omega) (by omega) h
  · by_cases hs3 : 1663497 ≤ s
    · refine bdG_mono (bdR_0 ht (by omega)) ?_
      rw [rB (by omega) hs3, rB (by omega) (by omega)]
      exact ediv_anti (by omega) (by omega) (by omega)
    · rw [rC (t := t) (s := s) (by omega) (by omega), bdG_top (r := t) (by omega)]
      exact (bdG_bd (bdR_0 ht (by omega))).2
theorem bd_same {t : Int} (ht : 0 < t) (ht1 : t ≤ 1073741823) : bdV t t = 100 := by
  rw [bdV_g ht ht1 (by omega) ht1]
  have e : bdR t t = 297 := by
    by_cases h7 : t ≤ 7230584
    · rw [rA ht h7]
      exact Int.mul_ediv_cancel _ (by omega)
    · rw [rB (by omega) (by omega)]
      obtain ⟨q, hq⟩ : ∃ q, q = t / 297 := ⟨_, rfl⟩
      rw [← hq]
      have h1 : 297 * q ≤ t := by omega
      have h2 : t < 297 * q + 297 := by omega
      have h3 : 24345 ≤ q := by omega
      have a : 297 ≤ t / q := (Int.le_ediv_iff_mul_le (by omega)).2 (by omega)
      have b : t / q < 298 := Int.ediv_lt_of_lt_mul (by omega) (by omega)
      omega
  rw [e]
  decide
structure BdOk (T S M b c d e : Int) : Prop where
  b0 : 0 ≤ b
  b1 : b ≤ 10000
  bc : b ≤ c
  db : d ≤ b
  pos : 0 < T → e = 100
  zero : T = 0 → b = 0 ∧ e = 0
  none : 0 < T → S < 1 → b = 10000
  small : 0 < T → 1 ≤ S → T ≤ 7230584 → 297 * T / S ≤ 50 → b = 0
  some : 0 < T → 1 ≤ S → T ≤ 7230584 → 50 < 297 * T / S → 1 ≤ b
  top : 0 < T → 1 ≤ S → T ≤ 7230584 → 1290 < 297 * T / S → b = 10000
theorem bd_ok {T S M : Int} (t0 : 0 ≤ T) (t1 : T ≤ 1073741823) (s0 : -1073741823 ≤ S) (s1 : S ≤ 1073741823) (m0 : 0 ≤ M) (m1 : M ≤ 1073741823) :
    BdOk T S M (bdV T S) (bdV (min (T + M) 1073741823) S) (bdV T (min (S + M) 1073741823)) (bdV T T) := by
  by_cases hT : T = 0
  · subst hT
    have e1 := bdV_zero s0 s1
    have e2 := bdV_zero (s := min (S + M) 1073741823) (by omega) (by omega)
    have e3 := bdV_zero (s := 0) (by omega) (by omega)
    rw [e1, e2, e3]
    refine ⟨by omega, by omega, ?_, by omega, by omega, fun _ => ⟨rfl, rfl⟩, by omega, by omega, by omega, by omega⟩
    by_cases hM : M = 0
    · subst hM
      rw [show min (0 + 0) 1073741823 = (0 : Int) from rfl, e1]
      omega
    · by_cases hS : S < 1
      · rw [bdV_none (by omega) (by omega) s0 hS]
        omega
      · rw [bdV_g (by omega) (by omega) (by omega) s1]
        exact (bdG_bd (bdR_0 (by omega) (by omega))).1
  · have hT0 : 0 < T := by omega
    by_cases hS : S < 1
    · have e1 := bdV_none hT0 t1 s0 hS
      have e2 := bdV_none (t := min (T + M) 1073741823) (by omega) (by omega) s0 hS
      rw [e1, e2]
      refine ⟨by omega, by omega, by omega, ?_, fun _ => bd_same hT0 t1, by omega, fun _ _ => rfl, by omega, by omega, by omega⟩
      by_cases hSM : min (S + M) 1073741823 < 1
      · rw [bdV_none hT0 t1 (by omega) hSM]
        omega
      · rw [bdV_g hT0 t1 (by omega) (by omega)]
        exact (bdG_bd (bdR_0 (by omega) (by omega))).2
    · have hS1 : 1 ≤ S := by omega
      rw [bdV_g hT0 t1 hS1 s1, bdV_g (t := min (T + M) 1073741823) (by omega) (by omega) hS1 s1, bdV_g (s := min (S + M) 1073741823) hT0 t1 (by omega) (by omega)]
      have hb := bdG_bd (bdR_0 hT0 hS1)
      refine ⟨hb.1, hb.2, bdG_t hT0 (by omega) hS1, bdG_s hT0 hS1 (by omega), fun _ => bd_same hT0 t1, fun e => absurd e hT, fun _ h => by omega, ?_, ?_, ?_⟩
      · intro _ _ h7 h
        rw [rA hT0 h7]
        exact bdG_small (Int.ediv_nonneg (by omega) (by omega)) h
      · intro _ _ h7 h
        rw [rA hT0 h7]
        exact bdG_some h
      · intro _ _ h7 h
        rw [rA hT0 h7]
        exact bdG_top h
end Go.Proofs.YtpnlhphpmkfckaaDoor.Sc

import Derived.Test.YtpnlhphpmkfckaaDoorSc
/- Quotients, rests and parts, in plain Lean. Conditions: those that each theorem names. -/
namespace Go.Proofs.YtpnlhphpmkfckaaDoor.Sc
set_option linter.unusedVariables false

theorem least_of {x d : Int} (hd : 1 ≤ d) : x.tdiv d * d + x.tmod d = x ∧ (x < 0 → x.tmod d ≤ 0 ∧ -(x.tmod d) < d) ∧ (0 ≤ x → 0 ≤ x.tmod d ∧ x.tmod d < d) := by
  have h1 : x.tdiv d * d + x.tmod d = x := by
    have := Int.mul_tdiv_add_tmod x d
    rw [Int.mul_comm]
    exact this
  have h2 := Int.tmod_lt_of_pos x (show 0 < d by omega)
  have h3 := Int.lt_tmod_of_pos x (show 0 < d by omega)
  refine ⟨h1, fun hx => ?_, fun hx => ⟨Int.tmod_nonneg d hx, h2⟩⟩
  have h4 : (-x).tmod d = -(x.tmod d) := Int.neg_tmod x d
  have h5 := Int.tmod_nonneg (a := -x) d (by omega)
  omega
theorem rnd_bd {p d : Nat} (hd : 0 < d) : 2 * p ≤ 2 * (rnd p d * d) + d ∧ 2 * (rnd p d * d) ≤ 2 * p + d := by
  have h1 := Nat.div_add_mod p d
  have h2 := Nat.mod_lt p hd
  unfold rnd
  rw [Nat.mul_comm d] at h1
  generalize p % d = r at *
  generalize p / d = q at *
  split
  · rw [Nat.add_mul, Nat.one_mul]
    omega
  · omega
theorem rnd_whole {X d : Nat} (hd : 0 < d) : rnd (X * d) d = X := by
  unfold rnd
  rw [Nat.mul_mod_left, if_neg (by omega), Nat.mul_div_cancel _ hd]
theorem rnd_zero {d : Nat} (hd : 0 < d) : rnd 0 d = 0 := by
  unfold rnd
  rw [Nat.zero_mod, if_neg (by omega), Nat.zero_div]
theorem rnd_le {X m d : Nat} (hm : m ≤ d) (hd : 0 < d) : rnd (X * m) d ≤ X := by
  have h := rnd_bd (p := X * m) hd
  have h1 : X * m ≤ X * d := Nat.mul_le_mul_left _ hm
  rcases Nat.lt_or_ge X (rnd (X * m) d) with hlt | hge
  · have h2 : (X + 1) * d ≤ rnd (X * m) d * d := Nat.mul_le_mul_right _ hlt
    rw [Nat.add_mul, Nat.one_mul] at h2
    have h3 : X * m = X * d ∨ X * m < X * d := by omega
    rcases h3 with h3 | h3
    · rw [h3, rnd_whole hd] at hlt
      omega
    · omega
  · exact hge
theorem pa_pos {X S D : Nat} (hx : (X : Int) ≤ 1073741823) (h : S ≤ D) (h1 : 1 ≤ D) (h2 : D ≤ 2147483647) : paV X S D = ((rnd (X * S) D : Nat) : Int) ∧ paE X S D = 0 := by
  have a := farB_in (x := (X : Int)) (by omega) (by omega)
  have b : paOk S D = true := decide_eq_true ⟨by omega, by omega, by omega, by omega⟩
  unfold paV paE
  constructor
  · rw [if_neg (by simp [a]), if_neg (by simp [b]), if_neg (by omega)]
    simp
  · rw [if_neg (by simp [a]), if_neg (by simp [b])]
theorem pa_neg {X S D : Nat} (hx : (X : Int) ≤ 1073741823) (h : S ≤ D) (h1 : 1 ≤ D) (h2 : D ≤ 2147483647) : paV (-(X : Int)) S D = -((rnd (X * S) D : Nat) : Int) ∧ paE (-(X : Int)) S D = 0 := by
  have a := farB_in (x := -(X : Int)) (by omega) (by omega)
  have b : paOk S D = true := decide_eq_true ⟨by omega, by omega, by omega, by omega⟩
  unfold paV paE
  constructor
  · rw [if_neg (by simp [a]), if_neg (by simp [b])]
    by_cases h0 : -(X : Int) < 0
    · rw [if_pos h0]
      simp
    · obtain rfl : X = 0 := by omega
      rw [if_neg h0]
      simp [rnd_zero h1]
  · rw [if_neg (by simp [a]), if_neg (by simp [b])]
structure ExOk (x m d a b : Int) : Prop where
  a0 : -1073741823 ≤ a
  a1 : a ≤ 1073741823
  b0 : -1073741823 ≤ b
  b1 : b ≤ 1073741823
  off0 : -1 ≤ a + b - x
  off1 : a + b - x ≤ 1
  n0 : 2 * (x * m - a * d) ≤ d
  n1 : 2 * (a * d - x * m) ≤ d
theorem ex_ok {x m d : Int} (x0 : -1073741823 ≤ x) (x1 : x ≤ 1073741823) (m0 : 0 ≤ m) (m1 : m ≤ d) (d1 : 1 ≤ d) (d2 : d ≤ 2147483647) :
    ExOk x m d (paV x m d) (paV x (d - m) d) ∧ paE x m d = 0 ∧ paE x (d - m) d = 0 ∧ (paV x d d = x ∧ paE x d d = 0) ∧ (paV x 0 d = 0 ∧ paE x 0 d = 0) ∧ (paV (-x) m d = -(paV x m d) ∧ paE (-x) m d = 0) := by
  obtain ⟨S, rfl⟩ : ∃ S : Nat, m = S := ⟨m.toNat, by omega⟩
  obtain ⟨D, rfl⟩ : ∃ D : Nat, d = D := ⟨d.toNat, by omega⟩
  obtain ⟨T, hT⟩ : ∃ T : Nat, T = D - S := ⟨_, rfl⟩
  have hTi : (D : Int) - S = T := by omega
  rw [hTi]
  have hD : 0 < D := by omega
  have key : ∀ X : Nat, X ≤ 1073741823 → 2 * (X * S) ≤ 2 * (rnd (X * S) D * D) + D ∧ 2 * (rnd (X * S) D * D) ≤ 2 * (X * S) + D ∧ rnd (X * S) D ≤ X ∧ rnd (X * T) D ≤ X ∧ X ≤ rnd (X * S) D + rnd (X * T) D + 1 ∧ rnd (X * S) D + rnd (X * T) D ≤ X + 1 := by
    intro X hX
    have h1 := rnd_bd (p := X * S) hD
    have h2 := rnd_bd (p := X * T) hD
    have h3 : X * S + X * T = X * D := by rw [← Nat.mul_add]; congr 1; omega
    refine ⟨h1.1, h1.2, rnd_le (by omega) hD, rnd_le (by omega) hD, ?_, ?_⟩
    · rcases Nat.lt_or_ge (rnd (X * S) D + rnd (X * T) D + 1) X with hlt | hge
      · have h4 : (rnd (X * S) D + rnd (X * T) D + 1 + 1) * D ≤ X * D := Nat.mul_le_mul_right _ hlt
        simp only [Nat.add_mul, Nat.one_mul] at h4
        omega
      · exact hge
    · rcases Nat.lt_or_ge (X + 1) (rnd (X * S) D + rnd (X * T) D) with hlt | hge
      · have h4 : (X + 1 + 1) * D ≤ (rnd (X * S) D + rnd (X * T) D) * D := Nat.mul_le_mul_right _ hlt
        simp only [Nat.add_mul, Nat.one_mul] at h4
        omega
      · exact hge
  by_cases hs : 0 ≤ x
  · obtain ⟨X, rfl⟩ : ∃ X : Nat, x = X := ⟨x.toNat, by omega⟩
    obtain ⟨k1, k2, k3, k4, k5, k6⟩ := key X (by omega)
    have p1 := pa_pos (X := X) (S := S) (D := D) x1 (by omega) (by omega) (by omega)
    have p2 := pa_pos (X := X) (S := T) (D := D) x1 (by omega) (by omega) (by omega)
    have p3 := pa_pos (X := X) (S := D) (D := D) x1 (by omega) (by omega) (by omega)
    have p4 := pa_pos (X := X) (S := 0) (D := D) x1 (by omega) (by omega) (by omega)
    have p5 := pa_neg (X := X) (S := S) (D := D) x1 (by omega) (by omega) (by omega)
    rw [rnd_whole hD] at p3
    rw [Nat.mul_zero, rnd_zero hD] at p4
    refine ⟨?_, p1.2, p2.2, p3, p4, ?_, p5.2⟩
    · rw [p1.1, p2.1]
      have e1 : ((rnd (X * S) D * D : Nat) : Int) = (rnd (X * S) D : Int) * D := Int.natCast_mul _ _
      have e2 : ((X * S : Nat) : Int) = (X : Int) * S := Int.natCast_mul _ _
      generalize rnd (X * S) D * D = P at *
      generalize X * S = R at *
      exact ⟨by omega, by omega, by omega, by omega, by omega, by omega, by rw [← e1, ← e2]; omega, by rw [← e1, ← e2]; omega⟩
    · rw [p5.1, p1.1]
  · obtain ⟨X, rfl⟩ : ∃ X : Nat, x = -(X : Int) := ⟨x.natAbs, by omega⟩
    obtain ⟨k1, k2, k3, k4, k5, k6⟩ := key X (by omega)
    have x2 : (X : Int) ≤ 1073741823 := by omega
    have p1 := pa_neg (X := X) (S := S) (D := D) x2 (by omega) (by omega) (by omega)
    have p2 := pa_neg (X := X) (S := T) (D := D) x2 (by omega) (by omega) (by omega)
    have p3 := pa_neg (X := X) (S := D) (D := D) x2 (by omega) (by omega) (by omega)
    have p4 := pa_neg (X := X) (S := 0) (D := D) x2 (by omega) (by omega) (by omega)
    have p5 := pa_pos (X := X) (S := S) (D := D) x2 (by omega) (by omega) (by omega)
    rw [rnd_whole hD] at p3
    rw [Nat.mul_zero, rnd_zero hD] at p4
    refine ⟨?_, p1.2, p2.2, p3, p4, ?_, by rw [Int.neg_neg]; exact p5.2⟩
    · rw [p1.1, p2.1]
      have e1 : ((rnd (X * S) D * D : Nat) : Int) = (rnd (X * S) D : Int) * D := Int.natCast_mul _ _
      have e2 : ((X * S : Nat) : Int) = (X : Int) * S := Int.natCast_mul _ _
      generalize rnd (X * S) D * D = P at *
      generalize X * S = R at *
      exact ⟨by omega, by omega, by omega, by omega, by omega, by omega, by rw [Int.neg_mul, Int.neg_mul, ← e1, ← e2]; omega, by rw [Int.neg_mul, Int.neg_mul, ← e1, ← e2]; omega⟩
    · rw [Int.neg_neg, p5.1, p1.1, Int.neg_neg]
end Go.Proofs.YtpnlhphpmkfckaaDoor.Sc

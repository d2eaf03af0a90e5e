/- What the functions of the layer glue compute, in plain Lean: shares, fits. No Go in sight. Conditions: those that each theorem names. -/
namespace Go.Proofs.YtmcekdjhkjhcdaaGreatDoor.Gl

def nearB (x : Int) : Bool := decide (-70368744177664 ≤ x ∧ x ≤ 70368744177664)
def dimB (x : Int) : Bool := decide (-1073741823 ≤ x ∧ x ≤ 1073741823)
/-- May it be glue? -/
def glueB (n s h a b : Int) : Bool := decide ((-1073741823 ≤ n ∧ n ≤ 1073741823) ∧ (-1073741823 ≤ s ∧ s ≤ 1073741823) ∧ (-1073741823 ≤ h ∧ h ≤ 1073741823) ∧ (0 ≤ a ∧ a ≤ 3) ∧ (0 ≤ b ∧ b ≤ 3))
/-- p / d, rounded; none of them below 0. -/
def rq (p d : Int) : Int := if d - p % d ≤ p % d then p / d + 1 else p / d
def mag (x : Int) : Int := if x < 0 then -x else x
def shOk (s n d : Int) : Bool := decide (1 ≤ d) && nearB s && nearB n && nearB d
def shE (s n d : Int) : Int := if shOk s n d = true then (if rq (mag n * mag s) d ≤ 70368744177664 then 0 else 20) else 11
def shV (s n d : Int) : Int := if shE s n d = 0 then (if (n < 0) = (s < 0) then rq (mag n * mag s) d else - rq (mag n * mag s) d) else 0

theorem nearB_yes {x : Int} (h0 : -70368744177664 ≤ x) (h1 : x ≤ 70368744177664) : nearB x = true := decide_eq_true ⟨h0, h1⟩
theorem nearB_no {x : Int} (h : ¬ (-70368744177664 ≤ x ∧ x ≤ 70368744177664)) : nearB x = false := decide_eq_false h
theorem nearB_iff {x : Int} : nearB x = true ↔ -70368744177664 ≤ x ∧ x ≤ 70368744177664 := decide_eq_true_iff
theorem dimB_yes {x : Int} (h0 : -1073741823 ≤ x) (h1 : x ≤ 1073741823) : dimB x = true := decide_eq_true ⟨h0, h1⟩
theorem dimB_no {x : Int} (h : ¬ (-1073741823 ≤ x ∧ x ≤ 1073741823)) : dimB x = false := decide_eq_false h
theorem shOk_iff {s n d : Int} : shOk s n d = true ↔ 1 ≤ d ∧ (-70368744177664 ≤ s ∧ s ≤ 70368744177664) ∧ (-70368744177664 ≤ n ∧ n ≤ 70368744177664) ∧ (-70368744177664 ≤ d ∧ d ≤ 70368744177664) := by
  simp [shOk, nearB_iff, and_assoc]
theorem mag_nonneg (x : Int) : 0 ≤ mag x := by unfold mag; split <;> omega
theorem mag_le {x b : Int} (h0 : -b ≤ x) (h1 : x ≤ b) : mag x ≤ b := by unfold mag; split <;> omega
theorem mag_below {x : Int} (h : x < 0) : mag x = -x := if_pos h
theorem mag_above {x : Int} (h : 0 ≤ x) : mag x = x := if_neg (by omega)
theorem mag_neg (x : Int) : mag (-x) = mag x := by unfold mag; split <;> split <;> omega
theorem shE_range {s n d : Int} (h : shOk s n d = false) : shE s n d = 11 := by simp [shE, h]
theorem shE_ok {s n d : Int} (h : shOk s n d = true) (h1 : rq (mag n * mag s) d ≤ 70368744177664) : shE s n d = 0 := by simp [shE, h, h1]
theorem shE_far {s n d : Int} (h : shOk s n d = true) (h1 : ¬ rq (mag n * mag s) d ≤ 70368744177664) : shE s n d = 20 := by simp only [shE, h, if_true, if_neg h1]
theorem shV_err {s n d : Int} (h : shE s n d ≠ 0) : shV s n d = 0 := by simp [shV, h]
theorem shV_ok {s n d : Int} (h : shE s n d = 0) : shV s n d = if (n < 0) = (s < 0) then rq (mag n * mag s) d else - rq (mag n * mag s) d := by simp [shV, h]

def sg (s : Int) : Int := if s < 0 then -1 else 1
def sgn (s n : Int) : Int := if (n < 0) = (s < 0) then 1 else -1
theorem sg_bd (s : Int) : -1 ≤ sg s ∧ sg s ≤ 1 := by unfold sg; split <;> omega
theorem sgn_bd (s n : Int) : -1 ≤ sgn s n ∧ sgn s n ≤ 1 := by unfold sgn; split <;> omega
theorem sgn_below {s n : Int} (h : n < 0) : -sg s = sgn s n := by unfold sg sgn; by_cases h1 : s < 0 <;> simp [h, h1]
theorem sgn_above {s n : Int} (h : 0 ≤ n) : sg s = sgn s n := by
  have h' : ¬ n < 0 := by omega
  unfold sg sgn; by_cases h1 : s < 0 <;> simp [h', h1]
theorem sgn_mul {s n q : Int} : (if (n < 0) = (s < 0) then q else -q) = sgn s n * q := by unfold sgn; split <;> simp

/-! ### the quotient, bit by bit -/

/-- What stands of a number above its lowest k bits. -/
theorem top_step (s : Int) (k : Nat) : s / 2 ^ k = 2 * (s / 2 ^ (k + 1)) + (s / 2 ^ k) % 2 := by
  have h : s / 2 ^ (k + 1) = s / 2 ^ k / 2 := by
    rw [Int.pow_succ, Int.ediv_ediv_of_nonneg (Int.pow_nonneg (by omega))]
  rw [h]
  omega

/-- One round: quotient and rest of n T by d become those of n (2 T + b). -/
theorem bit_round {n d q r t b : Int} (hd : 1 ≤ d) (h : q = n * t / d ∧ r = n * t % d) :
    2 * q + (2 * r + n * b) / d = n * (2 * t + b) / d ∧ (2 * r + n * b) % d = n * (2 * t + b) % d := by
  obtain ⟨rfl, rfl⟩ := h
  have e := Int.mul_ediv_add_emod (n * t) d
  have hx : n * (2 * t + b) = (2 * (n * t % d) + n * b) + d * (2 * (n * t / d)) := by
    rw [Int.mul_add, Int.mul_left_comm n 2 t, Int.mul_left_comm d 2 _]
    omega
  rw [hx, Int.add_mul_ediv_left _ _ (by omega), Int.add_mul_emod_self_left]
  exact ⟨by omega, rfl⟩

theorem quot_mono {n d t s : Int} (hn : 0 ≤ n) (hd : 1 ≤ d) (hts : t ≤ s) : n * t / d ≤ n * s / d :=
  Int.ediv_le_ediv (by omega) (Int.mul_le_mul_of_nonneg_left hts hn)

theorem top_le {s : Int} (hs : 0 ≤ s) (k : Nat) : s / 2 ^ k ≤ s := by
  rw [← Int.toNat_of_nonneg hs]
  exact_mod_cast Nat.div_le_self _ _
theorem top_nonneg {s : Int} (hs : 0 ≤ s) (k : Nat) : 0 ≤ s / 2 ^ k := Int.ediv_nonneg hs (Int.pow_nonneg (by omega))
theorem rq_ge (p d : Int) : p / d ≤ rq p d := by unfold rq; split <;> omega
theorem bit_cases (x : Int) : x % 2 = 0 ∨ x % 2 = 1 := by omega
/-- The round at bit j, as the loop's slots have it. -/
theorem round_one {n d s : Int} {j : Nat} (hd : 1 ≤ d) (hb : s / 2 ^ j % 2 = 1) :
    2 * (n * (s / 2 ^ (j + 1)) / d) + (2 * (n * (s / 2 ^ (j + 1)) % d) + n) / d = n * (s / 2 ^ j) / d ∧ (2 * (n * (s / 2 ^ (j + 1)) % d) + n) % d = n * (s / 2 ^ j) % d := by
  have h := bit_round (b := 1) hd (n := n) (t := s / 2 ^ (j + 1)) ⟨rfl, rfl⟩
  have ht := top_step s j
  rw [hb] at ht
  rw [← ht, Int.mul_one] at h
  exact h
theorem round_zero {n d s : Int} {j : Nat} (hd : 1 ≤ d) (hb : s / 2 ^ j % 2 = 0) :
    2 * (n * (s / 2 ^ (j + 1)) / d) + 2 * (n * (s / 2 ^ (j + 1)) % d) / d = n * (s / 2 ^ j) / d ∧ 2 * (n * (s / 2 ^ (j + 1)) % d) % d = n * (s / 2 ^ j) % d := by
  have h := bit_round (b := 0) hd (n := n) (t := s / 2 ^ (j + 1)) ⟨rfl, rfl⟩
  have ht := top_step s j
  rw [hb] at ht
  rw [← ht, Int.mul_zero, Int.add_zero] at h
  exact h
theorem far_top {s n d : Int} {j : Nat} (hok : shOk s n d = true) (h : 70368744177664 < mag n * (mag s / 2 ^ j) / d) : shV s n d = 0 ∧ shE s n d = 20 := by
  have hd := (shOk_iff.1 hok).1
  have h1 := quot_mono (d := d) (mag_nonneg n) hd (top_le (mag_nonneg s) j)
  have h2 := rq_ge (mag n * mag s) d
  have h3 := shE_far hok (show ¬ rq (mag n * mag s) d ≤ 70368744177664 by omega)
  exact ⟨shV_err (by omega), h3⟩
theorem sgn_cases (s n : Int) : sgn s n = 1 ∨ sgn s n = -1 := by unfold sgn; split <;> simp
theorem rq_up {p d : Int} (h : d ≤ 2 * (p % d)) : rq p d = p / d + 1 := by unfold rq; rw [if_pos (by omega)]
theorem rq_down {p d : Int} (h : 2 * (p % d) < d) : rq p d = p / d := by unfold rq; rw [if_neg (by omega)]
theorem end_far {s n d : Int} (hok : shOk s n d = true) (h : 70368744177664 < rq (mag n * mag s) d) : shV s n d = 0 ∧ shE s n d = 20 := by
  have h3 := shE_far hok (show ¬ rq (mag n * mag s) d ≤ 70368744177664 by omega)
  exact ⟨shV_err (by omega), h3⟩
theorem end_ok {s n d : Int} (hok : shOk s n d = true) (h : rq (mag n * mag s) d ≤ 70368744177664) : shV s n d = sgn s n * rq (mag n * mag s) d ∧ shE s n d = 0 := by
  have h3 := shE_ok hok h
  exact ⟨by rw [shV_ok h3, sgn_mul], h3⟩
/-! ### What the program's Share computes: it is not the document's where the quotient is 2^64 - 1 and is rounded up: there it wraps to 0 -/
def W64 : Int := 18446744073709551616
theorem W64_eq : W64 = 18446744073709551616 := rfl
attribute [irreducible] W64
def pq (p d : Int) : Int := if d - p % d ≤ p % d then (p / d + 1) % W64 else p / d
def pOk (p d : Int) : Bool := decide (p / d < W64) && decide (pq p d ≤ 70368744177664)
def psE (s n d : Int) : Int := if shOk s n d = true then (if pOk (mag n * mag s) d = true then 0 else 20) else 11
def psV (s n d : Int) : Int := if psE s n d = 0 then (if (n < 0) = (s < 0) then pq (mag n * mag s) d else - pq (mag n * mag s) d) else 0
theorem psE_range {s n d : Int} (h : shOk s n d = false) : psE s n d = 11 := by simp [psE, h]
theorem psE_ok {s n d : Int} (h : shOk s n d = true) (h1 : pOk (mag n * mag s) d = true) : psE s n d = 0 := by simp [psE, h, h1]
theorem psE_far {s n d : Int} (h : shOk s n d = true) (h1 : pOk (mag n * mag s) d = false) : psE s n d = 20 := by simp [psE, h, h1]
theorem psV_err {s n d : Int} (h : psE s n d ≠ 0) : psV s n d = 0 := by simp [psV, h]
theorem psV_ok {s n d : Int} (h : psE s n d = 0) : psV s n d = sgn s n * pq (mag n * mag s) d := by rw [← sgn_mul]; simp [psV, h]
theorem pOk_far {p d : Int} (h : W64 ≤ p / d) : pOk p d = false := by
  unfold pOk; rw [decide_eq_false (show ¬ p / d < W64 by omega), Bool.false_and]
theorem pOk_near {p d : Int} (h : p / d < W64) : pOk p d = decide (pq p d ≤ 70368744177664) := by
  unfold pOk; rw [decide_eq_true h, Bool.true_and]
theorem pq_up {p d : Int} (h : d - p % d ≤ p % d) : pq p d = (p / d + 1) % W64 := if_pos h
theorem pq_down {p d : Int} (h : ¬ d - p % d ≤ p % d) : pq p d = p / d := if_neg h
theorem max_mag (x : Int) : max x (-x) = mag x := by unfold mag; split <;> omega
theorem mag_cast {x b : Int} (h0 : -b ≤ x) (h1 : x ≤ b) : ∃ X : Nat, mag x = X ∧ max x (-x) = X ∧ (X : Int) ≤ b := by
  have h := mag_nonneg x
  refine ⟨(mag x).toNat, by omega, by rw [max_mag]; omega, ?_⟩
  have := mag_le h0 h1
  omega
/-! ### Check -/
def chk (n s h a b : Int) : Int := if glueB n s h a b = true then 0 else 30
theorem chk_yes {n s h a b : Int} (g : glueB n s h a b = true) : chk n s h a b = 0 := by simp [chk, g]
theorem chk_no {n s h a b : Int} (g : glueB n s h a b = false) : chk n s h a b = 30 := by simp [chk, g]
theorem glueB_iff {n s h a b : Int} : glueB n s h a b = true ↔ (-1073741823 ≤ n ∧ n ≤ 1073741823) ∧ (-1073741823 ≤ s ∧ s ≤ 1073741823) ∧ (-1073741823 ≤ h ∧ h ≤ 1073741823) ∧ (0 ≤ a ∧ a ≤ 3) ∧ (0 ≤ b ∧ b ≤ 3) := decide_eq_true_iff
theorem dimB_iff {x : Int} : dimB x = true ↔ -1073741823 ≤ x ∧ x ≤ 1073741823 := decide_eq_true_iff
theorem chk_cases (n s h a b : Int) : chk n s h a b = 0 ∨ chk n s h a b = 30 := by unfold chk; split <;> simp
theorem chk_ok {n s h a b : Int} (g : chk n s h a b = 0) : glueB n s h a b = true := by
  unfold chk at g
  by_cases h : glueB n s h a b = true
  · exact h
  · simp [h] at g
end Go.Proofs.YtmcekdjhkjhcdaaGreatDoor.Gl

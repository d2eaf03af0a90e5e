/- The plain arithmetic of Knuth's division of two words by one: no Go in sight. Conditions: those that each theorem names. -/
namespace Go.Proofs.Ytoboecenlangmaa.Dv

theorem split_mul (q y1 y0 : Int) : q * (y1 * 4294967296 + y0) = q * y1 * 4294967296 + q * y0 := by
  rw [Int.mul_add, ← Int.mul_assoc]

/-- The trial quotient is too great. -/
theorem too_great {q y1 y0 r un u1 : Int} (hy0 : 0 ≤ y0) (hy1 : 1 ≤ y1) (hI : un = q * y1 + r) (_hu1 : 0 ≤ u1) (hu1' : u1 < 4294967296) (hun : un < y1 * 4294967296 + y0)
    (ht : 4294967296 ≤ q ∨ r * 4294967296 + u1 < q * y0) : (un * 4294967296 + u1) / (y1 * 4294967296 + y0) ≤ q - 1 := by
  have hy : 0 < y1 * 4294967296 + y0 := by omega
  have h : un * 4294967296 + u1 < q * (y1 * 4294967296 + y0) := by
    rcases ht with h | h
    · have := Int.mul_le_mul_of_nonneg_right h (Int.le_of_lt hy)
      omega
    · rw [split_mul, hI]
      omega
  have := Int.ediv_lt_of_lt_mul hy h
  omega

theorem fits {q y1 y0 r un u1 : Int} (hI : un = q * y1 + r) (hle : q * y0 ≤ r * 4294967296 + u1) : q * (y1 * 4294967296 + y0) ≤ un * 4294967296 + u1 := by
  rw [split_mul, hI]
  omega

/-- It is the quotient: it is no less, and it fits. -/
theorem just {q y1 y0 r un u1 : Int} (hy0 : 0 ≤ y0) (hy1 : 1 ≤ y1) (hI : un = q * y1 + r) (hq : (un * 4294967296 + u1) / (y1 * 4294967296 + y0) ≤ q)
    (hle : q * y0 ≤ r * 4294967296 + u1) : (un * 4294967296 + u1) / (y1 * 4294967296 + y0) = q := by
  have hy : 0 < y1 * 4294967296 + y0 := by omega
  have := Int.le_ediv_of_mul_le hy (fits hI hle)
  omega

/-- Behind a break: the rest is past one word, so the quotient fits. -/
theorem breaks {q y1 y0 r un u1 : Int} (hy0 : 0 ≤ y0) (hy0' : y0 < 4294967296) (hy1 : 1 ≤ y1) (hI : un = q * y1 + r) (hq0 : 0 ≤ q) (hu1 : 0 ≤ u1) (hr : 4294967296 ≤ r)
    (hun : un < y1 * 4294967296 + y0) : q * y0 ≤ r * 4294967296 + u1 := by
  have hq : q < 4294967296 := by
    rcases Int.lt_or_le q 4294967296 with h | h
    · exact h
    · have := Int.mul_le_mul_of_nonneg_right h (show 0 ≤ y1 by omega)
      omega
  have h1 := Int.mul_le_mul_of_nonneg_left (show y0 ≤ 4294967296 by omega) hq0
  omega

/-- The first trial: no less than the quotient. -/
theorem first_ge {y1 y0 un u1 : Int} (hy0 : 0 ≤ y0) (hy1 : 1 ≤ y1) (hun : 0 ≤ un) (hu1' : u1 < 4294967296) :
    (un * 4294967296 + u1) / (y1 * 4294967296 + y0) ≤ un / y1 := by
  have hy : 0 < y1 * 4294967296 + y0 := by omega
  have h1 := Int.mul_ediv_add_emod un y1
  have h2 := Int.emod_lt_of_pos un (show 0 < y1 by omega)
  have h0 : 0 ≤ un / y1 := Int.ediv_nonneg hun (by omega)
  have h : un * 4294967296 + u1 < (un / y1 + 1) * (y1 * 4294967296 + y0) := by
    rw [split_mul, Int.add_mul (un / y1) 1 y1, Int.add_mul (un / y1) 1 y0, Int.one_mul, Int.one_mul]
    have h3 := Int.mul_nonneg h0 hy0
    rw [Int.mul_comm] at h1
    omega
  have := Int.ediv_lt_of_lt_mul hy h
  omega

theorem first_rest (un y1 : Int) : un = un / y1 * y1 + (un - un / y1 * y1) := by omega

theorem rest_eq {N y q : Int} (h : N / y = q) : N - q * y = N % y := by
  subst h
  have := Int.mul_ediv_add_emod N y
  rw [Int.mul_comm] at this
  omega
/-! ### The loop that mends a trial: what holds at each round's head, and what it leaves -/

/-- At a round's head. -/
def Tr (un u1 y1 y0 q r : Int) : Prop := un = q * y1 + r ∧ 0 ≤ r ∧ r < 4294967296 ∧ 0 ≤ q ∧ q < 18446744073709551616 ∧ (un * 4294967296 + u1) / (y1 * 4294967296 + y0) ≤ q

theorem Tr.first {un u1 y1 y0 : Int} (hy0 : 0 ≤ y0) (hy1 : 2147483648 ≤ y1) (hy1' : y1 < 4294967296) (hun : 0 ≤ un) (hun' : un < 18446744073709551616) (hu1' : u1 < 4294967296) :
    Tr un u1 y1 y0 (un / y1) (un - un / y1 * y1) := by
  have h1 := Int.mul_ediv_add_emod un y1
  have h2 := Int.emod_lt_of_pos un (show 0 < y1 by omega)
  have h3 := Int.emod_nonneg un (show y1 ≠ 0 by omega)
  have h4 : un / y1 ≤ un := Int.ediv_le_self _ hun
  rw [Int.mul_comm] at h1
  exact ⟨by omega, by omega, by omega, Int.ediv_nonneg hun (by omega), by omega, first_ge hy0 (by omega) hun hu1'⟩

/-- The test says no: it is the quotient. -/
theorem Tr.stop {un u1 y1 y0 q r : Int} (hy0 : 0 ≤ y0) (hy1 : 1 ≤ y1) (h : Tr un u1 y1 y0 q r) (hle : q * y0 ≤ 4294967296 * r + u1) : (un * 4294967296 + u1) / (y1 * 4294967296 + y0) = q :=
  just hy0 hy1 h.1 h.2.2.2.2.2 (by omega)

/-- The test says yes: one less, and a greater rest; q y0 of a word. -/
theorem Tr.less {un u1 y1 y0 q r : Int} (hy0 : 0 ≤ y0) (hy1 : 2147483648 ≤ y1) (hun0 : 0 ≤ un) (hu1 : 0 ≤ u1) (hu1' : u1 < 4294967296) (hun : un < y1 * 4294967296 + y0) (h : Tr un u1 y1 y0 q r)
    (ht : 4294967296 ≤ q ∨ 4294967296 * r + u1 < q * y0) : 1 ≤ q ∧ un = (q - 1) * y1 + (r + y1) ∧ (un * 4294967296 + u1) / (y1 * 4294967296 + y0) ≤ q - 1 := by
  have hg := too_great hy0 (by omega) h.1 hu1 hu1' hun (by omega)
  have h0 : 0 ≤ (un * 4294967296 + u1) / (y1 * 4294967296 + y0) := Int.ediv_nonneg (by omega) (by omega)
  refine ⟨by omega, ?_, hg⟩
  have := h.1
  rw [Int.sub_mul, Int.one_mul]
  omega

theorem Tr.next {un u1 y1 y0 q r : Int} (hy1 : 2147483648 ≤ y1) (h : Tr un u1 y1 y0 q r) (hl : 1 ≤ q ∧ un = (q - 1) * y1 + (r + y1) ∧ (un * 4294967296 + u1) / (y1 * 4294967296 + y0) ≤ q - 1)
    (hr : r + y1 < 4294967296) : Tr un u1 y1 y0 (q - 1) (r + y1) := by
  obtain ⟨_, h2, h3, h4, h5, _⟩ := h
  exact ⟨hl.2.1, by omega, hr, by omega, by omega, hl.2.2⟩

theorem Tr.out {un u1 y1 y0 q r : Int} (hy0 : 0 ≤ y0) (hy0' : y0 < 4294967296) (hy1 : 2147483648 ≤ y1) (hu1 : 0 ≤ u1) (hun : un < y1 * 4294967296 + y0)
    (hl : 1 ≤ q ∧ un = (q - 1) * y1 + (r + y1) ∧ (un * 4294967296 + u1) / (y1 * 4294967296 + y0) ≤ q - 1) (hr : 4294967296 ≤ r + y1) :
    (un * 4294967296 + u1) / (y1 * 4294967296 + y0) = q - 1 :=
  just hy0 (by omega) hl.2.1 hl.2.2 (breaks hy0 hy0' (by omega) hl.2.1 (by omega) hu1 hr hun)

theorem word_mul {q y : Int} (q0 : 0 ≤ q) (q1 : q < 4294967296) (y0 : 0 ≤ y) (y1 : y < 4294967296) : 0 ≤ q * y ∧ q * y ≤ 18446744065119617025 := by
  refine ⟨Int.mul_nonneg q0 y0, ?_⟩
  have h1 := Int.mul_le_mul_of_nonneg_left (show y ≤ 4294967295 by omega) q0
  omega
/-- What a round of division leaves. -/
theorem leaves {un u1 Y Q : Int} (hY : 0 < Y) (hun0 : 0 ≤ un) (hun : un < Y) (hu1 : 0 ≤ u1) (hu1' : u1 < 4294967296) (h : (un * 4294967296 + u1) / Y = Q) :
    0 ≤ Q ∧ Q < 4294967296 ∧ (un * 4294967296 + u1) % Y = un * 4294967296 + u1 - Q * Y ∧ 0 ≤ un * 4294967296 + u1 - Q * Y ∧ un * 4294967296 + u1 - Q * Y < Y := by
  have e := rest_eq h
  have e0 := Int.emod_nonneg (un * 4294967296 + u1) (show Y ≠ 0 by omega)
  have e1 := Int.emod_lt_of_pos (un * 4294967296 + u1) hY
  refine ⟨?_, ?_, e.symm, by omega, by omega⟩
  · rw [← h]; exact Int.ediv_nonneg (by omega) (by omega)
  · rw [← h]; exact Int.ediv_lt_of_lt_mul hY (by omega)
end Go.Proofs.Ytoboecenlangmaa.Dv

import Derived.Test.YtoboecenlangmaaDivA
import Derived.Laws.MathBits
import Derived.Lib.BitFns
import Derived.Lib.ItoaNum
import Derived.Laws.BitsAllLaws
import Derived.IntWalk
/- Shifting two words and a divisor: the arithmetic of Div64's first lines. Conditions: those that each theorem names. -/
namespace Go.Proofs.Ytoboecenlangmaa.Dv

theorem len_spec (y : Nat) (h0 : y ≠ 0) (h1 : y < 18446744073709551616) : 1 ≤ Lib.bitLen y ∧ Lib.bitLen y ≤ 64 ∧ 2 ^ (Lib.bitLen y - 1) ≤ y ∧ y < 2 ^ Lib.bitLen y := by
  obtain ⟨a, b, c⟩ := Lib.bitLenAux_bounds 64 y (by simpa using h1) h0
  refine ⟨a, ?_, b, c⟩
  unfold Lib.bitLen
  rcases Nat.lt_or_ge 64 (Lib.bitLenAux 64 y) with h | h
  · have : 2 ^ 64 ≤ 2 ^ (Lib.bitLenAux 64 y - 1) := Nat.pow_le_pow_right (by omega) (by omega)
    omega
  · exact h

theorem pow_join {s : Nat} (h : s ≤ 64) : 2 ^ (64 - s) * 2 ^ s = 18446744073709551616 := by
  rw [← Nat.pow_add, Nat.sub_add_cancel h]

theorem norm {y s : Nat} (h0 : y ≠ 0) (h1 : y < 18446744073709551616) (hs : s + Lib.bitLen y = 64) : 9223372036854775808 ≤ y * 2 ^ s ∧ y * 2 ^ s < 18446744073709551616 := by
  obtain ⟨a, b, c, d⟩ := len_spec y h0 h1
  have e1 : 2 ^ (Lib.bitLen y - 1) * 2 ^ s = 9223372036854775808 := by rw [← Nat.pow_add, show Lib.bitLen y - 1 + s = 63 by omega]
  have e2 : 2 ^ Lib.bitLen y * 2 ^ s = 18446744073709551616 := by rw [← Nat.pow_add, show Lib.bitLen y + s = 64 by omega]
  have hp : 0 < 2 ^ s := Nat.two_pow_pos s
  refine ⟨?_, ?_⟩
  · rw [← e1]; exact Nat.mul_le_mul_right _ c
  · rw [← e2]; exact Nat.mul_lt_mul_of_pos_right d hp

theorem low_split {lo s : Nat} (hs : s ≤ 64) : lo * 2 ^ s = lo / 2 ^ (64 - s) * 18446744073709551616 + lo * 2 ^ s % 18446744073709551616 := by
  have h := Nat.mul_div_mul_right lo (2 ^ (64 - s)) (Nat.two_pow_pos s)
  rw [pow_join hs] at h
  rw [← h]
  omega

theorem low_lt {lo s : Nat} (hl : lo < 18446744073709551616) (hs : s ≤ 64) : lo / 2 ^ (64 - s) < 2 ^ s := by
  rw [Nat.div_lt_iff_lt_mul (Nat.two_pow_pos _), Nat.mul_comm, pow_join hs]
  exact hl

/-- The upper word, shifted. -/
theorem upper {hi lo y s : Nat} (hl : lo < 18446744073709551616) (hh : hi < y) (hs : s ≤ 64) :
    (hi * 2 ^ s + lo / 2 ^ (64 - s)) * 18446744073709551616 + lo * 2 ^ s % 18446744073709551616 = (hi * 18446744073709551616 + lo) * 2 ^ s ∧ hi * 2 ^ s + lo / 2 ^ (64 - s) < y * 2 ^ s := by
  have e := low_split (lo := lo) hs
  have l := low_lt hl hs
  refine ⟨?_, ?_⟩
  · rw [Nat.add_mul (hi * 18446744073709551616) lo, Nat.add_mul, Nat.mul_right_comm hi]
    omega
  · have h1 : (hi + 1) * 2 ^ s ≤ y * 2 ^ s := Nat.mul_le_mul_right _ hh
    rw [Nat.add_mul, Nat.one_mul] at h1
    omega

theorem or_join {hi lo s : Nat} (hl : lo < 18446744073709551616) (hs : s ≤ 64) : hi * 2 ^ s ||| lo / 2 ^ (64 - s) = hi * 2 ^ s + lo / 2 ^ (64 - s) :=
  nat_join s _ _ (Nat.mul_mod_left _ _) (low_lt hl hs)

/-- Both halves together. -/
theorem whole {un u1 u0 y Q1 R1 : Int} (hy : 0 < y) (h1 : (un * 4294967296 + u1) / y = Q1) (h2 : (un * 4294967296 + u1) % y = R1) :
    (un * 18446744073709551616 + (u1 * 4294967296 + u0)) / y = Q1 * 4294967296 + (R1 * 4294967296 + u0) / y ∧ (un * 18446744073709551616 + (u1 * 4294967296 + u0)) % y = (R1 * 4294967296 + u0) % y := by
  have e := Int.mul_ediv_add_emod (un * 4294967296 + u1) y
  rw [h1, h2] at e
  have hx : un * 18446744073709551616 + (u1 * 4294967296 + u0) = (R1 * 4294967296 + u0) + y * (Q1 * 4294967296) := by
    rw [← Int.mul_assoc]
    omega
  rw [hx, Int.add_mul_ediv_left _ _ (by omega), Int.add_mul_emod_self_left]
  exact ⟨by omega, rfl⟩

/-- Shifted back. -/
theorem back {X y p : Int} (hp : 0 < p) : X * p / (y * p) = X / y ∧ X * p % (y * p) / p = X % y := by
  refine ⟨Int.mul_ediv_mul_of_pos_left _ _ hp, ?_⟩
  have h : X * p % (y * p) = X % y * p := by
    rw [Int.emod_def, Int.emod_def, Int.mul_ediv_mul_of_pos_left _ _ hp, Int.sub_mul, Int.mul_right_comm y p]
  rw [h, Int.mul_ediv_cancel _ (by omega)]

/-- A word's worth of a difference that fits in one word. -/
theorem wrap_diff (a b P : Int) (h0 : 0 ≤ a * 4294967296 + b - P) (h1 : a * 4294967296 + b - P ≤ 18446744073709551615) :
    IntKind.u64.wrap (IntKind.u64.wrap (IntKind.u64.wrap (a * 4294967296) + b) - IntKind.u64.wrap P) = a * 4294967296 + b - P := by
  have e : ∀ n : Int, IntKind.u64.wrap n = n % 18446744073709551616 := fun n => by simp [IntKind.wrap, IntKind.bits, IntKind.signed]
  rw [e, e, e, e]
  omega
theorem u64_wrap (n : Int) : IntKind.u64.wrap n = n % 18446744073709551616 := by simp [IntKind.wrap, IntKind.bits, IntKind.signed]
theorem low_mask (Y : Nat) (h : Y < 18446744073709551616) : bits .and .u64 (Y : Int) 4294967295 = ((Y % 4294967296 : Nat) : Int) := by
  have h1 := u64_and_nat Y 4294967295 h (by omega)
  rw [show (Y &&& 4294967295) = Y % 4294967296 from Nat.and_two_pow_sub_one_eq_mod Y 32] at h1
  exact h1
/-- What Div64's first lines make: letters for each word, and what is known of them. -/
theorem laid {hi lo y s : Nat} (hl1 : lo < 18446744073709551616) (hh0 : 1 ≤ hi) (hhy : hi < y) (hy1 : y < 18446744073709551616) (hs : s + Lib.bitLen y = 64) (hs63 : s ≤ 63) :
    ∃ Y y1 y0 un lw u1 u0 : Int, IntKind.u64.wrap ((y : Int) * 2 ^ s) = Y ∧ Y / 4294967296 = y1 ∧ bits .and .u64 Y 4294967295 = y0 ∧
      bits .or .u64 (IntKind.u64.wrap ((hi : Int) * 2 ^ s)) ((lo : Int) / 2 ^ (64 - s)) = un ∧ IntKind.u64.wrap ((lo : Int) * 2 ^ s) = lw ∧ lw / 4294967296 = u1 ∧ bits .and .u64 lw 4294967295 = u0 ∧
      Y = y1 * 4294967296 + y0 ∧ 2147483648 ≤ y1 ∧ y1 < 4294967296 ∧ 0 ≤ y0 ∧ y0 < 4294967296 ∧ lw = u1 * 4294967296 + u0 ∧ 0 ≤ u1 ∧ u1 < 4294967296 ∧ 0 ≤ u0 ∧ u0 < 4294967296 ∧ 0 ≤ un ∧ un < Y ∧
      un * 18446744073709551616 + lw = ((hi : Int) * 18446744073709551616 + lo) * 2 ^ s ∧ Y = y * 2 ^ s := by
  obtain ⟨y63, y64⟩ := norm (by omega) hy1 hs
  obtain ⟨hU, hlt⟩ := upper hl1 hhy (show s ≤ 64 by omega)
  have hor := or_join (hi := hi) hl1 (show s ≤ 64 by omega)
  have hh64 : hi * 2 ^ s < 18446744073709551616 := Nat.lt_of_le_of_lt (Nat.le_add_right _ _) (Nat.lt_trans hlt y64)
  have hl64 : lo / 2 ^ (64 - s) < 18446744073709551616 := Nat.lt_of_le_of_lt (Nat.div_le_self _ _) hl1
  have small : ∀ n : Nat, n < 18446744073709551616 → IntKind.u64.wrap (n : Int) = n := fun n hn => by rw [u64_wrap]; omega
  have hY : IntKind.u64.wrap ((y : Int) * 2 ^ s) = ((y * 2 ^ s : Nat) : Int) := by
    rw [show (y : Int) * 2 ^ s = ((y * 2 ^ s : Nat) : Int) by push_cast; rfl]
    exact small _ y64
  have hH : IntKind.u64.wrap ((hi : Int) * 2 ^ s) = ((hi * 2 ^ s : Nat) : Int) := by
    rw [show (hi : Int) * 2 ^ s = ((hi * 2 ^ s : Nat) : Int) by push_cast; rfl]
    exact small _ hh64
  have hL : IntKind.u64.wrap ((lo : Int) * 2 ^ s) = ((lo * 2 ^ s % 18446744073709551616 : Nat) : Int) := by
    rw [u64_wrap, show (lo : Int) * 2 ^ s = ((lo * 2 ^ s : Nat) : Int) by push_cast; rfl]
    exact (Int.natCast_emod _ _).symm
  have hO : bits .or .u64 (IntKind.u64.wrap ((hi : Int) * 2 ^ s)) ((lo : Int) / 2 ^ (64 - s)) = ((hi * 2 ^ s + lo / 2 ^ (64 - s) : Nat) : Int) := by
    rw [hH, show (lo : Int) / 2 ^ (64 - s) = ((lo / 2 ^ (64 - s) : Nat) : Int) by push_cast; rfl, u64_or_nat _ _ hh64 hl64, hor]
  have hU' : ((hi * 2 ^ s + lo / 2 ^ (64 - s) : Nat) : Int) * 18446744073709551616 + ((lo * 2 ^ s % 18446744073709551616 : Nat) : Int) = ((hi : Int) * 18446744073709551616 + lo) * 2 ^ s := by
    have := congrArg (fun n : Nat => (n : Int)) hU
    simpa using this
  have hYc : ((y * 2 ^ s : Nat) : Int) = (y : Int) * 2 ^ s := by push_cast; rfl
  generalize hYg : y * 2 ^ s = Y at *
  generalize hi * 2 ^ s + lo / 2 ^ (64 - s) = un at *
  generalize hLg : lo * 2 ^ s % 18446744073709551616 = lw at *
  have hlw64 : lw < 18446744073709551616 := by rw [← hLg]; exact Nat.mod_lt _ (by omega)
  refine ⟨Y, Y / 4294967296, ((Y % 4294967296 : Nat) : Int), un, lw, lw / 4294967296, ((lw % 4294967296 : Nat) : Int), hY, rfl, low_mask Y y64, hO, hL, rfl, low_mask lw hlw64, ?_⟩
  refine ⟨by omega, by omega, by omega, by omega, by omega, by omega, by omega, by omega, by omega, by omega, by omega, by omega, hU', hYc⟩
end Go.Proofs.Ytoboecenlangmaa.Dv

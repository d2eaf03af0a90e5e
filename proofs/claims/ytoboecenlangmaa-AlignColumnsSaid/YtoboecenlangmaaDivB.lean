import Derived.Test.YtoboecenlangmaaRows
import Derived.Test.YtoboecenlangmaaDivC
import Derived.Test.YtoboecenlangmaaShelf
import Derived.WalkKit
import Derived.ProofKit
import Derived.OpenShut
import Derived.WalkSpells
import Derived.WalkLawsBesides
import Derived.Handy
import Derived.Outline
import Derived.Lib.Hide
import Derived.Deep.QuietTactic
import Derived.BigQuiet
import Derived.Deep.DeepCutAuto
import Derived.Deep.CutBlock
/- math/bits.Div64: the quotient of two words by one. Conditions: those that each theorem names. -/
namespace Go.Proofs.Ytoboecenlangmaa.Dv
open Go.ChangeShapes Go.WideShapes Go.ChangeAt Go.RowKit

theorem ret_two' {k l : IntKind} {a b c d : Int} (h : a = b) (h' : c = d) : Ending.returned (.tuple #[.int k a, .int l c]) = .returned (.tuple #[.int k b, .int l d]) := by rw [h, h']

set_option maxHeartbeats 1000000 in
theorem div_small (lo y : Int) (w : World) (hl0 : 0 ≤ lo) (hl1 : lo ≤ 18446744073709551615) (hy0 : 1 ≤ y) (hy1 : y ≤ 18446744073709551615) :
    Calls Try.prog 124 #[.int .u64 0, .int .u64 lo, .int .u64 y] w fun e w' => e = .returned (.tuple #[.int .u64 (lo / y), .int .u64 (lo % y)]) ∧ ∃ n, w' = w.drewN n := by
  go_enter Try.func124, Try.ntmps124
  go_wp2_with fail
  go_quiet (fail)
  go_wp2
  go_ret2
  exact ⟨rfl, _, rfl⟩

/-- Leading zeros, as a shift that brings y up to a full word. -/
theorem lead (y : Nat) (h0 : y ≠ 0) (h1 : y < 18446744073709551616) : ∃ s : Nat, s + Lib.bitLen y = 64 ∧ s ≤ 63 ∧ ∀ w : World,
    Calls Try.prog 126 #[.int .u64 y] w fun e w' => e = .returned (.int .i64 s) ∧ w = w' := by
  obtain ⟨a, b, _, _⟩ := len_spec y h0 h1
  refine ⟨64 - Lib.bitLen y, by omega, by omega, fun w => (Try.bits_LeadingZeros64 y w (by omega) (by omega)).mono fun e w' h => ⟨?_, h.2.symm⟩⟩
  rw [h.1, Int.toNat_natCast]
  congr 2
  omega

set_option maxHeartbeats 1000000 in
theorem div_great (hi lo y : Nat) (w : World) (hl1 : lo < 18446744073709551616) (hh0 : 1 ≤ hi) (hhy : hi < y) (hy1 : y < 18446744073709551616) :
    Calls Try.prog 124 #[.int .u64 hi, .int .u64 lo, .int .u64 y] w fun e w' => e = .returned (.tuple #[.int .u64 (((hi : Int) * 18446744073709551616 + lo) / y), .int .u64 (((hi : Int) * 18446744073709551616 + lo) % y)]) ∧ w = w' := by
  obtain ⟨s, hs, hs63, hlz⟩ := lead y (by omega) hy1
  obtain ⟨Y, y1, y0, un, lw, u1, u0, eY, ey1, ey0, eun, elw, eu1, eu0, fY, y1a, y1b, y0a, y0b, flw, u1a, u1b, u0a, u0b, una, unb, fU, fYs⟩ := laid hl1 hh0 hhy hy1 hs hs63
  have hmin : min s 64 = s := by omega
  have HLZ := Lib.hid hlz
  have FU := Lib.hid fU
  have FYS := Lib.hid fYs
  have FY := Lib.hid fY
  have FLW := Lib.hid flw
  clear hlz fU fYs fY flw hs
  have Ya : 1 ≤ Y := by have := FY.out; omega
  have Yb : Y ≤ 18446744073709551615 := by have := FY.out; omega
  have d1 : IntKind.u64.wrap (un.tdiv y1) = un / y1 := by
    rw [IntWalk.u64_quo _ _ ⟨una, by omega, by omega⟩]
  have q0 : 0 ≤ un / y1 := Int.ediv_nonneg una (by omega)
  have p0 : 0 ≤ un / y1 * y1 := Int.mul_nonneg q0 (by omega)
  have p1 : un / y1 * y1 ≤ un := Int.ediv_mul_le _ (by omega)
  go_enter Try.func124, Try.ntmps124
  go_upto_block 0 with (go_at_call 126; refine (HLZ.out _).mono ?_; rintro e w' ⟨rfl, rfl⟩)
  go_cut [15, 16] (fun v15 v16 wx => (∃ Q1 : Int, v15 = .int .u64 Q1 ∧ (un * 4294967296 + u1) / (y1 * 4294967296 + y0) = Q1) ∧ (∃ z : Int, v16 = .int .u64 z) ∧ w = wx)
  case first =>
    go_wp2_with fail
    go_loop [15, 16] (fun q r => ∃ a b : Int, q = .int .u64 a ∧ r = .int .u64 b ∧ Tr un u1 y1 y0 a b) (fun q _ => (intOf q).toNat)
    case atStart => exact ⟨_, _, rfl, rfl, Tr.first y0a y1a y1b una (by omega) u1b⟩
    case round =>
      obtain ⟨q, r, rfl, rfl, hT⟩ := hrel
      have hr0 : 0 ≤ r := hT.2.1
      have hr1 : r < 4294967296 := hT.2.2.1
      have hq0 : 0 ≤ q := hT.2.2.2.1
      have hq1 : q < 18446744073709551616 := hT.2.2.2.2.1
      have hun' : un < y1 * 4294967296 + y0 := by have := FY.out; omega
      by_cases hq : 4294967296 ≤ q
      · have hl := Tr.less y0a y1a una u1a u1b hun' hT (.inl hq)
        have HL := Lib.hid hl
        have HT := Lib.hid hT
        have hl1 := hl.1
        clear hl hT d1 q0 p0 p1
        go_wp2_with fail
        · have hx : 4294967296 ≤ r + y1 := by assumption
          go_meet
          exact ⟨⟨_, rfl, Tr.out y0a y0b y1a u1a hun' HL.out hx⟩, ⟨_, rfl⟩, rfl⟩
        · have hx : r + y1 < 4294967296 := by assumption
          go_round
          case rel => exact ⟨_, _, rfl, rfl, Tr.next y1a HT.out HL.out hx⟩
          case measure => simp [intOf]; omega
      · obtain ⟨m0, m1⟩ := word_mul hq0 (by omega) y0a y0b
        by_cases hm : 4294967296 * r + u1 < q * y0
        · have hl := Tr.less y0a y1a una u1a u1b hun' hT (.inr hm)
          have HL := Lib.hid hl
          have HT := Lib.hid hT
          have hl1 := hl.1
          clear hl hT d1 q0 p0 p1
          go_wp2_with fail
          · have hx : 4294967296 ≤ r + y1 := by assumption
            go_meet
            exact ⟨⟨_, rfl, Tr.out y0a y0b y1a u1a hun' HL.out hx⟩, ⟨_, rfl⟩, rfl⟩
          · have hx : r + y1 < 4294967296 := by assumption
            go_round
            case rel => exact ⟨_, _, rfl, rfl, Tr.next y1a HT.out HL.out hx⟩
            case measure => simp [intOf]; omega
        · have hs := Tr.stop y0a (by omega) hT (by omega)
          have HS := Lib.hid hs
          clear hs hT d1 q0 p0 p1
          go_wp2_with fail
          go_meet
          exact ⟨⟨_, rfl, HS.out⟩, ⟨_, rfl⟩, rfl⟩
  case rest =>
    obtain ⟨⟨Q1, rfl, hQ1⟩, ⟨z, rfl⟩, rfl⟩ := hcut
    rw [← FY.out] at hQ1
    obtain ⟨Qa, Qb, eR, Ra, Rb⟩ := leaves (by omega) una unb u1a u1b hQ1
    have eW := wrap_diff un u1 (Q1 * Y) Ra (by omega)
    rw [← eR] at eW Ra Rb
    have HQ1 := Lib.hid hQ1
    clear d1 q0 p0 p1 hQ1 eR
    generalize hR1 : (un * 4294967296 + u1) % Y = R1 at *
    have HR1 := Lib.hid hR1
    clear hR1
    have d1 : IntKind.u64.wrap (R1.tdiv y1) = R1 / y1 := by
      rw [IntWalk.u64_quo _ _ ⟨Ra, by omega, by omega⟩]
    have q0 : 0 ≤ R1 / y1 := Int.ediv_nonneg Ra (by omega)
    have p0 : 0 ≤ R1 / y1 * y1 := Int.mul_nonneg q0 (by omega)
    have p1 : R1 / y1 * y1 ≤ R1 := Int.ediv_mul_le _ (by omega)
    go_upto_block 2 with fail
    go_cut [18, 16] (fun v18 v16 wx => (∃ Q0 : Int, v18 = .int .u64 Q0 ∧ (R1 * 4294967296 + u0) / (y1 * 4294967296 + y0) = Q0) ∧ (∃ z : Int, v16 = .int .u64 z) ∧ w = wx)
    case first =>
      go_wp2_with fail
      go_loop [18, 16] (fun q r => ∃ a b : Int, q = .int .u64 a ∧ r = .int .u64 b ∧ Tr R1 u0 y1 y0 a b) (fun q _ => (intOf q).toNat)
      case atStart => exact ⟨_, _, rfl, rfl, Tr.first y0a y1a y1b Ra (by omega) u0b⟩
      case round =>
        obtain ⟨q, r, rfl, rfl, hT⟩ := hrel
        have hr0 : 0 ≤ r := hT.2.1
        have hr1 : r < 4294967296 := hT.2.2.1
        have hq0 : 0 ≤ q := hT.2.2.2.1
        have hq1 : q < 18446744073709551616 := hT.2.2.2.2.1
        have hun' : R1 < y1 * 4294967296 + y0 := by have := FY.out; omega
        by_cases hq : 4294967296 ≤ q
        · have hl := Tr.less y0a y1a Ra u0a u0b hun' hT (.inl hq)
          have HL := Lib.hid hl
          have HT := Lib.hid hT
          have hl1 := hl.1
          clear hl hT d1 q0 p0 p1
          go_wp2_with fail
          · have hx : 4294967296 ≤ r + y1 := by assumption
            go_meet
            exact ⟨⟨_, rfl, Tr.out y0a y0b y1a u0a hun' HL.out hx⟩, ⟨_, rfl⟩, rfl⟩
          · have hx : r + y1 < 4294967296 := by assumption
            go_round
            case rel => exact ⟨_, _, rfl, rfl, Tr.next y1a HT.out HL.out hx⟩
            case measure => simp [intOf]; omega
        · obtain ⟨m0, m1⟩ := word_mul hq0 (by omega) y0a y0b
          by_cases hm : 4294967296 * r + u0 < q * y0
          · have hl := Tr.less y0a y1a Ra u0a u0b hun' hT (.inr hm)
            have HL := Lib.hid hl
            have HT := Lib.hid hT
            have hl1 := hl.1
            clear hl hT d1 q0 p0 p1
            go_wp2_with fail
            · have hx : 4294967296 ≤ r + y1 := by assumption
              go_meet
              exact ⟨⟨_, rfl, Tr.out y0a y0b y1a u0a hun' HL.out hx⟩, ⟨_, rfl⟩, rfl⟩
            · have hx : r + y1 < 4294967296 := by assumption
              go_round
              case rel => exact ⟨_, _, rfl, rfl, Tr.next y1a HT.out HL.out hx⟩
              case measure => simp [intOf]; omega
          · have hs := Tr.stop y0a (by omega) hT (by omega)
            have HS := Lib.hid hs
            clear hs hT d1 q0 p0 p1
            go_wp2_with fail
            go_meet
            exact ⟨⟨_, rfl, HS.out⟩, ⟨_, rfl⟩, rfl⟩
    case rest =>
      obtain ⟨⟨Q0, rfl, hQ0⟩, ⟨z, rfl⟩, rfl⟩ := hcut
      rw [← FY.out] at hQ0
      obtain ⟨Q0a, Q0b, eR0, R0a, R0b⟩ := leaves (by omega) Ra Rb u0a u0b hQ0
      have eW0 := wrap_diff R1 u0 (Q0 * Y) R0a (by omega)
      rw [← eR0] at eW0
      obtain ⟨w1, w2⟩ := whole (u0 := u0) (y := Y) (by omega) HQ1.out HR1.out
      rw [← FLW.out, FU.out, FYS.out] at w1 w2
      have hp : (0 : Int) < 2 ^ s := Int.pow_pos (by omega)
      obtain ⟨b1, b2⟩ := back (X := (hi : Int) * 18446744073709551616 + lo) (y := y) hp
      rw [w2] at b2
      rw [w1] at b1
      rw [← FYS.out] at b1 b2
      rw [hQ0] at b1
      have B1 := Lib.hid b1
      have B2 := Lib.hid b2
      clear b1 b2 w1 w2 hQ0 eR0 d1 q0 p0 p1
      go_wp2
      go_ret2
      exact ⟨ret_two' B1.out B2.out, rfl⟩
/-- Div64, in letters. -/
theorem div_any (hi lo y : Nat) (hl1 : lo < 18446744073709551616) (hhy : hi < y) (hy1 : y < 18446744073709551616) :
    ∃ Q R : Nat, (hi * 18446744073709551616 + lo) / y = Q ∧ (hi * 18446744073709551616 + lo) % y = R ∧ ∀ w : World,
      Calls Try.prog 124 #[.int .u64 hi, .int .u64 lo, .int .u64 y] w fun e w' => e = .returned (.tuple #[.int .u64 Q, .int .u64 R]) ∧ ∃ n, w' = w.drewN n := by
  refine ⟨_, _, rfl, rfl, fun w => ?_⟩
  rcases Nat.eq_zero_or_pos hi with h | h
  · subst h
    refine (div_small lo y w (by omega) (by omega) (by omega) (by omega)).mono fun e w' h => ⟨?_, h.2⟩
    rw [h.1]
    simp
  · refine (div_great hi lo y w hl1 h hhy hy1).mono fun e w' h => ⟨?_, 0, h.2.symm⟩
    rw [h.1]
    simp

/-- Mul64, in letters. -/
theorem mul_any (x y : Nat) (hx : x < 18446744073709551616) (hy : y < 18446744073709551616) :
    ∃ H L : Nat, H * 18446744073709551616 + L = x * y ∧ L < 18446744073709551616 ∧ ∀ w : World,
      Calls Try.prog 123 #[.int .u64 x, .int .u64 y] w fun e w' => e = .returned (.tuple #[.int .u64 H, .int .u64 L]) ∧ w = w' :=
  ⟨x * y / 18446744073709551616, x * y % 18446744073709551616, by omega, by omega, fun w => (Try.bits_Mul64 x y hx hy w).mono fun _ _ h => ⟨h.1, h.2.symm⟩⟩
end Go.Proofs.Ytoboecenlangmaa.Dv

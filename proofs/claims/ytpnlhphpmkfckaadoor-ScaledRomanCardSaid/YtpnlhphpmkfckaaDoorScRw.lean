import Derived.Test.YtpnlhphpmkfckaaDoorScR1
import Derived.Test.YtpnlhphpmkfckaaDoorScP
/- The walk of ScaledRoman. Conditions: those that each theorem names. -/
namespace Go.Proofs.YtpnlhphpmkfckaaDoor.Ss
open Go.ChangeShapes Go.WideShapes Go.ChangeAt Go.RowKit
open Me Sc
set_option linter.unusedVariables false
set_option linter.unusedSimpArgs false

/-- How far the letters are read. -/
structure RW (q : ByteArray) (N k : Nat) (B : Int) : Prop where
  le : k ≤ q.size
  b0 : -(1000 * (k : Int)) ≤ B
  b1 : B ≤ 1000 * (k : Int)
  eq : B + sm (q.data.toList.drop k) = N
theorem RW.last {q : ByteArray} {N k : Nat} {B : Int} (h : RW q N k B) (h1 : ¬ k < q.size) : B = N := by
  have h2 := h.eq
  have h3 := h.le
  rw [List.drop_eq_nil_of_le (by rw [size_list]; omega)] at h2
  simp only [sm] at h2
  omega
theorem RW.end_ {q : ByteArray} {N k : Nat} {B : Int} (h : RW q N k B) (hk : k < q.size) (h1 : ¬ k + 1 < q.size) : RW q N (k + 1) (B + wor q[k].toNat) := by
  have hb := wor_bd q[k].toNat
  have a := h.b0
  have b := h.b1
  have h2 := h.eq
  rw [sm_end (get_list q k hk) (by rw [size_list]; omega)] at h2
  refine ⟨by omega, by omega, by omega, ?_⟩
  rw [List.drop_eq_nil_of_le (by rw [size_list]; omega)]
  simp only [sm]
  omega
theorem RW.more {q : ByteArray} {N k : Nat} {B : Int} (h : RW q N k B) (hk : k < q.size) (h1 : k + 1 < q.size) :
    (wor q[k].toNat < wor q[k + 1].toNat → RW q N (k + 1) (B + -(wor q[k].toNat))) ∧ (¬ wor q[k].toNat < wor q[k + 1].toNat → RW q N (k + 1) (B + wor q[k].toNat)) := by
  have hb := wor_bd q[k].toNat
  have a := h.b0
  have b := h.b1
  have h2 := h.eq
  rw [sm_step (get_list q k hk) (get_list q (k + 1) h1)] at h2
  constructor
  · intro hl
    rw [if_pos hl] at h2
    exact ⟨by omega, by omega, by omega, by omega⟩
  · intro hl
    rw [if_neg hl] at h2
    exact ⟨by omega, by omega, by omega, by omega⟩
set_option maxHeartbeats 2000000 in
set_option maxRecDepth 100000 in
theorem roman_walk (n : Int) (w : World) (htab : Tab w) : Calls Tryd.prog 11 #[.int .i64 n] w fun e w' => e = .returned (.bool true) ∧ Below w.heap.size w w' := by
  have HTAB := Lib.hid htab
  clear htab
  have a0 := Int.tmod_lt_of_pos n (show (0 : Int) < 20000 by omega)
  have a1 := Int.lt_tmod_of_pos n (show (0 : Int) < 20000 by omega)
  obtain ⟨N, hN⟩ : ∃ N : Nat, (N : Int) = 1 + (n.tmod 20000 + 20000) % 20000 := ⟨(1 + (n.tmod 20000 + 20000) % 20000).toNat, by omega⟩
  have N1 : 1 ≤ N := by omega
  have N9 : N ≤ 20000 := by omega
  have HN := Lib.hid hN
  have HR := Lib.hid (fun w => roman_in N w N1 N9)
  clear hN
  go_enter Tryd.func11, Tryd.ntmps11
  go_wp2_with fail
  rw [show 1 + n.tmod 20000 % 20000 = (N : Int) by have := HN.out; omega]
  clear a0 a1
  refine (HR.out _).mono ?_
  rintro e w1 ⟨rfl, hl1⟩
  have hq9 : (roQ N 3).size ≤ 32 := roQ_size N9
  have hR0 : RW (roQ N 3) N 0 0 := ⟨by omega, by omega, by omega, by rw [List.drop_zero]; have := sm_ro N; show 0 + sm (roA N) = _; omega⟩
  generalize roQ N 3 = q at *
  go_wp2_with fail
  go_loop [4, 5] (fun b i => ∃ (k : Nat) (B : Int), i = .int .i64 k ∧ b = .int .i64 B ∧ RW q N k B) (fun _ i => q.size - (intOf i).toNat)
  case atStart => exact ⟨0, 0, rfl, rfl, hR0⟩
  case round =>
    obtain ⟨k, B, rfl, rfl, hr⟩ := hrel
    have b0 := hr.b0
    have b1 := hr.b1
    have hle := hr.le
    by_cases hk : k < q.size
    · have hv := wor_bd q[k].toNat
      by_cases h1 : k + 1 < q.size
      · have hm := hr.more hk h1
        have hv1 := wor_bd q[k + 1].toNat
        by_cases hl : wor q[k].toNat < wor q[k + 1].toNat
        · have HM := Lib.hid (hm.1 hl)
          clear hm hr
          go_wp2_with (go_at_call 41; refine (worth_any _ _).mono ?_; rintro e w' ⟨rfl, rfl⟩)
          go_round
          case rel => exact ⟨k + 1, _, by go_num, rfl, HM.out⟩
          case measure => simp [intOf]; omega
        · have HM := Lib.hid (hm.2 hl)
          clear hm hr
          go_wp2_with (go_at_call 41; refine (worth_any _ _).mono ?_; rintro e w' ⟨rfl, rfl⟩)
          go_round
          case rel => exact ⟨k + 1, _, by go_num, rfl, HM.out⟩
          case measure => simp [intOf]; omega
      · have HM := Lib.hid (hr.end_ hk h1)
        clear hr
        go_wp2_with (go_at_call 41; refine (worth_any _ _).mono ?_; rintro e w' ⟨rfl, rfl⟩)
        go_round
        case rel => exact ⟨k + 1, _, by go_num, rfl, HM.out⟩
        case measure => simp [intOf]; omega
    · obtain rfl := hr.last hk
      go_wp2_with fail
      refine (knows_any _ (HTAB.out.below hl1)).mono ?_
      rintro e wk ⟨rfl, hbk⟩
      go_wp2_with fail
      go_ret
      exact ⟨rfl, andThen hl1 hbk⟩
end Go.Proofs.YtpnlhphpmkfckaaDoor.Ss

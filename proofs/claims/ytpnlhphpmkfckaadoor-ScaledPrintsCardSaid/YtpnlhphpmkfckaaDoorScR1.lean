import Derived.Test.YtpnlhphpmkfckaaDoorScR0
import Derived.Test.YtpnlhphpmkfckaaDoorScY1
import Derived.Test.YtpnlhphpmkfckaaDoorScG
/- The contract of Roman (printed by gen_scr.py). Conditions: those that each theorem names. -/
namespace Go.Proofs.YtpnlhphpmkfckaaDoor.Ss
open Go.ChangeShapes Go.WideShapes Go.ChangeAt Go.RowKit
open Me Sc
set_option linter.unusedVariables false
set_option linter.unusedSimpArgs false

def roQ (N j : Nat) : ByteArray := S (roP N j)
theorem roQ_size {N j : Nat} (h : N ≤ 20000) : (roQ N j).size ≤ 32 := by unfold roQ; rw [S_size]; exact roP_len h
theorem roQ_1 (N : Nat) : roQ N 1 = roQ N 0 ++ S (plc (N / 100 % 10) 99 100 109) := by unfold roQ; rw [S_app]; rfl
theorem roQ_2 (N : Nat) : roQ N 2 = roQ N 1 ++ S (plc (N / 10 % 10) 120 108 99) := by unfold roQ; rw [S_app]; rfl
theorem roQ_3 (N : Nat) : roQ N 3 = roQ N 2 ++ S (plc (N % 10) 105 118 120) := by unfold roQ; rw [S_app]; rfl
theorem pl9 {k : Nat} (a b c : UInt8) (h : k = 9) : S (plc k a b c) = (⟨#[a]⟩ : ByteArray) ++ ⟨#[c]⟩ := by
  show _ = S [a] ++ S [c]
  rw [S_app]
  subst h
  rfl
theorem pl5 {k : Nat} (a b c : UInt8) (h : k ≠ 9) (h5 : 5 ≤ k) : S (plc k a b c) = (⟨#[b]⟩ : ByteArray) ++ repT a (k - 5) := by
  show _ = S [b] ++ S (List.replicate (k - 5) a)
  rw [S_app]
  unfold plc
  rw [if_neg h, if_pos h5]
  rfl
theorem pl4 {k : Nat} (a b c : UInt8) (h : k = 4) : S (plc k a b c) = (⟨#[a]⟩ : ByteArray) ++ ⟨#[b]⟩ := by
  show _ = S [a] ++ S [b]
  rw [S_app]
  subst h
  rfl
theorem pl0 {k : Nat} (a b c : UInt8) (h : k ≤ 3) : S (plc k a b c) = repT a k := by
  unfold plc
  rw [if_neg (by omega), if_neg (by omega), if_neg (by omega)]
  rfl
def rAll : Array Value := #[.int .i64 100, .string ⟨#[99]⟩, .string ⟨#[100]⟩, .string ⟨#[109]⟩, .int .i64 10, .string ⟨#[120]⟩, .string ⟨#[108]⟩, .string ⟨#[99]⟩, .int .i64 1, .string ⟨#[105]⟩, .string ⟨#[118]⟩, .string ⟨#[120]⟩]
/-- One place: its unit, its letters, its digit. -/
structure RI (N j U V K : Nat) (a b c : UInt8) : Prop where
  ix : ∀ w : World, (Instr.index 81 (.agg rAll) (.int .i64 (j : Int))).run Tryd.prog w = .ok (.agg #[.int .i64 U, .string ⟨#[a]⟩, .string ⟨#[b]⟩, .string ⟨#[c]⟩]) w
  u1 : 1 ≤ U
  u2 : U ≤ 100
  eV : V = N / U
  eK : K = V % 10
  st : roQ N (j + 1) = roQ N j ++ S (plc K a b c)
theorem ri_of (N j : Nat) (h : j < 3) : ∃ U V K a b c, RI N j U V K a b c := by
  rcases (show j = 0 ∨ j = 1 ∨ j = 2 by omega) with rfl | rfl | rfl
  · exact ⟨100, N / 100, N / 100 % 10, 99, 100, 109, fun w => by kernel_rfl, by omega, by omega, rfl, rfl, roQ_1 N⟩
  · exact ⟨10, N / 10, N / 10 % 10, 120, 108, 99, fun w => by kernel_rfl, by omega, by omega, rfl, rfl, roQ_2 N⟩
  · exact ⟨1, N / 1, N / 1 % 10, 105, 118, 120, fun w => by kernel_rfl, by omega, by omega, rfl, rfl, by rw [Nat.div_one]; exact roQ_3 N⟩
set_option maxHeartbeats 4000000 in
set_option maxRecDepth 100000 in
theorem roman_in (N : Nat) (w : World) (h1 : 1 ≤ N) (h2 : N ≤ 20000) : Calls Tryd.prog 39 #[.int .i64 N] w fun e w' => e = .returned (.string (roQ N 3)) ∧ Below w.heap.size w w' := by
  obtain ⟨M, hM⟩ : ∃ M, M = N / 1000 := ⟨_, rfl⟩
  have e0 : (N : Int) / 1000 = M := by omega
  have HM := Lib.hid (show repT 109 M = roQ N 0 by rw [hM]; rfl)
  have M9 : M ≤ 20 := by omega
  clear hM
  go_enter Tryd.func39, Tryd.ntmps39
  go_wp2_with fail
  refine (rep_any 109 M _ (by omega)).mono ?_
  rintro e w1 ⟨rfl, hl1⟩
  rw [HM.out]
  clear e0
  go_wp2_with (refine wpList_build_eq (o := ⟨some 19, _, _, _, _, _⟩) rfl _ _ rfl rAll (by kernel_rfl) ?_)
  go_loopw [3, 20] (fun s i wr => ∃ j : Nat, j ≤ 3 ∧ i = .int .i64 j ∧ s = .string (roQ N j) ∧ Below w1.heap.size w1 wr) (fun _ i _ => 3 - (intOf i).toNat)
  case atStart => exact ⟨0, by omega, rfl, rfl, Below.refl _ _⟩
  case round =>
    obtain ⟨j, hj, rfl, rfl, hb⟩ := hrel
    have hq := roQ_size (N := N) (j := j) h2
    by_cases h3 : j < 3
    · obtain ⟨U, V, K, a, b, c, hi⟩ := ri_of N j h3
      have hix := hi.ix wr
      have u1 := hi.u1
      have u2 := hi.u2
      have hV := hi.eV
      have hK := hi.eK
      have HQ := Lib.hid hi.st
      clear hi
      have dV : (N : Int) / (U : Int) = (V : Int) := by rw [hV]; exact (Int.natCast_ediv N U).symm
      have tV : (N : Int).tdiv (U : Int) = (V : Int) := by rw [Int.tdiv_eq_ediv_of_nonneg (by omega)]; exact dV
      have V9 : V ≤ 20000 := by rw [hV]; exact Nat.le_trans (Nat.div_le_self N U) h2
      have dK : (V : Int) % 10 = (K : Int) := by omega
      have K9 : K ≤ 9 := by omega
      clear hV hK
      generalize roQ N j = q at *
      by_cases k9 : K = 9
      · have HP := Lib.hid (pl9 a b c k9)
        go_wp2_with fail
        go_roundw
        case rel => exact ⟨j + 1, by omega, by go_num, congrArg Value.string (by rw [HQ.out, HP.out]), andAlloc hb _⟩
        case measure => simp [intOf]; omega
      by_cases k5 : 5 ≤ K
      · obtain ⟨m, hm⟩ : ∃ m, m = K - 5 := ⟨_, rfl⟩
        have HP := Lib.hid (show S (plc K a b c) = (⟨#[b]⟩ : ByteArray) ++ repT a m by rw [hm]; exact pl5 a b c k9 k5)
        have em : (K : Int) - 5 = m := by omega
        have ew : IntKind.i64.wrap (m : Int) = m := IntWalk.i64_in _ (by omega)
        have hzm : (repT a m).size ≤ 4 := by rw [repT_size]; omega
        have m4 : m ≤ 4 := by omega
        clear hm
        go_wp2_with fail
        go_region_with (go_at_call 65; ((with_reducible refine (rep_any a m _ (by omega)).mono ?_); rintro e wz ⟨rfl, hz⟩; obtain ⟨hc1, hf1⟩ := old_cells hz))
        all_goals
          go_wp2_with fail
          go_roundw
          case rel => exact ⟨j + 1, by omega, by go_num, congrArg Value.string (by rw [HQ.out, HP.out]), by first | exact andThen (andAlloc (below_drewN hb 1) _) hz | exact andThen (below_drewN (andAlloc hb _) 1) hz | exact below_drewN (andThen (andAlloc hb _) hz) 1⟩
          case measure => simp [intOf]; omega
      by_cases k4 : K = 4
      · have HP := Lib.hid (pl4 a b c k4)
        go_wp2_with fail
        go_roundw
        case rel => exact ⟨j + 1, by omega, by go_num, congrArg Value.string (by rw [HQ.out, HP.out]), andAlloc hb _⟩
        case measure => simp [intOf]; omega
      · have HP := Lib.hid (pl0 (k := K) a b c (by omega))
        have hzm : (repT a K).size ≤ 4 := by rw [repT_size]; omega
        go_wp2_with fail
        refine (rep_any a K _ (by omega)).mono ?_
        rintro e wz ⟨rfl, hz⟩
        have hy := andThen (andAlloc hb _) hz
        clear hz
        go_wp2_with fail
        go_roundw
        case rel => exact ⟨j + 1, by omega, by go_num, congrArg Value.string (by rw [HQ.out, HP.out]), hy⟩
        case measure => simp [intOf]; omega
    · obtain rfl : j = 3 := by omega
      go_wp2_with fail
      go_ret
      exact ⟨rfl, andThen hl1 hb⟩
end Go.Proofs.YtpnlhphpmkfckaaDoor.Ss

import Derived.Test.YtpnlhphpmkfckaaDoorScR1
/- The contracts of the document's roman and Roman (printed by gen_scr2.py). Conditions: those that each theorem names. -/
namespace Go.Proofs.YtpnlhphpmkfckaaDoor.Ss
open Go.ChangeShapes Go.WideShapes Go.ChangeAt Go.RowKit
open Me Sc
set_option linter.unusedVariables false
set_option linter.unusedSimpArgs false

theorem one_S (a : UInt8) (l : List UInt8) : (⟨#[a]⟩ : ByteArray) ++ S l = S (a :: l) := by
  show S [a] ++ S l = _
  rw [S_app]
  rfl
set_option maxHeartbeats 1000000 in
set_option maxRecDepth 100000 in
theorem rom_zero (a b c : UInt8) (w : World) : Calls Tryd.prog 66 #[.int .i64 0, .string ⟨#[a]⟩, .string ⟨#[b]⟩, .string ⟨#[c]⟩] w fun e w' => e = .returned (.string (S (plc 0 a b c))) ∧ w = w' := by
  go_enter Tryd.func66, Tryd.ntmps66
  go_wp2_with fail
  go_ret
  exact ⟨rfl, rfl⟩
set_option maxHeartbeats 1000000 in
set_option maxRecDepth 100000 in
theorem rom_few : ∀ (k : Nat), k ≤ 3 → ∀ (a b c : UInt8) (w : World), Calls Tryd.prog 66 #[.int .i64 k, .string ⟨#[a]⟩, .string ⟨#[b]⟩, .string ⟨#[c]⟩] w fun e w' => e = .returned (.string (S (plc k a b c))) ∧ w = w'
  | 0, _, a, b, c, w => rom_zero a b c w
  | m + 1, h, a, b, c, w => by
    obtain ⟨k, hk⟩ : ∃ k, k = m + 1 := ⟨_, rfl⟩
    have HR := Lib.hid (rom_few m (by omega) a b c)
    have HS := Lib.hid (show (⟨#[a]⟩ : ByteArray) ++ S (plc m a b c) = S (plc k a b c) by
      have e1 : plc m a b c = List.replicate m a := by unfold plc; rw [if_neg (by omega), if_neg (by omega), if_neg (by omega)]
      have e2 : plc k a b c = List.replicate k a := by unfold plc; rw [if_neg (by omega), if_neg (by omega), if_neg (by omega)]
      rw [one_S, e1, e2, hk]
      rfl)
    have hz : (S (plc m a b c)).size ≤ 4 := by rw [S_size]; exact plc_len a b c (by omega)
    have ek : (k : Int) - 1 = m := by omega
    have k1 : 1 ≤ k := by omega
    have k3 : k ≤ 3 := by omega
    rw [← hk]
    clear hk h
    generalize S (plc m a b c) = t at *
    go_enter Tryd.func66, Tryd.ntmps66
    go_wp2_with fail
    refine (HR.out _).mono ?_
    rintro e w' ⟨rfl, rfl⟩
    go_wp2_with fail
    go_ret
    exact ⟨ret_strM HS.out, rfl⟩
set_option maxHeartbeats 1000000 in
set_option maxRecDepth 100000 in
theorem rom_any (k : Nat) (h : k ≤ 9) (a b c : UInt8) (w : World) : Calls Tryd.prog 66 #[.int .i64 k, .string ⟨#[a]⟩, .string ⟨#[b]⟩, .string ⟨#[c]⟩] w fun e w' => e = .returned (.string (S (plc k a b c))) ∧ w = w' := by
  by_cases k3 : k ≤ 3
  · exact rom_few k k3 a b c w
  by_cases k4 : k = 4
  · have HP := Lib.hid (pl4 a b c k4)
    go_enter Tryd.func66, Tryd.ntmps66
    go_wp2_with fail
    go_ret
    exact ⟨ret_strM HP.out.symm, rfl⟩
  by_cases k9 : k = 9
  · have HP := Lib.hid (pl9 a b c k9)
    go_enter Tryd.func66, Tryd.ntmps66
    go_wp2_with fail
    go_ret
    exact ⟨ret_strM HP.out.symm, rfl⟩
  · obtain ⟨m, hm⟩ : ∃ m, m = k - 5 := ⟨_, rfl⟩
    have k5 : 5 ≤ k := by omega
    have HR := Lib.hid (rom_few m (by omega) a b c)
    have HS := Lib.hid (show (⟨#[b]⟩ : ByteArray) ++ S (plc m a b c) = S (plc k a b c) by rw [pl0 a b c (by omega), pl5 a b c k9 k5, hm])
    have hz : (S (plc m a b c)).size ≤ 4 := by rw [S_size]; exact plc_len a b c (by omega)
    have em : (k : Int) - 5 = m := by omega
    have m4 : m ≤ 3 := by omega
    clear hm
    generalize S (plc m a b c) = t at *
    go_enter Tryd.func66, Tryd.ntmps66
    go_wp2_with fail
    refine (HR.out _).mono ?_
    rintro e w' ⟨rfl, rfl⟩
    go_wp2_with fail
    go_ret
    exact ⟨ret_strM HS.out, rfl⟩
theorem rep_snoc (x : UInt8) (k : Nat) : repT x k ++ (⟨#[x]⟩ : ByteArray) = repT x (k + 1) := by
  show S (List.replicate k x) ++ S [x] = S (List.replicate (k + 1) x)
  rw [S_app]
  congr 1
  rw [List.replicate_succ']
def roS (n : Int) : ByteArray := S (roT n)
theorem roS_in {N : Nat} (h1 : 1 ≤ N) (h2 : N ≤ 20000) : roS (N : Int) = roQ N 3 := by
  unfold roS roT roQ
  rw [if_neg (by omega)]
  rfl
theorem roS_out {n : Int} (h : n < 1 ∨ 20000 < n) : roS n = ⟨#[]⟩ := by
  unfold roS roT
  rw [if_pos h]
set_option maxHeartbeats 1000000 in
set_option maxRecDepth 100000 in
theorem roman_any (n : Int) (w : World) : Calls Tryd.prog 39 #[.int .i64 n] w fun e w' => e = .returned (.string (roS n)) ∧ Below w.heap.size w w' := by
  by_cases h1 : n < 1
  · have HO := Lib.hid (roS_out (.inl h1))
    go_enter Tryd.func39, Tryd.ntmps39
    go_wp2_with fail
    go_ret
    exact ⟨ret_strM HO.out.symm, Below.refl _ _⟩
  by_cases h2 : 20000 < n
  · have HO := Lib.hid (roS_out (.inr h2))
    go_enter Tryd.func39, Tryd.ntmps39
    go_wp2_with fail
    go_ret
    exact ⟨ret_strM HO.out.symm, Below.refl _ _⟩
  · obtain ⟨N, rfl⟩ : ∃ N : Nat, n = (N : Int) := ⟨n.toNat, by omega⟩
    rw [roS_in (by omega) (by omega)]
    exact roman_in N w (by omega) (by omega)
set_option maxHeartbeats 1000000 in
set_option maxRecDepth 100000 in
theorem refRoman (n : Int) (w : World) : Calls Tryd.prog 40 #[.int .i64 n] w fun e w' => e = .returned (.string (roS n)) ∧ w = w' := by
  by_cases h1 : n < 1
  · have HO := Lib.hid (roS_out (.inl h1))
    go_enter Tryd.func40, Tryd.ntmps40
    go_wp2_with fail
    go_ret
    exact ⟨ret_strM HO.out.symm, rfl⟩
  by_cases h2 : 20000 < n
  · have HO := Lib.hid (roS_out (.inr h2))
    go_enter Tryd.func40, Tryd.ntmps40
    go_wp2_with fail
    go_ret
    exact ⟨ret_strM HO.out.symm, rfl⟩
  · obtain ⟨N, rfl⟩ : ∃ N : Nat, n = (N : Int) := ⟨n.toNat, by omega⟩
    have N1 : 1 ≤ N := by omega
    have N9 : N ≤ 20000 := by omega
    obtain ⟨M, hM⟩ : ∃ M, M = N / 1000 := ⟨_, rfl⟩
    obtain ⟨K1, hK1⟩ : ∃ K, K = N / 100 % 10 := ⟨_, rfl⟩
    obtain ⟨K2, hK2⟩ : ∃ K, K = N / 10 % 10 := ⟨_, rfl⟩
    obtain ⟨K3, hK3⟩ : ∃ K, K = N % 10 := ⟨_, rfl⟩
    have e0 : (N : Int) / 1000 = M := by omega
    have e1 : (N : Int) / 100 % 10 = K1 := by omega
    have e2 : (N : Int) / 10 % 10 = K2 := by omega
    have e3 : (N : Int) % 10 = K3 := by omega
    have H1 := Lib.hid (rom_any K1 (by omega) 99 100 109)
    have H2 := Lib.hid (rom_any K2 (by omega) 120 108 99)
    have H3 := Lib.hid (rom_any K3 (by omega) 105 118 120)
    have HZ := Lib.hid (show repT 109 M ++ S (plc K1 99 100 109) ++ S (plc K2 120 108 99) ++ S (plc K3 105 118 120) = roS (N : Int) by
      rw [roS_in N1 N9, roQ_3, roQ_2, roQ_1, hM, hK1, hK2, hK3]
      rfl)
    have z0 : (repT 109 M).size ≤ 20 := by rw [repT_size]; omega
    have z1 : (S (plc K1 99 100 109)).size ≤ 4 := by rw [S_size]; exact plc_len _ _ _ (by omega)
    have z2 : (S (plc K2 120 108 99)).size ≤ 4 := by rw [S_size]; exact plc_len _ _ _ (by omega)
    have z3 : (S (plc K3 105 118 120)).size ≤ 4 := by rw [S_size]; exact plc_len _ _ _ (by omega)
    have M9 : M ≤ 20 := by omega
    clear hM hK1 hK2 hK3 h1 h2
    generalize S (plc K1 99 100 109) = t1 at *
    generalize S (plc K2 120 108 99) = t2 at *
    generalize S (plc K3 105 118 120) = t3 at *
    go_enter Tryd.func40, Tryd.ntmps40
    go_wp2_with fail
    go_loop [3, 4] (fun s i => ∃ k : Nat, k ≤ M ∧ i = .int .i64 k ∧ s = .string (repT 109 k)) (fun _ i => M - (intOf i).toNat)
    case atStart => exact ⟨0, by omega, rfl, rfl⟩
    case round =>
      obtain ⟨k, hk, rfl, rfl⟩ := hrel
      by_cases hlt : k < M
      · have zk : (repT 109 k).size ≤ 20 := by rw [repT_size]; omega
        go_wp2_with fail
        go_round
        case rel => exact ⟨k + 1, by omega, by go_num, congrArg Value.string (rep_snoc 109 k)⟩
        case measure => simp [intOf]; omega
      · obtain rfl : k = M := by omega
        go_wp2_with fail
        refine (H1.out _).mono ?_
        rintro e w' ⟨rfl, rfl⟩
        go_wp2_with fail
        refine (H2.out _).mono ?_
        rintro e w' ⟨rfl, rfl⟩
        go_wp2_with fail
        refine (H3.out _).mono ?_
        rintro e w' ⟨rfl, rfl⟩
        go_wp2_with fail
        go_ret
        exact ⟨ret_strM HZ.out, rfl⟩
end Go.Proofs.YtpnlhphpmkfckaaDoor.Ss

import Derived.Test.YtpnlhphpmkfckaaDoorScI
/- Contracts of the document's Decimal, Parse, Measured, Dimen (printed by gen_scj.py). Conditions: those that each theorem names. -/
namespace Go.Proofs.YtpnlhphpmkfckaaDoor.Ss
open Go.ChangeShapes Go.WideShapes Go.ChangeAt Go.RowKit
open Me Sc
set_option linter.unusedVariables false
set_option linter.unusedSimpArgs false

theorem isN_next {s : ByteArray} {n0 n1 : Nat} {p : Bool} (h : IsN s n0 n1 p) {k : Nat} (hk : k < n0) (hs : k < s.size) : (runT s).data.toList[k]? = some s[k] := by
  rw [← h.run, List.getElem?_take, if_pos hk]
  exact get_list s k hs
theorem isN_all {s : ByteArray} {n0 n1 : Nat} {p : Bool} (h : IsN s n0 n1 p) : whl ((runT s).data.toList.take n0) 0 = nuI s := by
  rw [List.take_of_length_le (by rw [← h.run, List.length_take]; omega)]
  rfl
theorem dc_beh (s : ByteArray) : dcvT (behT s) = nuF s := (dc_yes (beh_dig s)).1
set_option maxHeartbeats 2000000 in
set_option maxRecDepth 100000 in
theorem refDecimal (s : ByteArray) (w : World) (hs : s.size ≤ 140737488355328) : Calls Tryd.prog 59 #[.string s] w fun e w' => e = .returned (.tuple #[.int .i64 (nuI s), .int .i64 (nuF s), .int .i64 (nuN s)]) ∧ w = w' := by
  obtain ⟨n0, n1, p, hN⟩ := isN_ex s
  have hn0 := hN.le
  have HN := Lib.hid hN
  clear hN
  cases p
  · go_enter Tryd.func59, Tryd.ntmps59
    go_wp2_with fail
    go_loop [5, 6] (fun i a => ∃ (k : Nat) (B : Int), k ≤ n0 ∧ i = .int .i64 k ∧ a = .int .i64 B ∧ B = whl ((runT s).data.toList.take k) 0) (fun i _ => n0 - (intOf i).toNat)
    case atStart => exact ⟨0, 0, by omega, rfl, rfl, rfl⟩
    case round =>
      obtain ⟨k, B, hk, rfl, rfl, hB⟩ := hrel
      have hb := whl_in s k
      rw [← hB] at hb
      obtain ⟨b0, b1⟩ := hb
      have HB := Lib.hid hB
      clear hB
      by_cases hlt : k < n0
      · have hks : k < s.size := by omega
        obtain ⟨d0, d1⟩ := HN.out.dig k hks hlt
        have HG := Lib.hid (isN_next HN.out hlt hks)
        by_cases hm : 10 * B + ((s[k].toNat : Int) - 48) ≤ 1099511627776
        all_goals
          go_wp2_with fail
          go_round
          case rel => exact ⟨k + 1, _, by omega, by go_num, rfl, by rw [whl_next HG.out, ← HB.out]⟩
          case measure => simp [intOf]; omega
      · obtain rfl : k = n0 := by omega
        have HV := Lib.hid (show B = nuI s by rw [HB.out]; exact isN_all HN.out)
        clear hlt HB
        by_cases hks : k < s.size
        · have e46 := HN.out.pno rfl hks
          have e46' : ((s[k].toNat : Int) != 46) = true := by rw [bne, e46]; rfl
          have eks : ((k : Int) == s.size) = false := by rw [beq_eq_false_iff_ne]; omega
          rcases HN.out.nod hks with h1 | h1
          all_goals
            go_wp2_with fail
            go_ret3
            exact ⟨ret_ints3 HV.out (HN.out.num rfl).1.symm (HN.out.num rfl).2.symm, rfl⟩
        · have eks : ((k : Int) == s.size) = true := by rw [beq_iff_eq]; omega
          go_wp2_with fail
          go_ret3
          exact ⟨ret_ints3 HV.out (HN.out.num rfl).1.symm (HN.out.num rfl).2.symm, rfl⟩
  · obtain ⟨hks0, e46⟩ := HN.out.pyes rfl
    have c46 : s[n0].toNat = 46 := by rw [beq_iff_eq] at e46; omega
    have c47 : s[n0].toNat < 48 := by omega
    have e46' : ((s[n0].toNat : Int) != 46) = false := by rw [bne, e46]; rfl
    have eks : ((n0 : Int) == s.size) = false := by rw [beq_eq_false_iff_ne]; omega
    have hle1 := HN.out.le1 rfl
    clear c46
    go_enter Tryd.func59, Tryd.ntmps59
    go_wp2_with fail
    go_loop [5, 6] (fun i a => ∃ (k : Nat) (B : Int), k ≤ n0 ∧ i = .int .i64 k ∧ a = .int .i64 B ∧ B = whl ((runT s).data.toList.take k) 0) (fun i _ => n0 - (intOf i).toNat)
    case atStart => exact ⟨0, 0, by omega, rfl, rfl, rfl⟩
    case round =>
      obtain ⟨k, B, hk, rfl, rfl, hB⟩ := hrel
      have hb := whl_in s k
      rw [← hB] at hb
      obtain ⟨b0, b1⟩ := hb
      have HB := Lib.hid hB
      clear hB
      by_cases hlt : k < n0
      · have hks : k < s.size := by omega
        obtain ⟨d0, d1⟩ := HN.out.dig k hks hlt
        have HG := Lib.hid (isN_next HN.out hlt hks)
        by_cases hm : 10 * B + ((s[k].toNat : Int) - 48) ≤ 1099511627776
        all_goals
          go_wp2_with fail
          go_round
          case rel => exact ⟨k + 1, _, by omega, by go_num, rfl, by rw [whl_next HG.out, ← HB.out]⟩
          case measure => simp [intOf]; omega
      · obtain rfl : k = n0 := by omega
        have HV := Lib.hid (show B = nuI s by rw [HB.out]; exact isN_all HN.out)
        clear hlt HB
        go_wp2_with fail
        go_loop [8] (fun i => ∃ j : Nat, j ≤ n1 ∧ i = .int .i64 ((k : Int) + 1 + (j : Int))) (fun i => k + 1 + n1 - (intOf i).toNat)
        case atStart => exact ⟨0, by omega, by simp⟩
        case round =>
          obtain ⟨j, hj, rfl⟩ := hrel
          have hti : ((k : Int) + 1 + (j : Int)).toNat = k + 1 + j := by omega
          by_cases hlt : j < n1
          · have hjs : k + 1 + j < s.size := by omega
            obtain ⟨d0, d1⟩ := HN.out.dig1 rfl j hjs hlt
            go_wp2_with fail
            go_round
            case rel => exact ⟨j + 1, by omega, by go_num⟩
            case measure => simp [intOf]; omega
          · obtain rfl : j = n1 := by omega
            have hlj : (k : Int) + 1 + (j : Int) ≤ s.size := by omega
            by_cases hjs : k + 1 + j < s.size
            · rcases HN.out.nod1 rfl hjs with h1 | h1
              all_goals
                by_cases hz : k = 0 ∧ j = 0
                · have ek : ((k : Int) == 0) = true := by rw [beq_iff_eq]; omega
                  have ej : ((k : Int) + 1 + (j : Int) == (k : Int) + 1) = true := by rw [beq_iff_eq]; omega
                  have HZ := Lib.hid (HN.out.num1 rfl hz.1 hz.2)
                  clear hz
                  go_wp2_with fail
                  go_ret3
                  exact ⟨ret_ints3 HZ.out.1.symm HZ.out.2.1.symm HZ.out.2.2.symm, rfl⟩
                · have HZ := Lib.hid (HN.out.num2 rfl hz)
                  by_cases hk0 : k = 0
                  · have ek : ((k : Int) == 0) = true := by rw [beq_iff_eq]; omega
                    have ej : ((k : Int) + 1 + (j : Int) == (k : Int) + 1) = false := by rw [beq_eq_false_iff_ne]; omega
                    have HK := Lib.hid hk0
                    clear hz hk0
                    go_wp2_with fail
                    rw [HN.out.beh rfl]
                    refine (refDecimals (behT s) _ (Nat.le_trans (beh_len s) hs)).mono ?_
                    rintro e w' ⟨rfl, rfl⟩
                    rw [dc_beh]
                    go_wp2_with fail
                    go_ret3
                    exact ⟨ret_ints3 HV.out rfl (by rw [HZ.out]; omega), rfl⟩
                  · have ek : ((k : Int) == 0) = false := by rw [beq_eq_false_iff_ne]; omega
                    clear hz hk0
                    go_wp2_with fail
                    rw [HN.out.beh rfl]
                    refine (refDecimals (behT s) _ (Nat.le_trans (beh_len s) hs)).mono ?_
                    rintro e w' ⟨rfl, rfl⟩
                    rw [dc_beh]
                    go_wp2_with fail
                    go_ret3
                    exact ⟨ret_ints3 HV.out rfl (by rw [HZ.out]; omega), rfl⟩
            · skip
              by_cases hz : k = 0 ∧ j = 0
              · have ek : ((k : Int) == 0) = true := by rw [beq_iff_eq]; omega
                have ej : ((k : Int) + 1 + (j : Int) == (k : Int) + 1) = true := by rw [beq_iff_eq]; omega
                have HZ := Lib.hid (HN.out.num1 rfl hz.1 hz.2)
                clear hz
                go_wp2_with fail
                go_ret3
                exact ⟨ret_ints3 HZ.out.1.symm HZ.out.2.1.symm HZ.out.2.2.symm, rfl⟩
              · have HZ := Lib.hid (HN.out.num2 rfl hz)
                by_cases hk0 : k = 0
                · have ek : ((k : Int) == 0) = true := by rw [beq_iff_eq]; omega
                  have ej : ((k : Int) + 1 + (j : Int) == (k : Int) + 1) = false := by rw [beq_eq_false_iff_ne]; omega
                  have HK := Lib.hid hk0
                  clear hz hk0
                  go_wp2_with fail
                  rw [HN.out.beh rfl]
                  refine (refDecimals (behT s) _ (Nat.le_trans (beh_len s) hs)).mono ?_
                  rintro e w' ⟨rfl, rfl⟩
                  rw [dc_beh]
                  go_wp2_with fail
                  go_ret3
                  exact ⟨ret_ints3 HV.out rfl (by rw [HZ.out]; omega), rfl⟩
                · have ek : ((k : Int) == 0) = false := by rw [beq_eq_false_iff_ne]; omega
                  clear hz hk0
                  go_wp2_with fail
                  rw [HN.out.beh rfl]
                  refine (refDecimals (behT s) _ (Nat.le_trans (beh_len s) hs)).mono ?_
                  rintro e w' ⟨rfl, rfl⟩
                  rw [dc_beh]
                  go_wp2_with fail
                  go_ret3
                  exact ⟨ret_ints3 HV.out rfl (by rw [HZ.out]; omega), rfl⟩
end Go.Proofs.YtpnlhphpmkfckaaDoor.Ss

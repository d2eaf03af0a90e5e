import Derived.Test.YtpnlhphpmkfckaaDoorScZ0
import Derived.Test.YtpnlhphpmkfckaaDoorScX
/- The walk of ScaledKnuth. Conditions: those that each theorem names. -/
namespace Go.Proofs.YtpnlhphpmkfckaaDoor.Ss
open Go.ChangeShapes Go.WideShapes Go.ChangeAt Go.RowKit
open Me Sc
set_option linter.unusedVariables false
set_option linter.unusedSimpArgs false

set_option maxHeartbeats 1000000 in
set_option maxRecDepth 100000 in
theorem knuth_walk (n : Int) (w : World) (htab : Tab w) : Calls Tryd.prog 3 #[.int .i64 n] w fun e w' => e = .returned (.bool true) ∧ Below w.heap.size w w' := by
  have HTAB := Lib.hid htab
  clear htab
  obtain ⟨s0, s1⟩ := tmD_bd n
  have HDX := Lib.hid (ldimen n)
  obtain ⟨A, Q, p, D, hm0, hQ0, hA9, hkn⟩ := kn_of s0 s1
  generalize tmD n = s at *
  have hm : max s (-s) = (A : Int) := hm0
  have hq : (A : Int) / 65536 = Q := by omega
  have Q9 : Q ≤ 16384 := by omega
  have hd1 := hkn.d1
  have hd5 := hkn.d5
  have HK := Lib.hid hkn
  have hpa := fun w => Parse_any (prS s) w (Nat.le_trans hkn.sz (by omega))
  rw [hkn.val, hkn.err] at hpa
  have hbe := fun w => behind_any (prS s) p D w hkn.pt hkn.sz
  have HPA := Lib.hid hpa
  have HBE := Lib.hid hbe
  have HM := Lib.hid (And.intro hm0 hQ0)
  clear hkn hpa hbe hm0 hQ0
  go_enter Tryd.func3, Tryd.ntmps3
  go_wp2_with fail
  refine (HDX.out _).mono ?_
  rintro e w' ⟨rfl, rfl⟩
  go_wp2_with fail
  refine (print_any s _ HTAB.out).mono ?_
  rintro e w1 ⟨rfl, hl1⟩
  generalize prS s = tx at *
  go_wp2_with fail
  refine (HPA.out _).mono ?_
  rintro e w2 ⟨rfl, hb2⟩
  have hl2 := andThen hl1 hb2
  clear hl1 hb2
  go_wp2_with fail
  refine (HBE.out _).mono ?_
  rintro e w' ⟨rfl, rfl⟩
  go_wp2_with (go_at_call 16; refine (num_any _ _).mono ?_; rintro e w' ⟨rfl, rfl⟩)
  refine (knows_any _ (HTAB.out.below hl2)).mono ?_
  rintro e w3 ⟨rfl, hb3⟩
  have hl3 := andThen hl2 hb3
  clear hl2 hb3
  by_cases h1 : D = 1
  · go_wp2_with fail
    go_ret
    exact ⟨rfl, hl3⟩
  · obtain ⟨m, hD⟩ : ∃ m, D = m + 1 := ⟨D - 1, by omega⟩
    have hno := fun k => HK.out.no k m hD (by omega)
    have HNO := Lib.hid hno
    have HLA := Lib.hid HK.out.last
    have hm1 : 1 ≤ m := by omega
    have hm4 : m ≤ 4 := by omega
    clear hno HK HPA HBE
    subst hD
    go_wp2_with fail
    clear hq hm hd1 hd5 h1
    go_loop [9, 10] (fun a i => ∃ j : Nat, j ≤ m ∧ i = .int .i64 ((j : Int) + 1) ∧ a = .int .i64 (p10 j : Nat)) (fun _ i => m + 1 - (intOf i).toNat)
    case atStart => exact ⟨0, by omega, rfl, rfl⟩
    case round =>
      obtain ⟨j, hj, rfl, rfl⟩ := hrel
      have hs := Lib.hid (p10_succ j)
      have hle := p10_le (show j ≤ 4 by omega)
      by_cases hlt : j < m
      · generalize p10 j = T at *
        go_wp2_with fail
        go_round
        case rel => exact ⟨j + 1, by omega, by go_num, by have := hs.out; exact congrArg (Value.int .i64) (by omega)⟩
        case measure => simp [intOf]; omega
      · obtain rfl : j = m := by omega
        clear hs hlt
        generalize p10 j = T at *
        have z1 : (numT Q).size ≤ 20 := numT_size (by omega)
        have z2 : (numT (Q + 1)).size ≤ 20 := numT_size (by omega)
        go_wp2_with fail
        go_loopw [11] (fun i wr => ∃ k : Nat, k ≤ T ∧ i = .int .i64 k ∧ Below w3.heap.size w3 wr) (fun i _ => T - (intOf i).toNat)
        case atStart => exact ⟨0, by omega, rfl, Below.refl _ _⟩
        case round =>
          obtain ⟨k, hk, rfl, hb⟩ := hrel
          by_cases hlt : k < T
          · have hn := HNO.out k hlt
            have z3 : (padT k j).size ≤ 5 := padT_size (by omega) (by omega)
            go_wp2_with fail
            refine (refNumber Q _ (by omega)).mono ?_
            rintro e w4 ⟨rfl, hb4⟩
            have hb5 := andThen hb hb4
            clear hb hb4
            go_wp2_with fail
            refine (padded_any k j _ (by omega) (by omega)).mono ?_
            rintro e w6 ⟨rfl, hb6⟩
            have hb7 := andThen hb5 hb6
            clear hb5 hb6
            go_wp2_with fail
            have hp := Parse_any (numT Q ++ (⟨#[46]⟩ : ByteArray) ++ padT k j) w6 (by rw [ByteArray.size_append, ByteArray.size_append]; have : (⟨#[46]⟩ : ByteArray).size = 1 := rfl; omega)
            generalize numT Q ++ (⟨#[46]⟩ : ByteArray) ++ padT k j = q at *
            refine hp.mono ?_
            clear hp
            rintro e w8 ⟨rfl, hb8⟩
            have hb9 := andThen hb7 hb8
            clear hb7 hb8
            have hm := HM.out.1
            rcases hn with ⟨e1, e2⟩ | ⟨e1, e2, e3, e4⟩
            · rw [e1, e2]
              clear e1 e2
              go_wp2_with (go_at_call 16; refine (num_any _ _).mono ?_; rintro e w' ⟨rfl, rfl⟩)
              go_roundw
              case rel => exact ⟨k + 1, by omega, by go_num, hb9⟩
              case measure => simp [intOf]; omega
            · rw [e1]
              clear e1
              generalize paT q = X at *
              go_wp2_with (go_at_call 16; refine (num_any _ _).mono ?_; rintro e w' ⟨rfl, rfl⟩)
              go_roundw
              case rel => exact ⟨k + 1, by omega, by go_num, hb9⟩
              case measure => simp [intOf]; omega
          · have hla := HLA.out
            go_wp2_with fail
            have hl9 := andThen hl3 hb
            clear hl3 hb
            rw [show (Q : Int) + 1 = ((Q + 1 : Nat) : Int) by omega]
            refine (refNumber (Q + 1) _ (by omega)).mono ?_
            rintro e w4 ⟨rfl, hb4⟩
            have hb5 := andThen hl9 hb4
            clear hl9 hb4
            go_wp2_with fail
            have hp := Parse_any (numT (Q + 1) ++ (⟨#[46, 48]⟩ : ByteArray)) w4 (by rw [ByteArray.size_append]; have : (⟨#[46, 48]⟩ : ByteArray).size = 2 := rfl; omega)
            generalize numT (Q + 1) ++ (⟨#[46, 48]⟩ : ByteArray) = q at *
            refine hp.mono ?_
            clear hp
            rintro e w8 ⟨rfl, hb8⟩
            have hb9 := andThen hb5 hb8
            clear hb5 hb8
            have hm := HM.out.1
            rcases hla with ⟨e1, e2⟩ | ⟨e1, e2, e3, e4⟩
            · rw [e1, e2]
              clear e1 e2
              go_wp2_with (go_at_call 16; refine (num_any _ _).mono ?_; rintro e w' ⟨rfl, rfl⟩)
              go_ret
              exact ⟨by first | rfl | exact ret_bool (by simp [*]), hb9⟩
            · rw [e1]
              clear e1
              generalize paT q = X at *
              go_wp2_with (go_at_call 16; refine (num_any _ _).mono ?_; rintro e w' ⟨rfl, rfl⟩)
              go_ret
              exact ⟨by first | rfl | exact ret_bool (by simp [*]), hb9⟩
end Go.Proofs.YtpnlhphpmkfckaaDoor.Ss

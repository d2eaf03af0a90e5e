import Derived.Test.YtpnlhphpmkfckaaDoorScK0
/- Knuth's simple program, in plain Lean: what is printed behind the point is worth the fraction, and no shorter decimal is. Conditions: those that each theorem names. -/
namespace Go.Proofs.YtpnlhphpmkfckaaDoor.Sc
set_option linter.unusedVariables false

/-! ### digits as bytes -/
def val : List UInt8 → Nat
  | [] => 0
  | c :: l => (c.toNat - 48) * 10 ^ l.length + val l
theorem dig1_toNat {k : Nat} (h : k ≤ 9) : (dig1 k).toNat = 48 + k := by
  unfold dig1
  rw [UInt8.toNat_ofNat']
  omega
theorem val_map : ∀ l : List Nat, l.all (fun c => Nat.ble c 9) = true → val (l.map dig1) = valN l
  | [], _ => rfl
  | c :: l, h => by
    simp only [List.all_cons, Bool.and_eq_true] at h
    have h1 : c ≤ 9 := Nat.le_of_ble_eq_true h.1
    simp only [List.map_cons, val, valN, List.length_map, val_map l h.2, dig1_toNat h1]
    rw [show 48 + c - 48 = c by omega]
theorem all_map : ∀ l : List Nat, l.all (fun c => Nat.ble c 9) = true → (l.map dig1).all digB = true
  | [], _ => rfl
  | c :: l, h => by
    simp only [List.all_cons, Bool.and_eq_true] at h
    have h1 : c ≤ 9 := Nat.le_of_ble_eq_true h.1
    simp only [List.map_cons, List.all_cons, all_map l h.2, Bool.and_true]
    exact decide_eq_true (by rw [dig1_toNat h1]; omega)
theorem decA_val : ∀ l : List UInt8, l.all digB = true → decA l = ((131072 * val l / 10 ^ l.length : Nat) : Int)
  | [], _ => by simp [decA, val]
  | c :: l, h => by
    simp only [List.all_cons, Bool.and_eq_true] at h
    have h1 := digB_yes h.1
    have hp : 0 < 10 ^ l.length := Nat.pow_pos (by omega)
    simp only [decA, decA_val l h.2, val, List.length_cons]
    have e1 : ((131072 * val l / 10 ^ l.length : Nat) : Int) + 131072 * ((c.toNat : Int) - 48) = ((131072 * val l / 10 ^ l.length + 131072 * (c.toNat - 48) : Nat) : Int) := by
      rw [Int.natCast_add, Int.natCast_mul, Int.natCast_sub h1.1]
      rfl
    rw [e1]
    have e2 : 131072 * val l / 10 ^ l.length + 131072 * (c.toNat - 48) = (131072 * val l + 131072 * (c.toNat - 48) * 10 ^ l.length) / 10 ^ l.length := by
      rw [Nat.add_mul_div_right _ _ hp]
    rw [e2]
    have e3 : 131072 * val l + 131072 * (c.toNat - 48) * 10 ^ l.length = 131072 * ((c.toNat - 48) * 10 ^ l.length + val l) := by
      rw [Nat.mul_add, Nat.mul_assoc, Nat.add_comm]
    rw [e3]
    have e4 := Nat.div_div_eq_div_mul (131072 * ((c.toNat - 48) * 10 ^ l.length + val l)) (10 ^ l.length) 10
    rw [Nat.pow_succ, ← e4]
    rfl
theorem decs_val {l : List UInt8} (h : l.all digB = true) (hl : l.length ≤ 17) : decs l = (worN (val l) l.length : Nat) := by
  unfold decs worN
  rw [List.take_of_length_le hl, decA_val l h]
  rfl
theorem noneN_not {f m v : Nat} (h : noneN f m = true) : worN v m ≠ f := by
  have hp : 0 < 10 ^ m := Nat.pow_pos (by omega)
  have h1 := Nat.le_of_ble_eq_true h
  unfold worN
  generalize 10 ^ m = P at *
  intro e
  have e2 := Nat.div_mul_le_self (131072 * v) P
  have e3 := Nat.lt_div_mul_add (a := 131072 * v) hp
  generalize 131072 * v / P = q at *
  obtain ⟨A, hA⟩ : ∃ A, A = f * P := ⟨_, rfl⟩
  have a1 : 2 * P * f = 2 * A := by rw [hA, Nat.mul_assoc, Nat.mul_comm P f]
  have a2 : 2 * P * (f + 1) = 2 * A + 2 * P := by rw [Nat.mul_add, Nat.mul_one, a1]
  rw [a2, a1] at h1
  rcases (show q = 2 * f ∨ q + 1 = 2 * f by omega) with hq | hq
  · have a3 : q * P = 2 * A := by rw [hq, hA, Nat.mul_assoc]
    clear hA a1 a2
    omega
  · have a3 : q * P + P = 2 * A := by rw [← Nat.succ_mul, Nat.succ_eq_add_one, hq, hA, Nat.mul_assoc]
    clear hA a1 a2
    omega
/-- The digits behind the point. -/
theorem frac_ok {f : Nat} (h : f < 65536) : (frac 5 (10 * f + 5) 10).all digB = true ∧ 1 ≤ (frac 5 (10 * f + 5) 10).length ∧ (frac 5 (10 * f + 5) 10).length ≤ 5 ∧ decs (frac 5 (10 * f + 5) 10) = f ∧
    ∀ l : List UInt8, l.all digB = true → l.length + 1 = (frac 5 (10 * f + 5) 10).length → 1 ≤ l.length → decs l ≠ f := by
  have h0 := ok_frac h
  rw [frac_map]
  simp only [okN, Bool.and_eq_true] at h0
  obtain ⟨h1, h2, h3, h4, h5⟩ := h0
  have h2 := Nat.le_of_ble_eq_true h2
  have h3 := Nat.le_of_ble_eq_true h3
  have h4 := Nat.eq_of_beq_eq_true h4
  have ha := all_map _ h1
  have hl := List.length_map (f := dig1) (as := fracN 5 (10 * f + 5) 10)
  refine ⟨ha, by rw [hl]; exact h2, by rw [hl]; exact h3, ?_, ?_⟩
  · rw [decs_val ha (by rw [hl]; omega), hl, val_map _ h1, h4]
  · intro l hla hlen h1l
    rw [hl] at hlen
    rw [decs_val hla (by omega)]
    simp only [Bool.or_eq_true] at h5
    rcases h5 with h5 | h5
    · have := Nat.eq_of_beq_eq_true h5
      omega
    · have := noneN_not (v := val l) h5
      rw [show (fracN 5 (10 * f + 5) 10).length - 1 = l.length by omega] at this
      exact fun e => this (by exact_mod_cast e)
end Go.Proofs.YtpnlhphpmkfckaaDoor.Sc

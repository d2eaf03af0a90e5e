import Derived.Test.YtpnlhphpmkfckaaDoorSc
import Derived.Lib.ItoaLen
/- Texts of numbers, in plain Lean: how they are read; units, one beside the other. Conditions: those that each theorem names. -/
namespace Go.Proofs.YtpnlhphpmkfckaaDoor.Sc
set_option linter.unusedVariables false

theorem dig1_nat {k : Nat} (h : k ≤ 9) : (dig1 k).toNat = 48 + k := by
  unfold dig1
  rw [UInt8.toNat_ofNat']
  omega
theorem dig1_dig {k : Nat} (h : k ≤ 9) : digB (dig1 k) = true := decide_eq_true (by rw [dig1_nat h]; omega)
theorem dec_small {n : Nat} (h : n < 10) : Lib.decDigits n = [dig1 n] := by rw [Lib.decDigits, dif_pos h]; rfl
theorem dec_big {n : Nat} (h : ¬ n < 10) : Lib.decDigits n = Lib.decDigits (n / 10) ++ [dig1 (n % 10)] := by rw [Lib.decDigits, dif_neg h]; rfl
theorem dec_dig (n : Nat) : (Lib.decDigits n).all digB = true := by
  induction n using Nat.strongRecOn with
  | _ n ih =>
    by_cases h : n < 10
    · rw [dec_small h]
      simp [dig1_dig (show n ≤ 9 by omega)]
    · rw [dec_big h, List.all_append, ih (n / 10) (by omega)]
      simp [dig1_dig (show n % 10 ≤ 9 by omega)]
theorem dec_whl (n : Nat) (hn : n ≤ 1099511627776) : whl (Lib.decDigits n) 0 = n := by
  induction n using Nat.strongRecOn with
  | _ n ih =>
    by_cases h : n < 10
    · rw [dec_small h]
      simp only [whl, dig1_nat (show n ≤ 9 by omega)]
      omega
    · rw [dec_big h, whl_snoc, ih (n / 10) (by omega) (by omega), dig1_nat (show n % 10 ≤ 9 by omega)]
      omega
theorem dec_ne (n : Nat) : Lib.decDigits n ≠ [] := by
  by_cases h : n < 10
  · rw [dec_small h]; simp
  · rw [dec_big h]; simp
theorem dec_len20 {q : Nat} (h : q ≤ 9223372036854775807) : (Lib.decDigits q).length ≤ 20 := by
  rw [Lib.decDigits_eq, List.length_map, List.length_range]
  exact Lib.nDigits_le20 q (by omega)
/-- No digit ahead. -/
def noHead : List UInt8 → Bool
  | [] => true
  | c :: _ => !digB c
theorem run_app : ∀ {a b : List UInt8}, a.all digB = true → noHead b = true → run (a ++ b) = a ∧ rest (a ++ b) = b
  | [], b, _, hb => by
    cases b with
    | nil => exact ⟨rfl, rfl⟩
    | cons c b =>
      have hc : digB c = false := by simpa [noHead] using hb
      simp [run, rest, hc]
  | c :: a, b, ha, hb => by
    simp only [List.all_cons, Bool.and_eq_true] at ha
    have h := run_app ha.2 hb
    unfold run rest at h ⊢
    simp [ha.1, h.1, h.2]
theorem bare_dig {l : List UInt8} (h : l.all digB = true) (h0 : l ≠ []) (m : List UInt8) : bare (l ++ m) = l ++ m ∧ minusB (l ++ m) = false := by
  cases l with
  | nil => exact absurd rfl h0
  | cons c l =>
    simp only [List.all_cons, Bool.and_eq_true] at h
    have hc : c ≠ 45 := by
      rintro rfl
      have := h.1
      revert this
      decide
    simp [bare, minusB, hc]
theorem txt {W : Nat} {P u : List UInt8} (hP : P.all digB = true) (hu : noHead u = true) (hW : W ≤ 1099511627776) :
    run (Lib.decDigits W ++ 46 :: (P ++ u)) = Lib.decDigits W ∧ behind (Lib.decDigits W ++ 46 :: (P ++ u)) = P ∧ left (Lib.decDigits W ++ 46 :: (P ++ u)) = u ∧ numOk (Lib.decDigits W ++ 46 :: (P ++ u)) = true ∧
      numI (Lib.decDigits W ++ 46 :: (P ++ u)) = W ∧ numF (Lib.decDigits W ++ 46 :: (P ++ u)) = decs P := by
  have h1 := run_app (a := Lib.decDigits W) (b := 46 :: (P ++ u)) (dec_dig W) (show (!digB 46) = true by decide)
  have h2 := run_app (a := P) (b := u) hP hu
  have hp : pointB (46 :: (P ++ u)) = true := rfl
  have hb : behind (Lib.decDigits W ++ 46 :: (P ++ u)) = P := by
    unfold behind
    rw [h1.2, if_pos hp]
    exact h2.1
  refine ⟨h1.1, hb, ?_, ?_, ?_, ?_⟩
  · unfold left
    rw [h1.2, if_pos hp]
    exact h2.2
  · unfold numOk
    rw [h1.1]
    cases h : (Lib.decDigits W).isEmpty
    · rfl
    · exact absurd (List.isEmpty_iff.1 h) (dec_ne W)
  · unfold numI
    rw [h1.1, dec_whl W hW]
  · unfold numF
    rw [hb]
/-- What is read, with a minus or without. -/
theorem txt_bare {W : Nat} {P u : List UInt8} : bare (Lib.decDigits W ++ 46 :: (P ++ u)) = Lib.decDigits W ++ 46 :: (P ++ u) ∧ minusB (Lib.decDigits W ++ 46 :: (P ++ u)) = false ∧
    bare (45 :: (Lib.decDigits W ++ 46 :: (P ++ u))) = Lib.decDigits W ++ 46 :: (P ++ u) ∧ minusB (45 :: (Lib.decDigits W ++ 46 :: (P ++ u))) = true := by
  have h := bare_dig (dec_dig W) (dec_ne W) (46 :: (P ++ u))
  exact ⟨h.1, h.2, rfl, rfl⟩
theorem txt_parse {W : Nat} {P : List UInt8} (hP : P.all digB = true) (hW : W ≤ 1099511627776) :
    parV (Lib.decDigits W ++ 46 :: P) = dimV ((W : Int) * 65536 + decs P) ∧ parE (Lib.decDigits W ++ 46 :: P) = dimE ((W : Int) * 65536 + decs P) ∧
    parV (45 :: (Lib.decDigits W ++ 46 :: P)) = -(dimV ((W : Int) * 65536 + decs P)) ∧ parE (45 :: (Lib.decDigits W ++ 46 :: P)) = dimE ((W : Int) * 65536 + decs P) := by
  obtain ⟨_, _, h3, h4, h5, h6⟩ := txt (u := []) hP rfl hW
  obtain ⟨b1, b2, b3, b4⟩ := txt_bare (W := W) (P := P) (u := [])
  rw [List.append_nil] at *
  unfold parV parE
  rw [b1, b2, b3, b4, h3, h4, h5, h6]
  simp [turn]
theorem txt_dimen {W : Nat} {P u : List UInt8} {n d : Int} (hP : P.all digB = true) (hu : noHead u = true) (hW : W ≤ 2147483647) (hs : ¬ u = [115, 112]) (hn : unit u = some (n, d)) :
    diV (Lib.decDigits W ++ 46 :: (P ++ u)) = dimV (mea W (decs P) n d) ∧ diE (Lib.decDigits W ++ 46 :: (P ++ u)) = dimE (mea W (decs P) n d) ∧
    diV (45 :: (Lib.decDigits W ++ 46 :: (P ++ u))) = -(dimV (mea W (decs P) n d)) ∧ diE (45 :: (Lib.decDigits W ++ 46 :: (P ++ u))) = dimE (mea W (decs P) n d) := by
  obtain ⟨_, _, h3, h4, h5, h6⟩ := txt hP hu (show W ≤ 1099511627776 by omega)
  obtain ⟨b1, b2, b3, b4⟩ := txt_bare (W := W) (P := P) (u := u)
  have hf : ¬ (2147483647 : Int) < W := by omega
  unfold diV diE
  rw [b1, b2, b3, b4, h3, h4, h5, h6, hn]
  simp [turn, hs, hf]
/-- A number in a unit is its points by the unit, the rest let go. -/
theorem mea_floor {i f n d : Int} (hd : 1 ≤ d) : mea i f n d = n * (65536 * i + f) / d := by
  unfold mea
  have h1 := Int.mul_ediv_add_emod (i * n) d
  generalize hq : i * n / d = q at *
  generalize hr : i * n % d = r at *
  have h2 : n * (65536 * i + f) = (n * f + 65536 * r) + d * (65536 * q) := by
    have a : n * (65536 * i + f) = 65536 * (i * n) + n * f := by
      rw [Int.mul_add, ← Int.mul_assoc, Int.mul_comm n 65536, Int.mul_assoc, Int.mul_comm n i]
    have b : d * (65536 * q) = 65536 * (d * q) := by rw [← Int.mul_assoc, Int.mul_comm d 65536, Int.mul_assoc]
    omega
  rw [h2, Int.add_mul_ediv_left _ _ (show d ≠ 0 by omega)]
  generalize (n * f + 65536 * r) / d = g
  omega
theorem mea_mono {i f n d m e : Int} (h0 : 0 ≤ 65536 * i + f) (hd : 1 ≤ d) (he : 1 ≤ e) (hm : 0 ≤ m) (h : m * d ≤ n * e) : mea i f m e ≤ mea i f n d := by
  rw [mea_floor hd, mea_floor he]
  generalize 65536 * i + f = S at *
  refine (Int.le_ediv_iff_mul_le (by omega)).2 ?_
  have h1 := Int.ediv_mul_le (m * S) (show e ≠ 0 by omega)
  have h2 : 0 ≤ m * S / e := Int.ediv_nonneg (Int.mul_nonneg hm h0) (by omega)
  generalize m * S / e = q at *
  have h3 : q * e * d ≤ m * S * d := Int.mul_le_mul_of_nonneg_right h1 (by omega)
  have h4 : m * d * S ≤ n * e * S := Int.mul_le_mul_of_nonneg_right h h0
  have h5 : q * d * e ≤ n * S * e := by
    have a : q * e * d = q * d * e := by rw [Int.mul_assoc, Int.mul_comm e d, ← Int.mul_assoc]
    have b : m * S * d = m * d * S := by rw [Int.mul_assoc, Int.mul_comm S d, ← Int.mul_assoc]
    have c : n * e * S = n * S * e := by rw [Int.mul_assoc, Int.mul_comm e S, ← Int.mul_assoc]
    omega
  exact Int.le_of_mul_le_mul_right h5 (by omega)
end Go.Proofs.YtpnlhphpmkfckaaDoor.Sc

import Derived.Test.YtpnlhphpmkfckaaDoorScY1
import Derived.Test.YtpnlhphpmkfckaaDoorScK
/- The plain law of ScaledKnuth; the contract of behind. Conditions: those that each theorem names. -/
namespace Go.Proofs.YtpnlhphpmkfckaaDoor.Ss
open Go.ChangeShapes Go.WideShapes Go.ChangeAt Go.RowKit
open Me Sc
set_option linter.unusedVariables false
set_option linter.unusedSimpArgs false

/-- Where the point stands, and how many letters are behind it. -/
structure IsPt (s : ByteArray) (p d : Nat) : Prop where
  sz : s.size = p + 1 + d
  no : ∀ k (h : k < s.size), k < p → s[k].toNat ≠ 46
  yes : ∀ h : p < s.size, s[p].toNat = 46
theorem pt_of {pre P : List UInt8} (h : ∀ c ∈ pre, c.toNat ≠ 46) : IsPt (S (pre ++ 46 :: P)) pre.length P.length where
  sz := by rw [S_size, List.length_append, List.length_cons]; omega
  no := fun k hk hp => by
    have h1 := get_list _ k hk
    have h2 : (S (pre ++ 46 :: P)).data.toList[k]? = (pre ++ 46 :: P)[k]? := rfl
    rw [h2, List.getElem?_append_left hp] at h1
    exact h _ (List.mem_of_getElem? h1)
  yes := fun hk => by
    have h1 := get_list _ pre.length hk
    have h2 : (S (pre ++ 46 :: P)).data.toList[pre.length]? = (pre ++ 46 :: P)[pre.length]? := rfl
    rw [h2, List.getElem?_append_right (Nat.le_refl _), Nat.sub_self] at h1
    have h3 := Option.some.inj h1
    rw [← h3]
    rfl
set_option maxHeartbeats 1000000 in
set_option maxRecDepth 100000 in
theorem behind_any (s : ByteArray) (p d : Nat) (w : World) (h : IsPt s p d) (hs : s.size ≤ 1000) : Calls Tryd.prog 15 #[.string s] w fun e w' => e = .returned (.int .i64 d) ∧ w = w' := by
  have hsz := h.sz
  have H := Lib.hid h
  clear h
  go_enter Tryd.func15, Tryd.ntmps15
  go_wp2_with fail
  go_loop [3] (fun i => ∃ k : Nat, k ≤ p ∧ i = .int .i64 k) (fun i => p - (intOf i).toNat)
  case atStart => exact ⟨0, by omega, rfl⟩
  case round =>
    obtain ⟨k, hk, rfl⟩ := hrel
    have hks : k < s.size := by omega
    by_cases hlt : k < p
    · have hc := H.out.no k hks hlt
      go_wp2_with fail
      go_round
      case rel => exact ⟨k + 1, by omega, by go_num⟩
      case measure => simp [intOf]; omega
    · obtain rfl : k = p := by omega
      have hc := H.out.yes hks
      go_wp2_with fail
      go_ret
      exact ⟨congrArg (fun x => Ending.returned (.int .i64 x)) (by omega), rfl⟩
theorem dec_lenm : ∀ (m k : Nat), 1 ≤ m → k < 10 ^ m → (Lib.decDigits k).length ≤ m
  | 0, _, h, _ => absurd h (by omega)
  | 1, k, _, h => by rw [dec_small (by omega)]; simp
  | m + 2, k, _, h => by
    by_cases hk : k < 10
    · rw [dec_small hk]; simp
    · rw [dec_big hk, List.length_append]
      have h2 := dec_lenm (m + 1) (k / 10) (by omega) (by rw [Nat.pow_succ] at h; omega)
      simp only [List.length_cons, List.length_nil]
      omega
theorem padL_lenm {k m : Nat} (h1 : 1 ≤ m) (h : k < 10 ^ m) : (padL k m).length = m := by
  have := dec_lenm m k h1 h
  unfold padL
  simp only [List.length_append, List.length_replicate]
  omega
/-- Powers of ten. -/
def p10 (j : Nat) : Nat := 10 ^ j
theorem p10_succ (j : Nat) : p10 (j + 1) = 10 * p10 j := by unfold p10; rw [Nat.pow_succ, Nat.mul_comm]
theorem p10_le {j : Nat} (h : j ≤ 4) : p10 j ≤ 10000 := by unfold p10; exact (Nat.pow_le_pow_right (show 0 < 10 by omega) h : 10 ^ j ≤ 10 ^ 4)
/-- A text that is read as another number, or not at all. -/
def NotA (q : ByteArray) (A : Int) : Prop := (peT q = 20 ∧ paT q = 0) ∨ (peT q = 0 ∧ paT q ≠ A ∧ 0 ≤ paT q ∧ paT q ≤ 1073741823)
theorem notA_of {W : Nat} {P : List UInt8} {A : Int} (hP : P.all digB = true) (hW : W ≤ 20000) (h : (W : Int) * 65536 + decs P ≠ A) : NotA (S (Lib.decDigits W ++ 46 :: P)) A := by
  obtain ⟨h1, h2, _, _⟩ := txt_parse (W := W) hP (show W ≤ 1099511627776 by omega)
  have hn := (decs_nn hP).1
  show (parE (Lib.decDigits W ++ 46 :: P) = 20 ∧ parV (Lib.decDigits W ++ 46 :: P) = 0) ∨ (parE (Lib.decDigits W ++ 46 :: P) = 0 ∧ parV (Lib.decDigits W ++ 46 :: P) ≠ A ∧ 0 ≤ parV (Lib.decDigits W ++ 46 :: P) ∧ parV (Lib.decDigits W ++ 46 :: P) ≤ 1073741823)
  rw [h1, h2]
  cases hb : bigB ((W : Int) * 65536 + decs P)
  · right
    have h3 := bigB_no hb
    simp only [dimV, dimE, hb]
    exact ⟨rfl, h, by show 0 ≤ (W : Int) * 65536 + decs P; omega, h3.2⟩
  · left
    simp only [dimV, dimE, hb]
    exact ⟨rfl, rfl⟩
structure KN (s : Int) (tx : ByteArray) (A Q p D : Nat) : Prop where
  val : paT tx = s
  err : peT tx = 0
  pt : IsPt tx p D
  sz : tx.size ≤ 1000
  d1 : 1 ≤ D
  d5 : D ≤ 5
  no : ∀ k m, D = m + 1 → 1 ≤ m → k < p10 m → NotA (numT Q ++ (⟨#[46]⟩ : ByteArray) ++ padT k m) A
  last : NotA (numT (Q + 1) ++ (⟨#[46, 48]⟩ : ByteArray)) A
theorem txt_S (W : Nat) (P : List UInt8) : numT W ++ (⟨#[46]⟩ : ByteArray) ++ S P = S (Lib.decDigits W ++ 46 :: P) := by
  show S (Lib.decDigits W) ++ S [46] ++ S P = _
  rw [S_app, S_app]
  simp
theorem dec_no (Q : Nat) : ∀ c ∈ Lib.decDigits Q, c.toNat ≠ 46 := fun c hc => by
  have := digB_yes (List.all_eq_true.1 (dec_dig Q) c hc)
  omega
theorem kn_of {s : Int} (s0 : -1073741823 ≤ s) (s1 : s ≤ 1073741823) : ∃ A Q p D : Nat, (max s (-s) = (A : Int)) ∧ A / 65536 = Q ∧ A ≤ 1073741823 ∧ KN s (prS s) A Q p D := by
  obtain ⟨A, hA⟩ : ∃ A : Nat, A = s.natAbs := ⟨_, rfl⟩
  obtain ⟨Q, hQ⟩ : ∃ Q : Nat, Q = A / 65536 := ⟨_, rfl⟩
  obtain ⟨F, hF⟩ : ∃ F : Nat, F = A % 65536 := ⟨_, rfl⟩
  obtain ⟨f1, f2, f3, f4, f5⟩ := frac_ok (f := F) (by omega)
  obtain ⟨P, hP⟩ : ∃ P, P = frac 5 (10 * F + 5) 10 := ⟨_, rfl⟩
  rw [← hP] at f1 f2 f3 f4 f5
  have hpr : prA A = Lib.decDigits Q ++ 46 :: P := by unfold prA; rw [← hQ, ← hF, ← hP]
  have hv : (Q : Int) * 65536 + decs P = A := by rw [f4]; omega
  have hb : bigB (A : Int) = false := bigB_in (by omega) (by omega)
  obtain ⟨t1, t2, t3, t4⟩ := txt_parse (W := Q) f1 (show Q ≤ 1099511627776 by omega)
  rw [hv] at t1 t2 t3 t4
  simp only [dimV, dimE, hb] at t1 t2 t3 t4
  have t1 : parV (Lib.decDigits Q ++ 46 :: P) = A := t1
  have t2 : parE (Lib.decDigits Q ++ 46 :: P) = 0 := t2
  have t3 : parV (45 :: (Lib.decDigits Q ++ 46 :: P)) = -(A : Int) := t3
  have t4 : parE (45 :: (Lib.decDigits Q ++ 46 :: P)) = 0 := t4
  have hl := dec_len20 (q := Q) (by omega)
  have hno : ∀ k m, P.length = m + 1 → 1 ≤ m → k < p10 m → NotA (numT Q ++ (⟨#[46]⟩ : ByteArray) ++ padT k m) A := fun k m hD hm hk => by
    unfold padT
    rw [txt_S]
    refine notA_of (padL_dig k m) (by omega) ?_
    have h1 := f5 (padL k m) (padL_dig k m) (by rw [padL_lenm hm hk]; omega) (by rw [padL_lenm hm hk]; exact hm)
    omega
  have hlast : NotA (numT (Q + 1) ++ (⟨#[46, 48]⟩ : ByteArray)) A := by
    have e : numT (Q + 1) ++ (⟨#[46, 48]⟩ : ByteArray) = S (Lib.decDigits (Q + 1) ++ 46 :: [48]) := by
      show S (Lib.decDigits (Q + 1)) ++ S [46, 48] = _
      rw [S_app]
    rw [e]
    refine notA_of (by decide) (by omega) ?_
    have : decs [48] = 0 := by decide
    rw [this]
    omega
  by_cases hs : s < 0
  · obtain rfl : s = -(A : Int) := by omega
    refine ⟨A, Q, (45 :: Lib.decDigits Q).length, P.length, by omega, hQ.symm, by omega, ?_⟩
    have e : prS (-(A : Int)) = S (45 :: (Lib.decDigits Q ++ 46 :: P)) := by
      rw [prS_neg (decide_eq_false (by omega)) (by omega), hpr]
    rw [e]
    exact ⟨t3, t4, pt_of (pre := 45 :: Lib.decDigits Q) (P := P) (fun c hc => by
      rcases List.mem_cons.1 hc with rfl | hc
      · decide
      · exact dec_no Q c hc), by rw [S_size]; simp only [List.length_cons, List.length_append]; omega, f2, f3, hno, hlast⟩
  · obtain rfl : s = (A : Int) := by omega
    refine ⟨A, Q, (Lib.decDigits Q).length, P.length, by omega, hQ.symm, by omega, ?_⟩
    have e : prS (A : Int) = S (Lib.decDigits Q ++ 46 :: P) := by
      rw [prS_pos (decide_eq_false (by omega)), hpr]
    rw [e]
    exact ⟨t1, t2, pt_of (dec_no Q), by rw [S_size]; simp only [List.length_cons, List.length_append]; omega, f2, f3, hno, hlast⟩
end Go.Proofs.YtpnlhphpmkfckaaDoor.Ss

import Derived.Test.YtpnlhphpmkfckaaDoorScH
/- Contracts of the document's signed, Decimal, made, Parse. Conditions: those that each theorem names. -/
namespace Go.Proofs.YtpnlhphpmkfckaaDoor.Ss
open Go.ChangeShapes Go.WideShapes Go.ChangeAt Go.RowKit
open Me Sc
set_option linter.unusedVariables false
set_option linter.unusedSimpArgs false

theorem list_cons (s : ByteArray) (h : 0 < s.size) : ∃ l, s.data.toList = s[0] :: l := by
  have h1 := get_list s 0 h
  cases hl : s.data.toList with
  | nil => rw [hl] at h1; simp at h1
  | cons c l =>
    rw [hl] at h1
    simp at h1
    exact ⟨l, by rw [h1]⟩
theorem ret_sig {a b : ByteArray} {x y : Bool} (h : a = b) (k : x = y) : Ending.returned (.tuple #[.string a, .bool x]) = .returned (.tuple #[.string b, .bool y]) := by rw [h, k]
theorem refSigned (s : ByteArray) (w : World) (hs : s.size ≤ 140737488355328) : Calls Tryd.prog 58 #[.string s] w fun e w' => e = .returned (.tuple #[.string (bareT s), .bool (signT s)]) ∧ w = w' := by
  by_cases h0 : 0 < s.size
  · obtain ⟨l, hl⟩ := list_cons s h0
    have h1 : 1 ≤ s.size := h0
    by_cases hc : s[0] = 45
    · have hb : s.extract 1 s.size = bareT s ∧ signT s = true := by
        rw [hc] at hl
        constructor
        · rw [ext_eq, List.take_of_length_le (by rw [size_list]; exact Nat.le_refl _)]
          unfold bareT
          rw [hl]
          rfl
        · unfold signT
          rw [hl]
          rfl
      have HB := Lib.hid hb
      have he : ((s[0].toNat : Int) == 45) = true := by rw [hc]; rfl
      clear hb hl hc
      go_enter Tryd.func58, Tryd.ntmps58
      go_wp2_with fail
      go_ret2
      exact ⟨ret_sig HB.out.1 HB.out.2.symm, rfl⟩
    · have hb : bareT s = s ∧ signT s = false := by
        have e1 : bare (s[0] :: l) = s[0] :: l := by simp [bare, hc]
        have e2 : minusB (s[0] :: l) = false := by simp [minusB, hc]
        unfold bareT signT
        rw [hl, e1, e2, ← hl]
        exact ⟨S_list s, rfl⟩
      have HB := Lib.hid hb
      have he : ((s[0].toNat : Int) == 45) = false := by
        rw [beq_eq_false_iff_ne]
        intro e
        exact hc (UInt8.toNat_inj.1 (by have : (45 : UInt8).toNat = 45 := rfl; omega))
      clear hb hl hc
      go_enter Tryd.func58, Tryd.ntmps58
      go_wp2_with fail
      go_ret2
      exact ⟨ret_sig HB.out.1.symm HB.out.2.symm, rfl⟩
  · have hz : s.size = 0 := by omega
    have hl : s.data.toList = [] := List.eq_nil_of_length_eq_zero (by rw [size_list]; exact hz)
    have hb : bareT s = s ∧ signT s = false := by
      constructor
      · unfold bareT
        rw [hl]
        show S [] = s
        rw [← S_list s, hl]
      · unfold signT
        rw [hl]
        rfl
    have HB := Lib.hid hb
    have hle : (s.size : Int) ≤ 0 := by omega
    clear hb hl hz
    go_enter Tryd.func58, Tryd.ntmps58
    go_wp2_with fail
    go_ret2
    exact ⟨ret_sig HB.out.1.symm HB.out.2.symm, rfl⟩

theorem made_any (a f : Int) (m : Bool) (w : World) (a0 : 0 ≤ a) (a1 : a ≤ 70368744177664) (f0 : 0 ≤ f) (f1 : f ≤ 131072) : Calls Tryd.prog 60 #[.int .i64 a, .int .i64 f, .bool m] w fun e w' => e = .returned (.tuple #[.int .i64 (turn m (dimV (65536 * a + f))), .int .i64 (dimE (65536 * a + f))]) ∧ w = w' := by
  by_cases h : 1073741823 < 65536 * a + f
  · have hb := Lib.hid (bigB_out (.inr h))
    have hv : dimV (65536 * a + f) = 0 ∧ dimE (65536 * a + f) = 20 := by simp [dimV, dimE, hb.out]
    have HV := Lib.hid hv
    clear hv
    by_cases h1 : 1073741823 < a
    all_goals
      go_enter Tryd.func60, Tryd.ntmps60
      go_wp2_with fail
      go_ret2
      exact ⟨ret_ints (by rw [HV.out.1]; cases m <;> rfl) HV.out.2.symm, rfl⟩
  · have hb := Lib.hid (bigB_in (x := 65536 * a + f) (by omega) (by omega))
    have hv : dimV (65536 * a + f) = 65536 * a + f ∧ dimE (65536 * a + f) = 0 := by simp [dimV, dimE, hb.out]
    have HV := Lib.hid hv
    clear hv
    have h1 : a ≤ 1073741823 := by omega
    have h2 : 65536 * a + f ≤ 1073741823 := by omega
    cases m
    all_goals
      go_enter Tryd.func60, Tryd.ntmps60
      go_wp2_with fail
      go_ret2
      exact ⟨ret_ints (by rw [HV.out.1]; rfl) HV.out.2.symm, rfl⟩

/-! ### Decimal -/
/-- How many bytes a number has. -/
def nuN (s : ByteArray) : Int := if nuOk s = true then (s.size : Int) - (leftT s).size else 0
structure IsN (s : ByteArray) (n0 n1 : Nat) (p : Bool) : Prop where
  le : n0 ≤ s.size
  dig : ∀ (k : Nat) (h : k < s.size), k < n0 → 48 ≤ s[k].toNat ∧ s[k].toNat ≤ 57
  nod : ∀ (h : n0 < s.size), s[n0].toNat < 48 ∨ 57 < s[n0].toNat
  run : s.data.toList.take n0 = (runT s).data.toList
  pno : p = false → ∀ (h : n0 < s.size), ((s[n0].toNat : Int) == 46) = false
  pyes : p = true → ∃ (h : n0 < s.size), ((s[n0].toNat : Int) == 46) = true
  le1 : p = true → n0 + 1 + n1 ≤ s.size
  dig1 : p = true → ∀ (k : Nat) (h : n0 + 1 + k < s.size), k < n1 → 48 ≤ s[n0 + 1 + k].toNat ∧ s[n0 + 1 + k].toNat ≤ 57
  nod1 : p = true → ∀ (h : n0 + 1 + n1 < s.size), s[n0 + 1 + n1].toNat < 48 ∨ 57 < s[n0 + 1 + n1].toNat
  beh : p = true → s.extract (n0 + 1) (n0 + 1 + n1) = behT s
  num : p = false → nuF s = 0 ∧ nuN s = n0
  num1 : p = true → n0 = 0 → n1 = 0 → nuI s = 0 ∧ nuF s = 0 ∧ nuN s = 0
  num2 : p = true → ¬ (n0 = 0 ∧ n1 = 0) → nuN s = ((n0 + 1 + n1 : Nat) : Int)
theorem u8_46 (c : UInt8) : ((c.toNat : Int) == 46) = (c == 46) := by
  rw [Bool.eq_iff_iff, beq_iff_eq, beq_iff_eq]
  constructor
  · intro e
    exact UInt8.toNat_inj.1 (by have : (46 : UInt8).toNat = 46 := rfl; omega)
  · rintro rfl
    rfl
theorem empty_iff {l : List UInt8} : l.isEmpty = true ↔ l = [] := List.isEmpty_iff
theorem pointB_cons {c : UInt8} {l : List UInt8} (h : pointB (c :: l) = true) : c = 46 := by
  by_cases hc : c = 46
  · exact hc
  · simp [pointB, hc] at h
theorem point_cons {l : List UInt8} (hp : pointB (rest l) = true) : ndig l < l.length ∧ rest l = 46 :: l.drop (ndig l + 1) ∧ unpoint (rest l) = l.drop (ndig l + 1) := by
  have h : ndig l < l.length := by
    rcases Nat.lt_or_ge (ndig l) l.length with h | h
    · exact h
    · rw [rest_drop, List.drop_of_length_le h] at hp
      cases hp
  have h1 := List.drop_eq_getElem_cons h
  rw [rest_drop, h1] at hp
  have h2 : l[ndig l] = 46 := pointB_cons hp
  have h3 : rest l = 46 :: l.drop (ndig l + 1) := by rw [rest_drop, h1, h2]
  exact ⟨h, h3, by rw [h3]; rfl⟩
theorem isN_ex (s : ByteArray) : ∃ n0 n1 p, IsN s n0 n1 p := by
  obtain ⟨l, hl⟩ : ∃ l, l = s.data.toList := ⟨_, rfl⟩
  have hlen : l.length = s.size := by rw [hl, size_list]
  have hget : ∀ (k : Nat) (h : k < s.size), l[k]? = some s[k] := fun k h => by rw [hl]; exact get_list s k h
  have hle := ndig_le l
  refine ⟨ndig l, ndig (l.drop (ndig l + 1)), pointB (rest l), by omega, ?_, ?_, ?_, ?_, ?_, ?_, ?_, ?_, ?_, ?_, ?_, ?_⟩
  · exact fun k h hk => digB_yes (ndig_yes l k _ hk (hget k h))
  · exact fun h => digB_no (ndig_no l _ (hget _ h))
  · rw [← hl]
    show _ = run s.data.toList
    rw [← hl, run_take]
  · intro hp h
    rw [u8_46]
    rw [rest_drop, List.drop_eq_getElem_cons (by omega)] at hp
    have hg : l[ndig l] = s[ndig l] := by
      have := hget _ h
      rw [List.getElem?_eq_getElem (by omega)] at this
      injection this
    rw [hg] at hp
    cases hc : (s[ndig l] == 46)
    · rfl
    · rw [beq_iff_eq] at hc
      rw [hc] at hp
      cases hp
  · intro hp
    have h : ndig l < s.size := by
      rcases Nat.lt_or_ge (ndig l) s.size with h | h
      · exact h
      · rw [rest_drop, List.drop_of_length_le (by omega)] at hp
        cases hp
    refine ⟨h, ?_⟩
    rw [u8_46]
    rw [rest_drop, List.drop_eq_getElem_cons (by omega)] at hp
    have hg : l[ndig l] = s[ndig l] := by
      have := hget _ h
      rw [List.getElem?_eq_getElem (by omega)] at this
      injection this
    rw [hg] at hp
    cases hc : (s[ndig l] == 46)
    · rw [beq_eq_false_iff_ne] at hc
      simp [pointB, hc] at hp
    · rfl
  · intro hp
    obtain ⟨h1, h2, h3⟩ := point_cons hp
    have := ndig_le (l.drop (ndig l + 1))
    rw [List.length_drop] at this
    omega
  · intro hp k h hk
    exact digB_yes (ndig_yes (l.drop (ndig l + 1)) k _ hk (by rw [List.getElem?_drop]; exact hget _ h))
  · intro hp h
    exact digB_no (ndig_no (l.drop (ndig l + 1)) _ (by rw [List.getElem?_drop]; exact hget _ h))
  · intro hp
    obtain ⟨h1, h2, h3⟩ := point_cons hp
    rw [ext_eq, ← hl, List.drop_take]
    unfold behT behind
    rw [← hl, if_pos hp, h3, run_take]
    congr 3
    omega
  · intro hp
    have hb : behind l = [] := by unfold behind; rw [if_neg (by simp [hp])]
    have hf : left l = rest l := by unfold left; rw [if_neg (by simp [hp])]
    constructor
    · unfold nuF numF
      rw [← hl, hb]
      rfl
    · unfold nuN nuOk leftT numOk
      rw [S_size (left s.data.toList), ← hl, hb, hf, rest_drop, run_take, List.length_drop]
      by_cases h0 : ndig l = 0
      · rw [h0]
        simp
      · have : (l.take (ndig l)).isEmpty = false := by
          rw [← Bool.not_eq_true, List.isEmpty_iff]
          intro e
          have := congrArg List.length e
          rw [List.length_take] at this
          rw [List.length_nil] at this
          omega
        rw [this]
        simp
        omega
  · intro hp h0 h1
    obtain ⟨h2, h3, h4⟩ := point_cons hp
    have hr : run l = [] := by rw [run_take, h0]; rfl
    have hb : behind l = [] := by
      unfold behind
      rw [if_pos hp, h4, run_take, h1]
      rfl
    unfold nuI nuF nuN nuOk numI numF numOk
    rw [← hl, hr, hb]
    exact ⟨rfl, rfl, rfl⟩
  · intro hp hn
    obtain ⟨h2, h3, h4⟩ := point_cons hp
    have hb : behind l = (l.drop (ndig l + 1)).take (ndig (l.drop (ndig l + 1))) := by
      unfold behind
      rw [if_pos hp, h4, run_take]
    have hf : left l = (l.drop (ndig l + 1)).drop (ndig (l.drop (ndig l + 1))) := by
      unfold left
      rw [if_pos hp, h4, rest_drop]
    have hle1 := ndig_le (l.drop (ndig l + 1))
    rw [List.length_drop] at hle1
    have hok : nuOk s = true := by
      unfold nuOk numOk
      rw [← hl, hb, run_take]
      generalize ndig (l.drop (ndig l + 1)) = b at *
      by_cases ha : ndig l = 0
      · have hb0 : ¬ b = 0 := fun e => hn ⟨ha, e⟩
        have : ((l.drop (ndig l + 1)).take b).isEmpty = false := by
          rw [← Bool.not_eq_true, List.isEmpty_iff]
          intro e
          have := congrArg List.length e
          rw [List.length_take, List.length_drop] at this
          rw [List.length_nil] at this
          omega
        rw [this]
        simp
      · have : (l.take (ndig l)).isEmpty = false := by
          rw [← Bool.not_eq_true, List.isEmpty_iff]
          intro e
          have := congrArg List.length e
          rw [List.length_take] at this
          rw [List.length_nil] at this
          omega
        rw [this]
        rfl
    unfold nuN leftT
    rw [if_pos hok, S_size (left s.data.toList), ← hl, hf, List.length_drop, List.length_drop]
    omega
end Go.Proofs.YtpnlhphpmkfckaaDoor.Ss

import Derived.Test.YtpnlhphpmkfckaaDoorScY0
/- Numerals by letters, in plain Lean; the contracts of worth, and of Repeat for one letter. Conditions: those that each theorem names. -/
namespace Go.Proofs.YtpnlhphpmkfckaaDoor.Ss
open Go.ChangeShapes Go.WideShapes Go.ChangeAt Go.RowKit
open Me Sc
set_option linter.unusedVariables false
set_option linter.unusedSimpArgs false

/-- What a letter is worth. -/
def wor (v : Nat) : Int := if v = 109 then 1000 else if v = 100 then 500 else if v = 99 then 100 else if v = 108 then 50 else if v = 120 then 10 else if v = 118 then 5 else if v = 105 then 1 else 0
theorem wor_bd (v : Nat) : 0 ≤ wor v ∧ wor v ≤ 1000 := by
  unfold wor
  repeat' split
  all_goals omega
def sm : List UInt8 → Int
  | [] => 0
  | [c] => wor c.toNat
  | c :: d :: l => (if wor c.toNat < wor d.toNat then -(wor c.toNat) else wor c.toNat) + sm (d :: l)
theorem sm_m (l : List UInt8) : sm (109 :: l) = 1000 + sm l := by
  cases l with
  | nil => rfl
  | cons d l =>
    have h := (wor_bd d.toNat).2
    have e : wor (109 : UInt8).toNat = 1000 := rfl
    simp only [sm, e]
    rw [if_neg (by omega)]
theorem sm_ms (l : List UInt8) : ∀ q : Nat, sm (List.replicate q 109 ++ l) = 1000 * q + sm l
  | 0 => by simp
  | q + 1 => by
    rw [List.replicate_succ, List.cons_append, sm_m, sm_ms l q]
    omega
def low (r : Nat) : List UInt8 := plc (r / 100 % 10) 99 100 109 ++ (plc (r / 10 % 10) 120 108 99 ++ plc (r % 10) 105 118 120)
theorem low_all : (List.range 1000).all (fun r => sm (low r) == (r : Int)) = true := by decide +kernel
theorem low_sm {r : Nat} (h : r < 1000) : sm (low r) = r := by
  have := List.all_eq_true.1 low_all r (List.mem_range.2 h)
  exact eq_of_beq this
theorem sm_ro (N : Nat) : sm (roA N) = N := by
  have e : roA N = List.replicate (N / 1000) 109 ++ low (N % 1000) := by
    unfold roA low
    rw [show N % 1000 / 100 % 10 = N / 100 % 10 by omega, show N % 1000 / 10 % 10 = N / 10 % 10 by omega, show N % 1000 % 10 = N % 10 by omega]
    simp
  rw [e, sm_ms, low_sm (Nat.mod_lt _ (by omega))]
  omega
theorem plc_len {k : Nat} (a b c : UInt8) (h : k ≤ 9) : (plc k a b c).length ≤ 4 := by
  unfold plc
  repeat' split
  all_goals simp
  all_goals omega
/-- A numeral up to a place. -/
def roP (N : Nat) : Nat → List UInt8
  | 0 => List.replicate (N / 1000) 109
  | 1 => List.replicate (N / 1000) 109 ++ plc (N / 100 % 10) 99 100 109
  | 2 => List.replicate (N / 1000) 109 ++ plc (N / 100 % 10) 99 100 109 ++ plc (N / 10 % 10) 120 108 99
  | _ => roA N
theorem roP_len {N j : Nat} (h : N ≤ 20000) : (roP N j).length ≤ 32 := by
  have h1 := plc_len (k := N / 100 % 10) 99 100 109 (by omega)
  have h2 := plc_len (k := N / 10 % 10) 120 108 99 (by omega)
  have h3 := plc_len (k := N % 10) 105 118 120 (by omega)
  unfold roP
  split
  all_goals try unfold roA
  all_goals simp only [List.length_append, List.length_replicate]
  all_goals omega
theorem sm_step {l : List UInt8} {k : Nat} {c d : UInt8} (h : l[k]? = some c) (h1 : l[k + 1]? = some d) : sm (l.drop k) = (if wor c.toNat < wor d.toNat then -(wor c.toNat) else wor c.toNat) + sm (l.drop (k + 1)) := by
  obtain ⟨hk, e⟩ := List.getElem?_eq_some_iff.1 h
  obtain ⟨hk1, e1⟩ := List.getElem?_eq_some_iff.1 h1
  rw [List.drop_eq_getElem_cons hk, List.drop_eq_getElem_cons hk1, e, e1]
  rfl
theorem sm_end {l : List UInt8} {k : Nat} {c : UInt8} (h : l[k]? = some c) (h1 : l.length = k + 1) : sm (l.drop k) = wor c.toNat := by
  obtain ⟨hk, e⟩ := List.getElem?_eq_some_iff.1 h
  rw [List.drop_eq_getElem_cons hk, e, List.drop_eq_nil_of_le (by omega)]
  rfl
theorem ret_intR {a b : Int} (h : a = b) : Ending.returned (.int .i64 a) = .returned (.int .i64 b) := by rw [h]
set_option maxHeartbeats 1000000 in
theorem worth_any (v : Nat) (w : World) : Calls Tryd.prog 41 #[.int .u8 v] w fun e w' => e = .returned (.int .i64 (wor v)) ∧ w = w' := by
  by_cases h1 : v = 109
  · subst h1
    go_enter Tryd.func41, Tryd.ntmps41
    go_wp2
    go_ret
    exact ⟨rfl, rfl⟩
  by_cases h2 : v = 100
  · subst h2
    go_enter Tryd.func41, Tryd.ntmps41
    go_wp2
    go_ret
    exact ⟨rfl, rfl⟩
  by_cases h3 : v = 99
  · subst h3
    go_enter Tryd.func41, Tryd.ntmps41
    go_wp2
    go_ret
    exact ⟨rfl, rfl⟩
  by_cases h4 : v = 108
  · subst h4
    go_enter Tryd.func41, Tryd.ntmps41
    go_wp2
    go_ret
    exact ⟨rfl, rfl⟩
  by_cases h5 : v = 120
  · subst h5
    go_enter Tryd.func41, Tryd.ntmps41
    go_wp2
    go_ret
    exact ⟨rfl, rfl⟩
  by_cases h6 : v = 118
  · subst h6
    go_enter Tryd.func41, Tryd.ntmps41
    go_wp2
    go_ret
    exact ⟨rfl, rfl⟩
  by_cases h7 : v = 105
  · subst h7
    go_enter Tryd.func41, Tryd.ntmps41
    go_wp2
    go_ret
    exact ⟨rfl, rfl⟩
  · have hw : wor v = 0 := by unfold wor; simp [h1, h2, h3, h4, h5, h6, h7]
    have HW := Lib.hid hw
    clear hw
    go_enter Tryd.func41, Tryd.ntmps41
    go_wp2
    go_ret
    exact ⟨ret_intR HW.out.symm, rfl⟩
/-- So many of one letter. -/
def repT (x : UInt8) (c : Nat) : ByteArray := S (List.replicate c x)
theorem repT_size (x : UInt8) (c : Nat) : (repT x c).size = c := by unfold repT; rw [S_size, List.length_replicate]
theorem rep_any (x : UInt8) (c : Nat) (w : World) (hc : c ≤ 1000) : Calls Tryd.prog 65 #[.string ⟨#[x]⟩, .int .i64 c] w fun e w' => e = .returned (.string (repT x c)) ∧ Below w.heap.size w w' := by
  match c, hc with
  | 0, _ => exact (Tryd.strings_Repeat_zero _ w).mono fun e w' ⟨a, b⟩ => ⟨a, b ▸ Below.refl _ _⟩
  | 1, _ => exact (Tryd.strings_Repeat_one _ w).mono fun e w' ⟨a, b⟩ => ⟨a, b ▸ Below.refl _ _⟩
  | c + 2, hc =>
    have hz : (⟨#[x]⟩ : ByteArray).size = 1 := rfl
    refine (Tryd.strings_Repeat_main ⟨#[x]⟩ (c + 2) w (by omega) (by omega) (by rw [hz]; omega) (by rw [hz]; omega)).mono fun e w' ⟨a, b⟩ => ⟨a.trans ?_, b⟩
    have e1 : Lib.repeatL (⟨#[x]⟩ : ByteArray).data.toList (c + 2) = List.replicate (c + 2) x := by
      have := Lib.repeatL_replicate x 1 (c + 2)
      rw [Nat.mul_one] at this
      exact this
    rw [e1]
    rfl
end Go.Proofs.YtpnlhphpmkfckaaDoor.Ss

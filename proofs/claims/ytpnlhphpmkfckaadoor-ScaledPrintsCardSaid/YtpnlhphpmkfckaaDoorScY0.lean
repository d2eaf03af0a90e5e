import Derived.Test.YtpnlhphpmkfckaaDoorScM
import Derived.Test.YtpnlhphpmkfckaaDoorScU
import Derived.Test.YtpnlhphpmkfckaaDoorScP
/- The contract of padded: a number with so many digits. Conditions: those that each theorem names. -/
namespace Go.Proofs.YtpnlhphpmkfckaaDoor.Ss
open Go.ChangeShapes Go.WideShapes Go.ChangeAt Go.RowKit
open Me Sc
set_option linter.unusedVariables false
set_option linter.unusedSimpArgs false

def padL (k d : Nat) : List UInt8 := List.replicate (d - (Lib.decDigits k).length) 48 ++ Lib.decDigits k
def padT (k d : Nat) : ByteArray := S (padL k d)
def szOf : Value → Nat
  | .string q => q.size
  | _ => 0
theorem dec_len5 {k : Nat} (h : k ≤ 99999) : (Lib.decDigits k).length ≤ 5 := by
  rw [Lib.decDigits_eq, List.length_map, List.length_range]
  have h1 : Lib.nDigits k = Lib.nDigits k := rfl
  unfold Lib.nDigits
  repeat' split
  all_goals first | omega | skip
  unfold Lib.nDigits
  repeat' split
  all_goals first | omega | skip
  unfold Lib.nDigits
  repeat' split
  all_goals first | omega | skip
  unfold Lib.nDigits
  repeat' split
  all_goals first | omega | skip
  unfold Lib.nDigits
  repeat' split
  all_goals omega
structure PadR (k d : Nat) (q : ByteArray) : Prop where
  ex : ∃ j, q = S (List.replicate j 48 ++ Lib.decDigits k) ∧ j + (Lib.decDigits k).length ≤ max (Lib.decDigits k).length d
  sz : q.size ≤ 5
theorem PadR.first {k d : Nat} (h : k ≤ 99999) : PadR k d (numT k) where
  ex := ⟨0, rfl, by omega⟩
  sz := by
    have h1 : (numT k).size = (Lib.decDigits k).length := by
      show (Lib.decDigits k).toArray.size = _
      simp
    rw [h1]
    exact dec_len5 h
theorem PadR.step {k d : Nat} {q : ByteArray} (h : PadR k d q) (h1 : q.size < d) (hd : d ≤ 5) : PadR k d ((⟨#[48]⟩ : ByteArray) ++ q) := by
  obtain ⟨j, rfl, hj⟩ := h.ex
  rw [S_size] at h1
  simp only [List.length_append, List.length_replicate] at h1
  have e : (⟨#[48]⟩ : ByteArray) ++ S (List.replicate j 48 ++ Lib.decDigits k) = S (List.replicate (j + 1) 48 ++ Lib.decDigits k) := by
    refine (ByteArray.mk_append_mk _ _).trans ?_
    unfold S
    simp [List.replicate_succ]
  refine ⟨⟨j + 1, e, by omega⟩, ?_⟩
  rw [e, S_size]
  simp only [List.length_append, List.length_replicate]
  omega
theorem PadR.last {k d : Nat} {q : ByteArray} (h : PadR k d q) (h1 : ¬ q.size < d) : q = padT k d := by
  obtain ⟨j, rfl, hj⟩ := h.ex
  rw [S_size] at h1
  simp only [List.length_append, List.length_replicate] at h1
  unfold padT padL
  rw [show j = d - (Lib.decDigits k).length by omega]
theorem padT_size {k d : Nat} (h : k ≤ 99999) (hd : d ≤ 5) : (padT k d).size ≤ 5 := by
  unfold padT padL
  rw [S_size]
  simp only [List.length_append, List.length_replicate]
  have := dec_len5 h
  omega
theorem padL_dig (k d : Nat) : (padL k d).all digB = true := by
  unfold padL
  rw [List.all_append, dec_dig, Bool.and_true]
  refine List.all_eq_true.2 fun x hx => ?_
  obtain ⟨_, rfl⟩ := List.mem_replicate.1 hx
  decide
set_option maxHeartbeats 1000000 in
set_option maxRecDepth 100000 in
theorem padded_any (k d : Nat) (w : World) (hk : k ≤ 99999) (hd : d ≤ 5) : Calls Tryd.prog 19 #[.int .i64 k, .int .i64 d] w fun e w' => e = .returned (.string (padT k d)) ∧ Below w.heap.size w w' := by
  have HP := Lib.hid (PadR.first (d := d) hk)
  go_enter Tryd.func19, Tryd.ntmps19
  go_wp2_with fail
  refine (refNumber k _ (by omega)).mono ?_
  rintro e w1 ⟨rfl, hb⟩
  generalize numT k = q0 at HP ⊢
  go_wp2_with fail
  go_loop [5] (fun v => ∃ q : ByteArray, v = .string q ∧ PadR k d q) (fun v => d - szOf v)
  case atStart => exact ⟨q0, rfl, HP.out⟩
  case round =>
    obtain ⟨q, rfl, hq⟩ := hrel
    have hz := hq.sz
    have HQ := Lib.hid hq
    clear hq
    by_cases hlt : q.size < d
    · go_wp2_with fail
      go_round
      case rel => exact ⟨_, rfl, HQ.out.step hlt hd⟩
      case measure => simp only [szOf, ByteArray.size_append]; have : (⟨#[48]⟩ : ByteArray).size = 1 := rfl; omega
    · go_wp2_with fail
      go_ret
      exact ⟨ret_strM (HQ.out.last hlt), hb⟩
end Go.Proofs.YtpnlhphpmkfckaaDoor.Ss

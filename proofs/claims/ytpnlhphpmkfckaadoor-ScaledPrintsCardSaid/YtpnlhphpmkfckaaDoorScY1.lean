import Derived.Test.YtpnlhphpmkfckaaDoorScY0
/- The plain law of ScaledUnits. Conditions: those that each theorem names. -/
namespace Go.Proofs.YtpnlhphpmkfckaaDoor.Ss
open Me Sc
set_option linter.unusedVariables false

/-- Units in their order, the greatest first. -/
def vl : Nat → List UInt8
  | 0 => [105, 110] | 1 => [99, 109] | 2 => [99, 99] | 3 => [112, 99] | 4 => [109, 109] | 5 => [100, 100] | 6 => [98, 112] | _ => [112, 116]
def vn : Nat → Int
  | 0 => 7227 | 1 => 7227 | 2 => 14856 | 3 => 12 | 4 => 7227 | 5 => 1238 | 6 => 7227 | _ => 1
def vd : Nat → Int
  | 0 => 100 | 1 => 254 | 2 => 1157 | 3 => 1 | 4 => 2540 | 5 => 1157 | 6 => 7200 | _ => 1
theorem v_facts : ∀ k : Nat, unit (vl k) = some (vn k, vd k) ∧ noHead (vl k) = true ∧ ¬ vl k = [115, 112] ∧ 1 ≤ vd k ∧ 0 ≤ vn k ∧ (vl k).length = 2 ∧ vn (k + 1) * vd k ≤ vn k * vd (k + 1)
  | 0 | 1 | 2 | 3 | 4 | 5 | 6 => by decide
  | k + 7 => ⟨rfl, rfl, by show ¬ ([112, 116] : List UInt8) = [115, 112]; decide, by show (1 : Int) ≤ 1; decide, by show (0 : Int) ≤ 1; decide, rfl, by show (1 : Int) * 1 ≤ 1 * 1; decide⟩
/-- So many points and such a fraction, by the unit. -/
def vv (W F k : Nat) : Int := mea W (decs (padL F 5)) (vn k) (vd k)
theorem padL_len {F : Nat} (h : F ≤ 99999) : (padL F 5).length ≤ 5 := by
  have := dec_len5 h
  unfold padL
  simp only [List.length_append, List.length_replicate]
  omega
theorem decs_nn {l : List UInt8} (h : l.all digB = true) : 0 ≤ decs l ∧ decs l ≤ 65536 := by
  have h1 := decA_bd (l.take 17) (by
    refine List.all_eq_true.2 fun x hx => List.all_eq_true.1 h x (List.mem_of_mem_take hx))
  unfold decs
  omega
theorem vv_nn (W F k : Nat) : 0 ≤ vv W F k := by
  obtain ⟨_, _, _, hd, hn, _⟩ := v_facts k
  unfold vv
  rw [mea_floor hd]
  have := (decs_nn (padL_dig F 5)).1
  exact Int.ediv_nonneg (Int.mul_nonneg hn (by omega)) (by omega)
theorem vv_mono (W F k : Nat) : vv W F (k + 1) ≤ vv W F k := by
  obtain ⟨_, _, _, hd, hn, _, hm⟩ := v_facts k
  obtain ⟨_, _, _, hd1, hn1, _, _⟩ := v_facts (k + 1)
  have := (decs_nn (padL_dig F 5)).1
  exact mea_mono (by omega) hd hd1 hn1 hm
def vT (W F : Nat) : ByteArray := S (Lib.decDigits W ++ 46 :: padL F 5)
def vuT (k : Nat) : ByteArray := S (vl k)
theorem vuT_size (k : Nat) : (vuT k).size = 2 := by unfold vuT; rw [S_size]; exact (v_facts k).2.2.2.2.2.1
theorem vT_size {W F : Nat} (hW : W ≤ 20000) (hF : F ≤ 99999) : (vT W F).size ≤ 30 := by
  have h1 := dec_len20 (q := W) (by omega)
  have h2 := padL_len hF
  unfold vT
  rw [S_size, List.length_append, List.length_cons]
  omega
theorem vT_eq (W F : Nat) : numT W ++ (⟨#[46]⟩ : ByteArray) ++ padT F 5 = vT W F := by
  unfold numT padT vT S
  rw [ByteArray.mk_append_mk, ByteArray.mk_append_mk]
  simp
theorem S_app (a b : List UInt8) : S a ++ S b = S (a ++ b) := by
  unfold S
  rw [ByteArray.mk_append_mk]
/-- What Dimen says of the text with unit k, and with a minus. -/
structure VD (W F k : Nat) (tx : ByteArray) : Prop where
  v : diT (tx ++ vuT k) = dimV (vv W F k)
  e : deT (tx ++ vuT k) = dimE (vv W F k)
  nv : diT ((⟨#[45]⟩ : ByteArray) ++ tx ++ vuT k) = -(dimV (vv W F k))
  ne : deT ((⟨#[45]⟩ : ByteArray) ++ tx ++ vuT k) = dimE (vv W F k)
theorem vd_of {W F : Nat} (hW : W ≤ 20000) (k : Nat) : VD W F k (vT W F) := by
  obtain ⟨hu, hh, hs, hd, hn, _⟩ := v_facts k
  obtain ⟨h1, h2, h3, h4⟩ := txt_dimen (W := W) (padL_dig F 5) hh (show W ≤ 2147483647 by omega) hs hu
  have e1 : vT W F ++ vuT k = S (Lib.decDigits W ++ 46 :: (padL F 5 ++ vl k)) := by
    unfold vT vuT
    rw [S_app]
    simp
  have e2 : (⟨#[45]⟩ : ByteArray) ++ vT W F ++ vuT k = S (45 :: (Lib.decDigits W ++ 46 :: (padL F 5 ++ vl k))) := by
    show S [45] ++ vT W F ++ vuT k = _
    unfold vT vuT
    rw [S_app, S_app]
    simp
  refine ⟨?_, ?_, ?_, ?_⟩
  · rw [e1]; exact h1
  · rw [e1]; exact h2
  · rw [e2]; exact h3
  · rw [e2]; exact h4
theorem vp_of {W F : Nat} (hW : W ≤ 20000) : paT (vT W F) = dimV (vv W F 7) ∧ peT (vT W F) = dimE (vv W F 7) := by
  obtain ⟨h1, h2, _, _⟩ := txt_parse (W := W) (padL_dig F 5) (show W ≤ 1099511627776 by omega)
  have e : vv W F 7 = (W : Int) * 65536 + decs (padL F 5) := by
    unfold vv
    rw [mea_floor (v_facts 7).2.2.2.1]
    show (1 : Int) * (65536 * W + decs (padL F 5)) / 1 = _
    rw [Int.ediv_one, Int.one_mul, Int.mul_comm]
  rw [e]
  exact ⟨h1, h2⟩
/-- What stands before unit k. -/
def VR (W F k : Nat) (L : Int) : Prop := (k = 0 ∧ L = 1073741823) ∨ ∃ j, k = j + 1 ∧ ((vv W F j ≤ 1073741823 ∧ L = vv W F j) ∨ (1073741823 < vv W F j ∧ L = 1073741823))
theorem VR.bd {W F k : Nat} {L : Int} (h : VR W F k L) : 0 ≤ L ∧ L ≤ 1073741823 := by
  rcases h with ⟨_, h⟩ | ⟨j, _, ⟨h1, h⟩ | ⟨h1, h⟩⟩
  · omega
  · have := vv_nn W F j; omega
  · omega
theorem VR.big {W F k : Nat} {L : Int} (h : VR W F k L) (hb : bigB (vv W F k) = true) : L = 1073741823 ∧ VR W F (k + 1) L := by
  have h0 := vv_nn W F k
  have h1 : 1073741823 < vv W F k := by rcases bigB_yes hb with h | h <;> omega
  rcases h with ⟨_, h⟩ | ⟨j, rfl, ⟨h2, h⟩ | ⟨h2, h⟩⟩
  · exact ⟨h, .inr ⟨k, rfl, .inr ⟨h1, h⟩⟩⟩
  · have := vv_mono W F j; omega
  · exact ⟨h, .inr ⟨j + 1, rfl, .inr ⟨h1, h⟩⟩⟩
theorem VR.ok {W F k : Nat} {L : Int} (h : VR W F k L) (hb : bigB (vv W F k) = false) : 0 ≤ vv W F k ∧ vv W F k ≤ L ∧ vv W F k ≤ 1073741823 ∧ VR W F (k + 1) (vv W F k) := by
  have h0 := vv_nn W F k
  have h1 := (bigB_no hb).2
  refine ⟨h0, ?_, h1, .inr ⟨k, rfl, .inl ⟨h1, rfl⟩⟩⟩
  rcases h with ⟨_, h⟩ | ⟨j, rfl, ⟨h2, h⟩ | ⟨h2, h⟩⟩
  · omega
  · have := vv_mono W F j; omega
  · omega
theorem VD.yes {W F k : Nat} {tx : ByteArray} (h : VD W F k tx) (hb : bigB (vv W F k) = true) : diT (tx ++ vuT k) = 0 ∧ deT (tx ++ vuT k) = 20 ∧ diT ((⟨#[45]⟩ : ByteArray) ++ tx ++ vuT k) = 0 ∧ deT ((⟨#[45]⟩ : ByteArray) ++ tx ++ vuT k) = 20 := by
  obtain ⟨a, b, c, d⟩ := h
  rw [a, b, c, d]
  simp [dimV, dimE, hb]
theorem VD.no {W F k : Nat} {tx : ByteArray} (h : VD W F k tx) (hb : bigB (vv W F k) = false) : diT (tx ++ vuT k) = vv W F k ∧ deT (tx ++ vuT k) = 0 ∧ diT ((⟨#[45]⟩ : ByteArray) ++ tx ++ vuT k) = -(vv W F k) ∧ deT ((⟨#[45]⟩ : ByteArray) ++ tx ++ vuT k) = 0 := by
  obtain ⟨a, b, c, d⟩ := h
  rw [a, b, c, d]
  simp [dimV, dimE, hb]
end Go.Proofs.YtpnlhphpmkfckaaDoor.Ss

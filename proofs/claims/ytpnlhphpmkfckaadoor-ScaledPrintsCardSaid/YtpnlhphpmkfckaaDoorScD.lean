import Derived.Test.YtpnlhphpmkfckaaDoorScC
import Derived.Test.YtpnlhphpmkfckaaDoorShelf
/- Contracts of the reader's run, sign and number. Conditions: those that each theorem names. -/
namespace Go.Proofs.YtpnlhphpmkfckaaDoor.Ss
open Go.ChangeShapes Go.WideShapes Go.ChangeAt Go.RowKit
open Me Sc
set_option linter.unusedVariables false
set_option linter.unusedSimpArgs false

def ndig : List UInt8 → Nat
  | [] => 0
  | c :: l => if digB c = true then ndig l + 1 else 0
theorem run_take : ∀ l : List UInt8, run l = l.take (ndig l)
  | [] => rfl
  | c :: l => by
    cases h : digB c
    · simp [run, ndig, h]
    · have ih := run_take l
      unfold run at ih ⊢
      simp [ndig, h, ih]
theorem rest_drop : ∀ l : List UInt8, rest l = l.drop (ndig l)
  | [] => rfl
  | c :: l => by
    cases h : digB c
    · simp [rest, ndig, h]
    · have ih := rest_drop l
      unfold rest at ih ⊢
      simp [ndig, h, ih]
theorem ndig_le : ∀ l : List UInt8, ndig l ≤ l.length
  | [] => Nat.le_refl _
  | c :: l => by
    have ih := ndig_le l
    simp only [ndig, List.length_cons]
    split <;> omega
theorem ndig_yes : ∀ (l : List UInt8) (k : Nat) (c : UInt8), k < ndig l → l[k]? = some c → digB c = true
  | [], k, c, h, _ => by simp [ndig] at h
  | d :: l, 0, c, h, hc => by
    simp at hc
    subst hc
    simp only [ndig] at h
    split at h
    · assumption
    · omega
  | d :: l, k + 1, c, h, hc => by
    simp only [ndig] at h
    split at h
    · exact ndig_yes l k c (by omega) (by simpa using hc)
    · omega
theorem ndig_no : ∀ (l : List UInt8) (c : UInt8), l[ndig l]? = some c → digB c = false
  | [], c, h => by simp [ndig] at h
  | d :: l, c, h => by
    cases hd : digB d
    · simp [ndig, hd] at h
      rw [← h]; exact hd
    · simp only [ndig, hd, if_true] at h
      exact ndig_no l c (by simpa using h)
theorem ext_eq (s : ByteArray) (a b : Nat) : s.extract a b = S ((s.data.toList.take b).drop a) := by
  apply ByteArray.ext
  rw [ByteArray.data_extract]
  apply Array.ext'
  rw [Array.toList_extract]
  simp [List.extract, List.drop_take]
theorem ext_run (s : ByteArray) : s.extract 0 (ndig s.data.toList) = S (run s.data.toList) := by
  rw [ext_eq, run_take, List.drop_zero]
theorem ext_rest (s : ByteArray) : s.extract (ndig s.data.toList) s.size = S (rest s.data.toList) := by
  rw [ext_eq, rest_drop, List.take_of_length_le (by rw [size_list]; exact Nat.le_refl _)]
theorem ret_str {a b : ByteArray} (h : a = b) : Ending.returned (.string a) = .returned (.string b) := by rw [h]
def runT (s : ByteArray) : ByteArray := S (run s.data.toList)
def restT (s : ByteArray) : ByteArray := S (rest s.data.toList)

set_option maxHeartbeats 1000000 in
theorem run_any (b : Nat) (s : ByteArray) (w : World) (hs : s.size ≤ 140737488355328) (hc : w.cell? ⟨b, 0, none⟩ = some (.string s)) (hf : w.frozen? ⟨b, 0, none⟩ = false) :
    Calls Tryd.prog 70 #[.pointer (some ⟨b, 0, none⟩)] w fun e w' => e = .returned (.string (runT s)) ∧ w.setCell ⟨b, 0, none⟩ (.string (restT s)) = w' := by
  obtain ⟨n0, hn0⟩ : ∃ n, n = ndig s.data.toList := ⟨_, rfl⟩
  have hle : n0 ≤ s.size := by have := ndig_le s.data.toList; rw [size_list] at this; omega
  have HE := Lib.hid (show s.extract 0 n0 = runT s by rw [hn0]; exact ext_run s)
  have HF := Lib.hid (show s.extract n0 s.size = restT s by rw [hn0]; exact ext_rest s)
  have HY := Lib.hid fun (k : Nat) (h : k < s.size) (hk : k < n0) => digB_yes (ndig_yes _ k s[k] (by rw [← hn0]; exact hk) (get_list s k h))
  have HN := Lib.hid fun (h : n0 < s.size) => digB_no (ndig_no s.data.toList s[n0] (by rw [← hn0]; exact get_list s n0 h))
  clear hn0
  go_enter Tryd.func70, Tryd.ntmps70
  go_wp2_with fail
  go_loop [3] (fun i => ∃ k : Nat, k ≤ n0 ∧ i = .int .i64 k) (fun i => n0 - (intOf i).toNat)
  case atStart => exact ⟨0, by omega, rfl⟩
  case round =>
    obtain ⟨k, hk, rfl⟩ := hrel
    by_cases hlt : k < n0
    · have hks : k < s.size := by omega
      obtain ⟨d0, d1⟩ := HY.out k hks hlt
      go_wp2_with fail
      go_round
      case rel => exact ⟨k + 1, by omega, by go_num⟩
      case measure => simp [intOf]; omega
    · obtain rfl : k = n0 := by omega
      by_cases hks : k < s.size
      · rcases HN.out hks with h1 | h1
        all_goals
          go_wp2_with fail
          go_ret
          exact ⟨ret_str HE.out, by rw [HF.out]⟩
      · go_wp2_with fail
        go_ret
        exact ⟨ret_str HE.out, by rw [HF.out]⟩
/-! ### the sign -/
def signT (s : ByteArray) : Bool := minusB s.data.toList
def bareT (s : ByteArray) : ByteArray := S (bare s.data.toList)
def pointT (s : ByteArray) : Bool := pointB s.data.toList
def unpT (s : ByteArray) : ByteArray := S (unpoint s.data.toList)
theorem pre45 (l : List UInt8) : Lib.hasPrefix l [45] = minusB l ∧ Lib.trimPrefix l [45] = bare l := by
  cases l with
  | nil => exact ⟨rfl, rfl⟩
  | cons c l =>
    by_cases h : c = 45
    · subst h; exact ⟨rfl, rfl⟩
    · have h' : ¬ 45 = c := fun e => h e.symm
      simp [Lib.hasPrefix, Lib.trimPrefix, minusB, bare, List.isPrefixOf, h, h']
theorem pre46 (l : List UInt8) : Lib.hasPrefix l [46] = pointB l ∧ Lib.trimPrefix l [46] = unpoint l := by
  cases l with
  | nil => exact ⟨rfl, rfl⟩
  | cons c l =>
    by_cases h : c = 46
    · subst h; exact ⟨rfl, rfl⟩
    · have h' : ¬ 46 = c := fun e => h e.symm
      simp [Lib.hasPrefix, Lib.trimPrefix, pointB, unpoint, List.isPrefixOf, h, h']
theorem cut_minus (s : ByteArray) (w : World) : Calls Tryd.prog 69 #[.string s, .string ⟨#[45]⟩] w fun e w' => e = .returned (.tuple #[.string (bareT s), .bool (signT s)]) ∧ w = w' := by
  refine (Tryd.strings_CutPrefix s ⟨#[45]⟩ w).mono fun e w' h => ⟨?_, h.2.symm⟩
  rw [h.1]
  have h1 := pre45 s.data.toList
  show Ending.returned (.tuple #[.string ⟨(Lib.trimPrefix s.data.toList [45]).toArray⟩, .bool (Lib.hasPrefix s.data.toList [45])]) = _
  rw [h1.1, h1.2]
  rfl
theorem cut_point (s : ByteArray) (w : World) : Calls Tryd.prog 69 #[.string s, .string ⟨#[46]⟩] w fun e w' => e = .returned (.tuple #[.string (unpT s), .bool (pointT s)]) ∧ w = w' := by
  refine (Tryd.strings_CutPrefix s ⟨#[46]⟩ w).mono fun e w' h => ⟨?_, h.2.symm⟩
  rw [h.1]
  have h1 := pre46 s.data.toList
  show Ending.returned (.tuple #[.string ⟨(Lib.trimPrefix s.data.toList [46]).toArray⟩, .bool (Lib.hasPrefix s.data.toList [46])]) = _
  rw [h1.1, h1.2]
  rfl
theorem sign_any (b : Nat) (s : ByteArray) (w : World) (hc : w.cell? ⟨b, 0, none⟩ = some (.string s)) (hf : w.frozen? ⟨b, 0, none⟩ = false) :
    Calls Tryd.prog 47 #[.pointer (some ⟨b, 0, none⟩)] w fun e w' => e = .returned (.bool (signT s)) ∧ w.setCell ⟨b, 0, none⟩ (.string (bareT s)) = w' := by
  go_enter Tryd.func47, Tryd.ntmps47
  go_wp2_with (go_at_call 69; refine (cut_minus s _).mono ?_; rintro e w' ⟨rfl, rfl⟩)
  go_ret
  exact ⟨rfl, rfl⟩

def behT (s : ByteArray) : ByteArray := S (behind s.data.toList)
def leftT (s : ByteArray) : ByteArray := S (left s.data.toList)
def nuI (s : ByteArray) : Int := numI s.data.toList
def nuF (s : ByteArray) : Int := numF s.data.toList
def nuOk (s : ByteArray) : Bool := numOk s.data.toList
end Go.Proofs.YtpnlhphpmkfckaaDoor.Ss

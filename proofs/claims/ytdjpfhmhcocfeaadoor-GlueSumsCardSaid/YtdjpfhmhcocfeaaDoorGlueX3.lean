import Derived.Test.YtdjpfhmhcocfeaaDoorGlueX1
import Derived.Test.YtdjpfhmhcocfeaaDoorScR3
import Derived.Deep.RegionHeld3
/- Contracts of amount and Show, and of the document's (printed by gen_gluex3.py). Conditions: those that each theorem names. -/
namespace Go.Proofs.YtdjpfhmhcocfeaaDoor.Gl
open Go.ChangeShapes Go.WideShapes Go.ChangeAt Go.RowKit
open Me Ss
set_option linter.unusedVariables false
set_option linter.unusedSimpArgs false

/-- The unit of an order. -/
def unL (o : Int) : List UInt8 := if o = 1 then [102, 105, 108] else if o = 2 then [102, 105, 108, 108] else if o = 3 then [102, 105, 108, 108, 108] else []
def amT (t : ByteArray) (x o : Int) : ByteArray := if x = 0 then ⟨#[]⟩ else t ++ prS x ++ S (unL o)
theorem prS_size (s : Int) : (prS s).size ≤ 40 := by
  cases hf : Sc.farB s
  · obtain ⟨s0, s1⟩ := Sc.farB_no hf
    by_cases hn : s < 0
    · obtain ⟨n, rfl⟩ : ∃ n : Nat, s = -(n : Int) := ⟨s.natAbs, by omega⟩
      rw [prS_neg hf (by omega), S_size]
      have h1 := dec_len (q := n / 65536) (by omega)
      have h2 := frac_len 5 (10 * (n % 65536) + 5) 10
      unfold Sc.prA
      rw [List.length_cons, List.length_append, List.length_cons]
      omega
    · obtain ⟨n, rfl⟩ : ∃ n : Nat, s = (n : Int) := ⟨s.natAbs, by omega⟩
      rw [prS_pos hf, S_size]
      have h1 := dec_len (q := n / 65536) (by omega)
      have h2 := frac_len 5 (10 * (n % 65536) + 5) 10
      unfold Sc.prA
      rw [List.length_append, List.length_cons]
      omega
  · rw [prS_far hf]
    exact Nat.zero_le _
theorem amT_size {t : ByteArray} (x o : Int) (h : t.size ≤ 10) : (amT t x o).size ≤ 60 := by
  unfold amT
  split
  · exact Nat.zero_le _
  · rw [ByteArray.size_append, ByteArray.size_append]
    have h1 := prS_size x
    have h3 := S_size (unL o)
    have h2 : (unL o).length ≤ 5 := by
      unfold unL
      repeat' split
      all_goals decide
    omega
theorem ret_strG {a b : ByteArray} (h : a = b) : Ending.returned (.string a) = .returned (.string b) := by rw [h]
theorem am_step (t p : ByteArray) (l m : List UInt8) : t ++ p ++ S l ++ S m = t ++ p ++ S (l ++ m) := by rw [ByteArray.append_assoc, S_app l m]
set_option maxHeartbeats 2000000 in
set_option maxRecDepth 100000 in
theorem amount_any (t : ByteArray) (x o : Int) (w : World) (htab : Tab w) (ht : t.size ≤ 10) (o0 : 0 ≤ o) (o1 : o ≤ 3) : Calls Tryd.prog 25 #[.string t, .int .i64 x, .int .i64 o] w fun e w' => e = .returned (.string (amT t x o)) ∧ Below w.heap.size w w' := by
  have HTAB := Lib.hid htab
  clear htab
  by_cases hx : x = 0
  · have hx' : (x == 0) = true := by simp [hx]
    have HA := Lib.hid (show amT t x o = ⟨#[]⟩ by unfold amT; rw [if_pos hx])
    clear hx
    go_enter Tryd.func25, Tryd.ntmps25
    go_wp2_with fail
    go_ret
    exact ⟨ret_strG HA.out.symm, Below.refl _ _⟩
  · have hx' : (x == 0) = false := by simp [hx]
    have HA := Lib.hid (show amT t x o = t ++ prS x ++ S (unL o) by unfold amT; rw [if_neg hx])
    have hz := prS_size x
    clear hx
    rcases (show o = 0 ∨ o = 1 ∨ o = 2 ∨ o = 3 by omega) with rfl | rfl | rfl | rfl
    · go_enter Tryd.func25, Tryd.ntmps25
      go_wp2_with fail
      refine (print_any x _ HTAB.out).mono ?_
      rintro e w1 ⟨rfl, hl1⟩
      go_wp2_with fail
      go_ret
      exact ⟨ret_strG (by rw [HA.out]; exact (ByteArray.append_empty (b := t ++ prS x)).symm), hl1⟩
    · go_enter Tryd.func25, Tryd.ntmps25
      go_wp2_with fail
      refine (print_any x _ HTAB.out).mono ?_
      rintro e w1 ⟨rfl, hl1⟩
      go_wp2_with fail
      go_rounds 2
      go_ret
      exact ⟨ret_strG (by rw [HA.out]; exact (am_step t (prS x) [102, 105] [108])), hl1⟩
    · go_enter Tryd.func25, Tryd.ntmps25
      go_wp2_with fail
      refine (print_any x _ HTAB.out).mono ?_
      rintro e w1 ⟨rfl, hl1⟩
      go_wp2_with fail
      go_rounds 3
      go_ret
      exact ⟨ret_strG (by rw [HA.out]; exact (congrArg (· ++ S [108]) (am_step t (prS x) [102, 105] [108])).trans (am_step t (prS x) [102, 105, 108] [108])), hl1⟩
    · go_enter Tryd.func25, Tryd.ntmps25
      go_wp2_with fail
      refine (print_any x _ HTAB.out).mono ?_
      rintro e w1 ⟨rfl, hl1⟩
      go_wp2_with fail
      go_rounds 4
      go_ret
      exact ⟨ret_strG (by rw [HA.out]; exact (congrArg (· ++ S [108]) ((congrArg (· ++ S [108]) (am_step t (prS x) [102, 105] [108])).trans (am_step t (prS x) [102, 105, 108] [108]))).trans (am_step t (prS x) [102, 105, 108, 108] [108])), hl1⟩
set_option maxHeartbeats 2000000 in
set_option maxRecDepth 100000 in
theorem flex_any (t : ByteArray) (x o : Int) (w : World) (ht : t.size ≤ 10) (o0 : 0 ≤ o) (o1 : o ≤ 3) : Calls Tryd.prog 27 #[.string t, .int .i64 x, .int .i64 o] w fun e w' => e = .returned (.string (amT t x o)) ∧ Below w.heap.size w w' := by
  by_cases hx : x = 0
  · have hx' : (x == 0) = true := by simp [hx]
    have HA := Lib.hid (show amT t x o = ⟨#[]⟩ by unfold amT; rw [if_pos hx])
    clear hx
    go_enter Tryd.func27, Tryd.ntmps27
    go_wp2_with fail
    go_ret
    exact ⟨ret_strG HA.out.symm, Below.refl _ _⟩
  · have hx' : (x == 0) = false := by simp [hx]
    have HA := Lib.hid (show amT t x o = t ++ prS x ++ S (unL o) by unfold amT; rw [if_neg hx])
    have hz := prS_size x
    clear hx
    rcases (show o = 0 ∨ o = 1 ∨ o = 2 ∨ o = 3 by omega) with rfl | rfl | rfl | rfl
    · go_enter Tryd.func27, Tryd.ntmps27
      go_wp2_with fail
      refine (refPrint x _).mono ?_
      rintro e w1 ⟨rfl, hl1⟩
      go_wp2_with fail
      go_ret
      exact ⟨ret_strG (by rw [HA.out]; rfl), hl1⟩
    · go_enter Tryd.func27, Tryd.ntmps27
      go_wp2_with fail
      refine (refPrint x _).mono ?_
      rintro e w1 ⟨rfl, hl1⟩
      go_wp2_with fail
      go_ret
      exact ⟨ret_strG (by rw [HA.out]; rfl), hl1⟩
    · go_enter Tryd.func27, Tryd.ntmps27
      go_wp2_with fail
      refine (refPrint x _).mono ?_
      rintro e w1 ⟨rfl, hl1⟩
      go_wp2_with fail
      go_ret
      exact ⟨ret_strG (by rw [HA.out]; rfl), hl1⟩
    · go_enter Tryd.func27, Tryd.ntmps27
      go_wp2_with fail
      refine (refPrint x _).mono ?_
      rintro e w1 ⟨rfl, hl1⟩
      go_wp2_with fail
      go_ret
      exact ⟨ret_strG (by rw [HA.out]; rfl), hl1⟩
end Go.Proofs.YtdjpfhmhcocfeaaDoor.Gl

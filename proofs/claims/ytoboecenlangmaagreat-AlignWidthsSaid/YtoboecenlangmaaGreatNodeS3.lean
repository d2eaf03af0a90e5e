import Derived.Test.YtoboecenlangmaaGreatNodeS2
import Derived.Test.YtoboecenlangmaaGreatNx
/- Contracts of the document's Along, Across, Sum (printed by gen_nodes3.py). Conditions: those that each theorem names. -/
namespace Go.Proofs.YtoboecenlangmaaGreat.No
open Go.ChangeShapes Go.WideShapes Go.ChangeAt Go.RowKit
open Me Np
set_option linter.unusedVariables false
set_option linter.unusedSimpArgs false

theorem ralong_any (n : Nd) (hr : right n = true) (w : World) : Calls Tryz.prog 160 #[.agg (nc n)] w fun e w' => e = .returned (.int .i64 (alongP n true)) ∧ w.alloc (.cells (nc n) 101) = w' := by
  by_cases h3 : n.kind = 3 ∨ n.kind = 4 ∨ n.kind = 5
  · have hd := right_hd hr (by omega)
    unfold dm at hd
    have hw : IntKind.i64.wrap (n.ht + n.dp) = n.ht + n.dp := IntWalk.i64_in _ (by omega)
    have hv : alongP n true = n.ht + n.dp := by unfold alongP; rw [if_neg (by omega), if_neg (by omega), if_pos h3]; rfl
    have HV := Lib.hid hv
    clear hv hd hr
    rcases h3 with h | h | h
    · have e3 : (n.kind == 3) = true := by simp [h]
      clear h
      go_enter Tryz.func160, Tryz.ntmps160
      go_wp2_with fail
      go_ret
      exact ⟨ret_int (by rw [HV.out]), rfl⟩
    · have e3 : (n.kind == 3) = false := by simp [h]
      have e4 : (n.kind == 4) = true := by simp [h]
      clear h
      go_enter Tryz.func160, Tryz.ntmps160
      go_wp2_with fail
      go_ret
      exact ⟨ret_int (by rw [HV.out]), rfl⟩
    · have e3 : (n.kind == 3) = false := by simp [h]
      have e4 : (n.kind == 4) = false := by simp [h]
      have e5 : (n.kind == 5) = true := by simp [h]
      clear h
      go_enter Tryz.func160, Tryz.ntmps160
      go_wp2_with fail
      go_ret
      exact ⟨ret_int (by rw [HV.out]), rfl⟩
  · by_cases h8 : n.kind = 8
    · have HV := Lib.hid (show alongP n true = n.wd by simp [alongP, h8])
      have e3 : (n.kind == 3) = false := by simp [h8]
      have e4 : (n.kind == 4) = false := by simp [h8]
      have e5 : (n.kind == 5) = false := by simp [h8]
      have e8 : (n.kind == 8) = true := by simp [h8]
      clear h8 h3
      go_enter Tryz.func160, Tryz.ntmps160
      go_wp2_with fail
      go_ret
      exact ⟨ret_int (by rw [HV.out]), rfl⟩
    · by_cases h7 : n.kind = 7
      · have HV := Lib.hid (show alongP n true = n.gn by simp [alongP, h7])
        have e3 : (n.kind == 3) = false := by simp [h7]
        have e4 : (n.kind == 4) = false := by simp [h7]
        have e5 : (n.kind == 5) = false := by simp [h7]
        have e8 : (n.kind == 8) = false := by simp [h7]
        have e7 : (n.kind == 7) = true := by simp [h7]
        clear h8 h3 h7
        go_enter Tryz.func160, Tryz.ntmps160
        go_wp2_with fail
        go_ret
        exact ⟨ret_int (by rw [HV.out]), rfl⟩
      · have HV := Lib.hid (show alongP n true = 0 by unfold alongP; rw [if_neg h7, if_neg h8, if_neg h3]; split <;> rfl)
        have e3 : (n.kind == 3) = false := by simp; omega
        have e4 : (n.kind == 4) = false := by simp; omega
        have e5 : (n.kind == 5) = false := by simp; omega
        have e8 : (n.kind == 8) = false := by simp [h8]
        have e7 : (n.kind == 7) = false := by simp [h7]
        clear h8 h3 h7
        go_enter Tryz.func160, Tryz.ntmps160
        go_wp2_with fail
        go_ret
        exact ⟨ret_int (by rw [HV.out]), rfl⟩

theorem racross_any (n : Nd) (w : World) : Calls Tryz.prog 162 #[.agg (nc n)] w fun e w' => e = .returned (.int .i64 (alongP n false)) ∧ w.alloc (.cells (nc n) 101) = w' := by
  by_cases hk : n.kind = 1 ∨ n.kind = 2 ∨ n.kind = 3 ∨ n.kind = 4 ∨ n.kind = 5 ∨ n.kind = 8 ∨ n.kind = 15 ∨ n.kind = 16 ∨ n.kind = 7
  · rcases hk with h | h | h | h | h | h | h | h | h
    · have HV := Lib.hid (show alongP n false = n.wd by simp [alongP, h])
      have e1 : (n.kind == 1) = true := by simp [h]
      clear h
      go_enter Tryz.func162, Tryz.ntmps162
      go_wp2_with fail
      go_ret
      exact ⟨ret_int (by rw [HV.out]), rfl⟩
    · have HV := Lib.hid (show alongP n false = n.wd by simp [alongP, h])
      have e1 : (n.kind == 1) = false := by simp [h]
      have e2 : (n.kind == 2) = true := by simp [h]
      clear h
      go_enter Tryz.func162, Tryz.ntmps162
      go_wp2_with fail
      go_ret
      exact ⟨ret_int (by rw [HV.out]), rfl⟩
    · have HV := Lib.hid (show alongP n false = n.wd by simp [alongP, h])
      have e1 : (n.kind == 1) = false := by simp [h]
      have e2 : (n.kind == 2) = false := by simp [h]
      have e3 : (n.kind == 3) = true := by simp [h]
      clear h
      go_enter Tryz.func162, Tryz.ntmps162
      go_wp2_with fail
      go_ret
      exact ⟨ret_int (by rw [HV.out]), rfl⟩
    · have HV := Lib.hid (show alongP n false = n.wd by simp [alongP, h])
      have e1 : (n.kind == 1) = false := by simp [h]
      have e2 : (n.kind == 2) = false := by simp [h]
      have e3 : (n.kind == 3) = false := by simp [h]
      have e4 : (n.kind == 4) = true := by simp [h]
      clear h
      go_enter Tryz.func162, Tryz.ntmps162
      go_wp2_with fail
      go_ret
      exact ⟨ret_int (by rw [HV.out]), rfl⟩
    · have HV := Lib.hid (show alongP n false = n.wd by simp [alongP, h])
      have e1 : (n.kind == 1) = false := by simp [h]
      have e2 : (n.kind == 2) = false := by simp [h]
      have e3 : (n.kind == 3) = false := by simp [h]
      have e4 : (n.kind == 4) = false := by simp [h]
      have e5 : (n.kind == 5) = true := by simp [h]
      clear h
      go_enter Tryz.func162, Tryz.ntmps162
      go_wp2_with fail
      go_ret
      exact ⟨ret_int (by rw [HV.out]), rfl⟩
    · have HV := Lib.hid (show alongP n false = n.wd by simp [alongP, h])
      have e1 : (n.kind == 1) = false := by simp [h]
      have e2 : (n.kind == 2) = false := by simp [h]
      have e3 : (n.kind == 3) = false := by simp [h]
      have e4 : (n.kind == 4) = false := by simp [h]
      have e5 : (n.kind == 5) = false := by simp [h]
      have e8 : (n.kind == 8) = true := by simp [h]
      clear h
      go_enter Tryz.func162, Tryz.ntmps162
      go_wp2_with fail
      go_ret
      exact ⟨ret_int (by rw [HV.out]), rfl⟩
    · have HV := Lib.hid (show alongP n false = n.wd by simp [alongP, h])
      have e1 : (n.kind == 1) = false := by simp [h]
      have e2 : (n.kind == 2) = false := by simp [h]
      have e3 : (n.kind == 3) = false := by simp [h]
      have e4 : (n.kind == 4) = false := by simp [h]
      have e5 : (n.kind == 5) = false := by simp [h]
      have e8 : (n.kind == 8) = false := by simp [h]
      have e15 : (n.kind == 15) = true := by simp [h]
      clear h
      go_enter Tryz.func162, Tryz.ntmps162
      go_wp2_with fail
      go_ret
      exact ⟨ret_int (by rw [HV.out]), rfl⟩
    · have HV := Lib.hid (show alongP n false = n.wd by simp [alongP, h])
      have e1 : (n.kind == 1) = false := by simp [h]
      have e2 : (n.kind == 2) = false := by simp [h]
      have e3 : (n.kind == 3) = false := by simp [h]
      have e4 : (n.kind == 4) = false := by simp [h]
      have e5 : (n.kind == 5) = false := by simp [h]
      have e8 : (n.kind == 8) = false := by simp [h]
      have e15 : (n.kind == 15) = false := by simp [h]
      have e16 : (n.kind == 16) = true := by simp [h]
      clear h
      go_enter Tryz.func162, Tryz.ntmps162
      go_wp2_with fail
      go_ret
      exact ⟨ret_int (by rw [HV.out]), rfl⟩
    · have HV := Lib.hid (show alongP n false = n.gn by simp [alongP, h])
      have e1 : (n.kind == 1) = false := by simp [h]
      have e2 : (n.kind == 2) = false := by simp [h]
      have e3 : (n.kind == 3) = false := by simp [h]
      have e4 : (n.kind == 4) = false := by simp [h]
      have e5 : (n.kind == 5) = false := by simp [h]
      have e8 : (n.kind == 8) = false := by simp [h]
      have e15 : (n.kind == 15) = false := by simp [h]
      have e16 : (n.kind == 16) = false := by simp [h]
      have e7 : (n.kind == 7) = true := by simp [h]
      clear h
      go_enter Tryz.func162, Tryz.ntmps162
      go_wp2_with fail
      go_ret
      exact ⟨ret_int (by rw [HV.out]), rfl⟩
  · have HV := Lib.hid (show alongP n false = 0 by unfold alongP; rw [if_neg (by omega), if_neg (by omega), if_neg (by omega), if_neg (by omega)])
    have e1 : (n.kind == 1) = false := by simp; omega
    have e2 : (n.kind == 2) = false := by simp; omega
    have e3 : (n.kind == 3) = false := by simp; omega
    have e4 : (n.kind == 4) = false := by simp; omega
    have e5 : (n.kind == 5) = false := by simp; omega
    have e8 : (n.kind == 8) = false := by simp; omega
    have e15 : (n.kind == 15) = false := by simp; omega
    have e16 : (n.kind == 16) = false := by simp; omega
    have e7 : (n.kind == 7) = false := by simp; omega
    clear hk
    go_enter Tryz.func162, Tryz.ntmps162
    go_wp2_with fail
    go_ret
    exact ⟨ret_int (by rw [HV.out]), rfl⟩
end Go.Proofs.YtoboecenlangmaaGreat.No

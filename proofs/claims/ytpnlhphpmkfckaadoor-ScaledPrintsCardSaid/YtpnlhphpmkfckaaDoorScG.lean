import Derived.Test.YtpnlhphpmkfckaaDoorScF
import Derived.Laws.Rows
/- Contracts of units, and of the document's Unit. Conditions: those that each theorem names. -/
namespace Go.Proofs.YtpnlhphpmkfckaaDoor.Ss
open Go.ChangeShapes Go.WideShapes Go.ChangeAt Go.RowKit
open Me Sc
set_option linter.unusedVariables false
set_option linter.unusedSimpArgs false
@[go_sem] theorem setRow_new (w : World) (c c' : Array Value) (t : TypeId) (k : Nat) (hk : k = w.heap.size) : (w.alloc (.cells c t)).setRow k c' = w.alloc (.cells c' t) := by
  subst hk
  simp only [World.setRow, World.alloc]
  congr 1
  apply Array.ext_getElem?
  intro i
  rw [Array.getElem?_modify]
  by_cases h : w.heap.size = i
  · subst h
    simp
  · have h' : ¬ i = w.heap.size := fun e => h e.symm
    simp [h, h', Array.getElem?_push]
theorem wpList_build_eq {P : Program} {ops : Array Oper} {rest : List Oper} {o : Oper} {a : Act} {w : World} {Q : Exit → Act → World → Prop} (hg : o.guard = none) (t : TypeId) (parts : Array (Nat × Operand)) (ho : o.op = .build t parts)
    (cells : Array Value) (hf : P.built t (parts.map fun (i, x) => (i, a.eval x)).toList = some cells) (h : wpList P ops Q rest (a.put o.dst (.agg cells)) w) : wpList P ops Q (o :: rest) a w :=
  wpList_build hg t parts ho (by rw [hf]; rfl) (by rw [hf]; exact h)
/-- An operation whose run is known whole. -/
theorem wpList_ex {P : Program} {ops : Array Oper} {rest : List Oper} {o : Oper} {a : Act} {w w' : World} {v : Value} {Q : Exit → Act → World → Prop} (hgd : o.guard = none) (h : (execOp a.eval o).run P w = .ok (.value v) w')
    (k : wpList P ops Q rest (a.put o.dst v) w') : wpList P ops Q (o :: rest) a w :=
  wpList_plain hgd fun _ hK => by
    unfold Oper.wp
    rw [h]
    exact hK _ _ k
theorem below_setRow {B : Nat} {a w : World} (h : Below B a w) (g : Nat) (c : Array Value) (hg : B ≤ g) : Below B a (w.setRow g c) :=
  ⟨h.os, h.tape, h.output, by rw [size_setRow]; exact h.size, fun k hk => (setRow_other w g k c (by omega)).trans (h.block k hk)⟩
theorem _root_.Go.Proofs.YtpnlhphpmkfckaaDoor.Me.Blk.row {w : World} {g : Nat} {t : TypeId} {c : Array Value} (h : Blk w g t c) (c' : Array Value) : Blk (w.setRow g c') g t c' := setRow_heap w g c c' t (0, 0) h
def uAll : Array Value := #[.string ⟨#[112, 116]⟩, .int .i64 1, .int .i64 1, .string ⟨#[105, 110]⟩, .int .i64 7227, .int .i64 100, .string ⟨#[112, 99]⟩, .int .i64 12, .int .i64 1, .string ⟨#[99, 109]⟩, .int .i64 7227, .int .i64 254,
  .string ⟨#[109, 109]⟩, .int .i64 7227, .int .i64 2540, .string ⟨#[98, 112]⟩, .int .i64 7227, .int .i64 7200, .string ⟨#[100, 100]⟩, .int .i64 1238, .int .i64 1157, .string ⟨#[99, 99]⟩, .int .i64 14856, .int .i64 1157]
def uZero : Array Value := #[.string ⟨#[]⟩, .int .i64 0, .int .i64 0, .string ⟨#[]⟩, .int .i64 0, .int .i64 0, .string ⟨#[]⟩, .int .i64 0, .int .i64 0, .string ⟨#[]⟩, .int .i64 0, .int .i64 0, .string ⟨#[]⟩, .int .i64 0, .int .i64 0, .string ⟨#[]⟩, .int .i64 0, .int .i64 0, .string ⟨#[]⟩, .int .i64 0, .int .i64 0, .string ⟨#[]⟩, .int .i64 0, .int .i64 0]
def uL : Nat → List UInt8
  | 0 => [112, 116]
  | 1 => [105, 110]
  | 2 => [112, 99]
  | 3 => [99, 109]
  | 4 => [109, 109]
  | 5 => [98, 112]
  | 6 => [100, 100]
  | _ => [99, 99]
def uT (k : Nat) : ByteArray := S (uL k)
def uN : Nat → Int
  | 0 => 1
  | 1 => 7227
  | 2 => 12
  | 3 => 7227
  | 4 => 7227
  | 5 => 7227
  | 6 => 1238
  | _ => 14856
def uD : Nat → Int
  | 0 => 1
  | 1 => 100
  | 2 => 1
  | 3 => 254
  | 4 => 2540
  | 5 => 7200
  | _ => 1157
theorem u_index (k : Nat) (h : k < 8) (w : World) : (Instr.index 88 (.agg uAll) (.int .i64 (k : Int))).run Tryd.prog w = .ok (.agg #[.string (uT k), .int .i64 (uN k), .int .i64 (uD k)]) w := by
  rcases (show k = 0 ∨ k = 1 ∨ k = 2 ∨ k = 3 ∨ k = 4 ∨ k = 5 ∨ k = 6 ∨ k = 7 by omega) with rfl | rfl | rfl | rfl | rfl | rfl | rfl | rfl
  · kernel_rfl
  · kernel_rfl
  · kernel_rfl
  · kernel_rfl
  · kernel_rfl
  · kernel_rfl
  · kernel_rfl
  · kernel_rfl
theorem u_info : (Tryd.prog.info? 88).map (·.size) = some uAll.size := by kernel_rfl
theorem u_one : uAll.all (·.oneCell') = true := by kernel_rfl
def uVN (m : Nat) : Int := if m < 8 then uN m else 0
def uVD (m : Nat) : Int := if m < 8 then uD m else 0
def uB (m : Nat) : Bool := decide (m < 8)
/-- The place of a unit: 8: there is none. -/
structure IsU (s : ByteArray) (m : Nat) : Prop where
  le : m ≤ 8
  no : ∀ k, k < m → ((uT k).toList == s.toList) = false
  yes : m < 8 → ((uT m).toList == s.toList) = true
theorem isU_ex (s : ByteArray) : ∃ m, IsU s m := by
  have go : ∀ j, j ≤ 8 → (∀ k, k < j → ((uT k).toList == s.toList) = false) ∨ ∃ m, IsU s m := by
    intro j
    induction j with
    | zero => exact fun _ => .inl (fun k h => by omega)
    | succ j ih =>
      intro hj
      rcases ih (by omega) with h | h
      · cases e : ((uT j).toList == s.toList)
        · refine .inl (fun k hk => ?_)
          rcases Nat.lt_or_ge k j with h1 | h1
          · exact h k h1
          · obtain rfl : k = j := by omega
            exact e
        · exact .inr ⟨j, by omega, h, fun _ => e⟩
      · exact .inr h
  rcases go 8 (Nat.le_refl _) with h | h
  · exact ⟨8, Nat.le_refl _, h, fun h => by omega⟩
  · exact h
theorem u_eq {s : ByteArray} {k : Nat} : ((uT k).toList == s.toList) = true ↔ s.data.toList = uL k := by
  rw [beq_iff_eq, ByteArray.toList_eq, ByteArray.toList_eq]
  exact ⟨fun h => h.symm, fun h => h.symm⟩
theorem isU_unit {s : ByteArray} {m : Nat} (h : IsU s m) : unit s.data.toList = if m < 8 then some (uN m, uD m) else none := by
  have hn : ∀ k, k < m → ¬ s.data.toList = uL k := fun k hk e => by
    have h1 := h.no k hk
    rw [u_eq.2 e] at h1
    cases h1
  by_cases h8 : m < 8
  · have he := u_eq.1 (h.yes h8)
    rw [if_pos h8, he]
    match m, h8 with
    | 0, _ => rfl
    | 1, _ => rfl
    | 2, _ => rfl
    | 3, _ => rfl
    | 4, _ => rfl
    | 5, _ => rfl
    | 6, _ => rfl
    | 7, _ => rfl
  · obtain rfl : m = 8 := by have := h.le; omega
    have a := hn 0 (by omega); have b := hn 1 (by omega); have c := hn 2 (by omega); have d := hn 3 (by omega)
    have e := hn 4 (by omega); have f := hn 5 (by omega); have g := hn 6 (by omega); have i := hn 7 (by omega)
    unfold unit
    simp only [uL] at a b c d e f g i
    simp only [a, b, c, d, e, f, g, i, if_false]
    rfl
set_option maxHeartbeats 1000000 in
set_option maxRecDepth 100000 in
theorem units_any (s : ByteArray) (m : Nat) (w : World) (hm : IsU s m) : Calls Tryd.prog 54 #[.string s] w fun e w' => e = .returned (.tuple #[.int .i64 (uVN m), .int .i64 (uVD m), .bool (uB m)]) ∧ Below w.heap.size w w' := by
  have HM := Lib.hid hm
  clear hm
  go_enter Tryd.func54, Tryd.ntmps54
  go_wp2_with (first
    | (refine wpList_build_eq (o := ⟨some 16, _, _, _, _, _⟩) rfl _ _ rfl uAll (by kernel_rfl) ?_)
    | (refine wpList_ex (o := ⟨some 5, _, _, _, _, _⟩) (v := .pointer (some ⟨w.heap.size, 0, none⟩)) (w' := w.alloc (.cells uZero 88)) rfl (by kernel_rfl) ?_)
    | (refine wpList_store_row (o := ⟨none, .store 88 (.tmp 5) _, _, _, _, _⟩) rfl 88 _ _ rfl w.heap.size uAll rfl rfl 88 uZero (Blk.new' rfl) u_info rfl u_one ?_; generalize hW : World.setRow _ _ _ = W; have hB : Blk W w.heap.size 88 uAll := (by rw [← hW]; exact Blk.row (Blk.new' rfl) _); have hWb : Below w.heap.size w W := (by rw [← hW]; exact below_setRow (andAlloc (Below.refl _ _) _) _ _ (Nat.le_refl _)); clear hW)
    | (refine wpList_load_row (o := ⟨some 17, _, _, _, _, _⟩) rfl 88 _ rfl w.heap.size rfl 88 uAll (0, 0) _ hB Tryd.underlying88 rfl u_info ?_))
  go_loopw [18] (fun i wr => ∃ k : Nat, k ≤ m ∧ i = .int .i64 k ∧ Below w.heap.size w wr) (fun i _ => m - (intOf i).toNat)
  case atStart => exact ⟨0, by omega, rfl, hWb⟩
  case round =>
    obtain ⟨k, hk, rfl, hb⟩ := hrel
    have hm8 := HM.out.le
    by_cases h8 : k < 8
    · have hix := u_index k h8 wr
      by_cases hlt : k < m
      · have he := HM.out.no k hlt
        go_wp2_with fail
        go_roundw
        case rel => exact ⟨k + 1, by omega, by go_num, andAlloc hb _⟩
        case measure => simp [intOf]; omega
      · obtain rfl : k = m := by omega
        have he := HM.out.yes h8
        go_wp2_with fail
        go_quiet (fail)
        go_wp2
        go_ret3
        exact ⟨ret_num (by simp [uVN, h8]) (by simp [uVD, h8]) (by simp [uB, h8]), by repeat (first | exact hb | apply below_drewN | apply andAlloc)⟩
    · have h9 : ¬ m < 8 := by omega
      go_wp2_with fail
      go_ret3
      exact ⟨ret_num (by simp [uVN, h9]) (by simp [uVD, h9]) (by simp [uB, h9]), hb⟩
theorem refUnit (s : ByteArray) (m : Nat) (w : World) (hm : IsU s m) : Calls Tryd.prog 71 #[.string s] w fun e w' => e = .returned (.tuple #[.int .i64 (uVN m), .int .i64 (uVD m), .bool (uB m)]) ∧ w = w' := by
  by_cases h8 : m < 8
  · have hs : s = uT m := by
      have h := u_eq.1 (hm.yes h8)
      rw [← S_list s, h]
      rfl
    clear hm
    rcases (show m = 0 ∨ m = 1 ∨ m = 2 ∨ m = 3 ∨ m = 4 ∨ m = 5 ∨ m = 6 ∨ m = 7 by omega) with rfl | rfl | rfl | rfl | rfl | rfl | rfl | rfl
    all_goals
      subst hs
      clear h8
      simp only [uT, uL, S]
      go_enter Tryd.func71, Tryd.ntmps71
      go_wp2_with fail
      go_ret3
      exact ⟨ret_num rfl rfl rfl, rfl⟩
  · obtain rfl : m = 8 := by have := hm.le; omega
    have hn : ∀ k, k < 8 → ¬ s.toList = uL k := fun k hk e => by
      have h1 := hm.no k hk
      rw [u_eq.2 (by rw [← e, ByteArray.toList_eq])] at h1
      cases h1
    have e0 : (s.toList == [112, 116]) = false := by rw [beq_eq_false_iff_ne]; exact hn 0 (by omega)
    have e1 : (s.toList == [105, 110]) = false := by rw [beq_eq_false_iff_ne]; exact hn 1 (by omega)
    have e2 : (s.toList == [112, 99]) = false := by rw [beq_eq_false_iff_ne]; exact hn 2 (by omega)
    have e3 : (s.toList == [99, 109]) = false := by rw [beq_eq_false_iff_ne]; exact hn 3 (by omega)
    have e4 : (s.toList == [109, 109]) = false := by rw [beq_eq_false_iff_ne]; exact hn 4 (by omega)
    have e5 : (s.toList == [98, 112]) = false := by rw [beq_eq_false_iff_ne]; exact hn 5 (by omega)
    have e6 : (s.toList == [100, 100]) = false := by rw [beq_eq_false_iff_ne]; exact hn 6 (by omega)
    have e7 : (s.toList == [99, 99]) = false := by rw [beq_eq_false_iff_ne]; exact hn 7 (by omega)
    clear hn hm
    go_enter Tryd.func71, Tryd.ntmps71
    go_wp2_with fail
    go_ret3
    exact ⟨ret_num rfl rfl rfl, rfl⟩
end Go.Proofs.YtpnlhphpmkfckaaDoor.Ss

import Derived.Test.YtoboecenlangmaaGreatNodeR
import Derived.Laws.EntriesVeiled
/- The table of kinds: what the function kinds hands back (printed by gen_nodek.py). No conditions. -/
namespace Go.Proofs.YtoboecenlangmaaGreat.No
open Go.ChangeShapes Go.WideShapes Go.ChangeAt Go.RowKit
open Me Np
set_option linter.unusedVariables false
/-- The four cells of a kind, by its number; q: where the function that takes a character's fields away lies. -/
def kcell (q : Nat) : Nat → Array Value
  | 1 => #[.string ⟨#[]⟩, .bool false, .func (.func 132) #[] #[], .func (.func 125) #[] #[]]
  | 2 => #[.string ⟨#[]⟩, .bool false, .func (.func 133) #[] #[], .func (.func 126) #[] #[.pointer (some ⟨q, 0, none⟩)]]
  | 3 => #[.string ⟨#[114, 117, 108, 101]⟩, .bool false, .func (.func 135) #[] #[], .func (.func 136) #[] #[]]
  | 4 => #[.string ⟨#[104, 98, 111, 120]⟩, .bool true, .func (.func 137) #[] #[], .func (.func 127) #[] #[]]
  | 5 => #[.string ⟨#[118, 98, 111, 120]⟩, .bool true, .func (.func 137) #[] #[], .func (.func 127) #[] #[]]
  | 6 => #[.string ⟨#[]⟩, .bool false, .func (.func 138) #[] #[], .func (.func 139) #[] #[]]
  | 7 => #[.string ⟨#[103, 108, 117, 101]⟩, .bool false, .func (.func 140) #[] #[], .func (.func 141) #[] #[]]
  | 8 => #[.string ⟨#[107, 101, 114, 110]⟩, .bool false, .func (.func 142) #[] #[], .func (.func 143) #[] #[]]
  | 9 => #[.string ⟨#[112, 101, 110, 97, 108, 116, 121]⟩, .bool false, .func (.func 144) #[] #[], .func (.func 145) #[] #[]]
  | 10 => #[.string ⟨#[100, 105, 115, 99, 114, 101, 116, 105, 111, 110, 97, 114, 121]⟩, .bool true, .func (.func 138) #[] #[], .func (.func 139) #[] #[]]
  | 11 => #[.string ⟨#[]⟩, .bool false, .func (.func 138) #[] #[], .func (.func 139) #[] #[]]
  | 12 => #[.string ⟨#[109, 97, 114, 107]⟩, .bool false, .func (.func 130) #[] #[], .func (.func 129) #[] #[]]
  | 13 => #[.string ⟨#[105, 110, 115, 101, 114, 116]⟩, .bool true, .func (.func 146) #[] #[], .func (.func 147) #[] #[]]
  | 14 => #[.string ⟨#[115, 112, 101, 99, 105, 97, 108]⟩, .bool false, .func (.func 130) #[] #[], .func (.func 129) #[] #[]]
  | 15 => #[.string ⟨#[109, 97, 116, 104, 111, 110]⟩, .bool false, .func (.func 131) #[] #[], .func (.func 128) #[] #[]]
  | 16 => #[.string ⟨#[109, 97, 116, 104, 111, 102, 102]⟩, .bool false, .func (.func 131) #[] #[], .func (.func 128) #[] #[]]
  | 17 => #[.string ⟨#[97, 100, 106, 117, 115, 116]⟩, .bool true, .func (.func 138) #[] #[], .func (.func 139) #[] #[]]
  | _ => #[.string ⟨#[]⟩, .bool false, .nilFunc, .nilFunc]
def ktab (q : Nat) : Array Value := #[.string ⟨#[]⟩, .bool false, .nilFunc, .nilFunc, .string ⟨#[]⟩, .bool false, .func (.func 132) #[] #[], .func (.func 125) #[] #[], .string ⟨#[]⟩, .bool false, .func (.func 133) #[] #[], .func (.func 126) #[] #[.pointer (some ⟨q, 0, none⟩)], .string ⟨#[114, 117, 108, 101]⟩, .bool false, .func (.func 135) #[] #[], .func (.func 136) #[] #[], .string ⟨#[104, 98, 111, 120]⟩, .bool true, .func (.func 137) #[] #[], .func (.func 127) #[] #[], .string ⟨#[118, 98, 111, 120]⟩, .bool true, .func (.func 137) #[] #[], .func (.func 127) #[] #[], .string ⟨#[]⟩, .bool false, .func (.func 138) #[] #[], .func (.func 139) #[] #[], .string ⟨#[103, 108, 117, 101]⟩, .bool false, .func (.func 140) #[] #[], .func (.func 141) #[] #[], .string ⟨#[107, 101, 114, 110]⟩, .bool false, .func (.func 142) #[] #[], .func (.func 143) #[] #[], .string ⟨#[112, 101, 110, 97, 108, 116, 121]⟩, .bool false, .func (.func 144) #[] #[], .func (.func 145) #[] #[], .string ⟨#[100, 105, 115, 99, 114, 101, 116, 105, 111, 110, 97, 114, 121]⟩, .bool true, .func (.func 138) #[] #[], .func (.func 139) #[] #[], .string ⟨#[]⟩, .bool false, .func (.func 138) #[] #[], .func (.func 139) #[] #[], .string ⟨#[109, 97, 114, 107]⟩, .bool false, .func (.func 130) #[] #[], .func (.func 129) #[] #[], .string ⟨#[105, 110, 115, 101, 114, 116]⟩, .bool true, .func (.func 146) #[] #[], .func (.func 147) #[] #[], .string ⟨#[115, 112, 101, 99, 105, 97, 108]⟩, .bool false, .func (.func 130) #[] #[], .func (.func 129) #[] #[], .string ⟨#[109, 97, 116, 104, 111, 110]⟩, .bool false, .func (.func 131) #[] #[], .func (.func 128) #[] #[], .string ⟨#[109, 97, 116, 104, 111, 102, 102]⟩, .bool false, .func (.func 131) #[] #[], .func (.func 128) #[] #[], .string ⟨#[97, 100, 106, 117, 115, 116]⟩, .bool true, .func (.func 138) #[] #[], .func (.func 139) #[] #[]]
theorem ktab_size (q : Nat) : (ktab q).size = 72 := by kernel_rfl
theorem zero_size : Tryz.zeroCells168.size = 72 := by kernel_rfl
theorem kinds_info : (Tryz.prog.info? 168).map (·.size) = some 72 := by kernel_rfl
theorem ktab_one (q : Nat) : (ktab q).all (·.oneCell') = true := by kernel_rfl
theorem wpList_build_eq {P : Program} {ops : Array Oper} {rest : List Oper} {o : Oper} {a : Act} {w : World} {Q : Exit → Act → World → Prop} (hg : o.guard = none) (t : TypeId) (parts : Array (Nat × Operand)) (ho : o.op = .build t parts)
    (cells : Array Value) (hf : P.built t (parts.map fun (i, x) => (i, a.eval x)).toList = some cells) (h : wpList P ops Q rest (a.put o.dst (.agg cells)) w) : wpList P ops Q (o :: rest) a w :=
  wpList_build hg t parts ho (by rw [hf]; rfl) (by rw [hf]; exact h)
set_option maxHeartbeats 400000 in
set_option maxRecDepth 100000 in
theorem kinds_any (w : World) :
    Calls Tryz.prog 76 #[] w fun e w' => e = .returned (.agg (ktab (w.heap.size + 1))) ∧ w'.cell? ⟨w.heap.size + 1, 0, none⟩ = some (.func (.func 125) #[] #[]) ∧ w'.heap.size = w.heap.size + 2 ∧ Below w.heap.size w w' := by
  go_enter Tryz.func76, Tryz.ntmps76
  iterate 160 (first | go_values | go_skip | go_guarded | go_step | go_upon)
  (refine wpList_build_eq (o := ⟨some 38, .build 168 _, _, _, _, _⟩) rfl _ _ rfl (ktab (w.heap.size + 1)) (by kernel_rfl) ?_)
  (refine wpList_store_row (o := ⟨none, .store 168 (.tmp 0) (.tmp 38), _, _, _, _⟩) rfl 168 _ _ rfl w.heap.size (ktab (w.heap.size + 1)) rfl rfl 168 Tryz.zeroCells168 (Blk.alloc (Blk.new' rfl) _) (by rw [ktab_size]; exact kinds_info) (by rw [ktab_size]; exact zero_size) (ktab_one _) ?_)
  go_wp2_with fail
  have hB : Blk (((w.alloc (.cells Tryz.zeroCells168 168)).alloc (.cells #[.func (.func 125) #[] #[]] 165)).setRow w.heap.size (ktab (w.heap.size + 1))) w.heap.size 168 (ktab (w.heap.size + 1)) := Blk.row (Blk.alloc (Blk.new' rfl) _) _
  refine bodyPost_ret (v := .agg (ktab (w.heap.size + 1))) (results_cell_row rfl _ _ w.heap.size 168 (ktab (w.heap.size + 1)) (0, 0) _ rfl hB Tryz.underlying168 rfl (by rw [ktab_size]; exact kinds_info)) rfl ⟨rfl, ?_, ?_, ?_⟩
  · rw [cell_setRow_other _ _ _ _ (by simp)]
    simp [go_sem]
  · rw [size_setRow]
    simp
  · exact below_setRow (andAlloc (andAlloc (Below.refl _ _) _) _) _ _ (Nat.le_refl _)
end Go.Proofs.YtoboecenlangmaaGreat.No

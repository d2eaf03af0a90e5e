import Derived.Test.YtmcekdjhkjhcdaaGreatDoorNodeR
import Derived.Laws.EntriesVeiled
/- The table of kinds: what the function kinds hands back (printed by gen_nodek.py). No conditions. -/
namespace Go.Proofs.YtmcekdjhkjhcdaaGreatDoor.No
open Go.ChangeShapes Go.WideShapes Go.ChangeAt Go.RowKit
open Me Np
set_option linter.unusedVariables false
/-- The four cells of a kind, by its number; q: where the function that takes a character's fields away lies. -/
def kcell (q : Nat) : Nat → Array Value
  | 1 => #[.string ⟨#[]⟩, .bool false, .func (.func 45) #[] #[], .func (.func 38) #[] #[]]
  | 2 => #[.string ⟨#[]⟩, .bool false, .func (.func 46) #[] #[], .func (.func 39) #[] #[.pointer (some ⟨q, 0, none⟩)]]
  | 3 => #[.string ⟨#[114, 117, 108, 101]⟩, .bool false, .func (.func 48) #[] #[], .func (.func 49) #[] #[]]
  | 4 => #[.string ⟨#[104, 98, 111, 120]⟩, .bool true, .func (.func 50) #[] #[], .func (.func 40) #[] #[]]
  | 5 => #[.string ⟨#[118, 98, 111, 120]⟩, .bool true, .func (.func 50) #[] #[], .func (.func 40) #[] #[]]
  | 6 => #[.string ⟨#[]⟩, .bool false, .func (.func 51) #[] #[], .func (.func 52) #[] #[]]
  | 7 => #[.string ⟨#[103, 108, 117, 101]⟩, .bool false, .func (.func 53) #[] #[], .func (.func 55) #[] #[]]
  | 8 => #[.string ⟨#[107, 101, 114, 110]⟩, .bool false, .func (.func 56) #[] #[], .func (.func 57) #[] #[]]
  | 9 => #[.string ⟨#[112, 101, 110, 97, 108, 116, 121]⟩, .bool false, .func (.func 58) #[] #[], .func (.func 59) #[] #[]]
  | 10 => #[.string ⟨#[100, 105, 115, 99, 114, 101, 116, 105, 111, 110, 97, 114, 121]⟩, .bool true, .func (.func 51) #[] #[], .func (.func 52) #[] #[]]
  | 11 => #[.string ⟨#[]⟩, .bool false, .func (.func 51) #[] #[], .func (.func 52) #[] #[]]
  | 12 => #[.string ⟨#[109, 97, 114, 107]⟩, .bool false, .func (.func 43) #[] #[], .func (.func 42) #[] #[]]
  | 13 => #[.string ⟨#[105, 110, 115, 101, 114, 116]⟩, .bool true, .func (.func 60) #[] #[], .func (.func 61) #[] #[]]
  | 14 => #[.string ⟨#[115, 112, 101, 99, 105, 97, 108]⟩, .bool false, .func (.func 43) #[] #[], .func (.func 42) #[] #[]]
  | 15 => #[.string ⟨#[109, 97, 116, 104, 111, 110]⟩, .bool false, .func (.func 44) #[] #[], .func (.func 41) #[] #[]]
  | 16 => #[.string ⟨#[109, 97, 116, 104, 111, 102, 102]⟩, .bool false, .func (.func 44) #[] #[], .func (.func 41) #[] #[]]
  | 17 => #[.string ⟨#[97, 100, 106, 117, 115, 116]⟩, .bool true, .func (.func 51) #[] #[], .func (.func 52) #[] #[]]
  | _ => #[.string ⟨#[]⟩, .bool false, .nilFunc, .nilFunc]
def ktab (q : Nat) : Array Value := #[.string ⟨#[]⟩, .bool false, .nilFunc, .nilFunc, .string ⟨#[]⟩, .bool false, .func (.func 45) #[] #[], .func (.func 38) #[] #[], .string ⟨#[]⟩, .bool false, .func (.func 46) #[] #[], .func (.func 39) #[] #[.pointer (some ⟨q, 0, none⟩)], .string ⟨#[114, 117, 108, 101]⟩, .bool false, .func (.func 48) #[] #[], .func (.func 49) #[] #[], .string ⟨#[104, 98, 111, 120]⟩, .bool true, .func (.func 50) #[] #[], .func (.func 40) #[] #[], .string ⟨#[118, 98, 111, 120]⟩, .bool true, .func (.func 50) #[] #[], .func (.func 40) #[] #[], .string ⟨#[]⟩, .bool false, .func (.func 51) #[] #[], .func (.func 52) #[] #[], .string ⟨#[103, 108, 117, 101]⟩, .bool false, .func (.func 53) #[] #[], .func (.func 55) #[] #[], .string ⟨#[107, 101, 114, 110]⟩, .bool false, .func (.func 56) #[] #[], .func (.func 57) #[] #[], .string ⟨#[112, 101, 110, 97, 108, 116, 121]⟩, .bool false, .func (.func 58) #[] #[], .func (.func 59) #[] #[], .string ⟨#[100, 105, 115, 99, 114, 101, 116, 105, 111, 110, 97, 114, 121]⟩, .bool true, .func (.func 51) #[] #[], .func (.func 52) #[] #[], .string ⟨#[]⟩, .bool false, .func (.func 51) #[] #[], .func (.func 52) #[] #[], .string ⟨#[109, 97, 114, 107]⟩, .bool false, .func (.func 43) #[] #[], .func (.func 42) #[] #[], .string ⟨#[105, 110, 115, 101, 114, 116]⟩, .bool true, .func (.func 60) #[] #[], .func (.func 61) #[] #[], .string ⟨#[115, 112, 101, 99, 105, 97, 108]⟩, .bool false, .func (.func 43) #[] #[], .func (.func 42) #[] #[], .string ⟨#[109, 97, 116, 104, 111, 110]⟩, .bool false, .func (.func 44) #[] #[], .func (.func 41) #[] #[], .string ⟨#[109, 97, 116, 104, 111, 102, 102]⟩, .bool false, .func (.func 44) #[] #[], .func (.func 41) #[] #[], .string ⟨#[97, 100, 106, 117, 115, 116]⟩, .bool true, .func (.func 51) #[] #[], .func (.func 52) #[] #[]]
theorem ktab_size (q : Nat) : (ktab q).size = 72 := by kernel_rfl
theorem zero_size : Tryz.zeroCells62.size = 72 := by kernel_rfl
theorem kinds_info : (Tryz.prog.info? 62).map (·.size) = some 72 := by kernel_rfl
theorem ktab_one (q : Nat) : (ktab q).all (·.oneCell') = true := by kernel_rfl
theorem wpList_build_eq {P : Program} {ops : Array Oper} {rest : List Oper} {o : Oper} {a : Act} {w : World} {Q : Exit → Act → World → Prop} (hg : o.guard = none) (t : TypeId) (parts : Array (Nat × Operand)) (ho : o.op = .build t parts)
    (cells : Array Value) (hf : P.built t (parts.map fun (i, x) => (i, a.eval x)).toList = some cells) (h : wpList P ops Q rest (a.put o.dst (.agg cells)) w) : wpList P ops Q (o :: rest) a w :=
  wpList_build hg t parts ho (by rw [hf]; rfl) (by rw [hf]; exact h)
set_option maxHeartbeats 400000 in
set_option maxRecDepth 100000 in
theorem kinds_any (w : World) :
    Calls Tryz.prog 20 #[] w fun e w' => e = .returned (.agg (ktab (w.heap.size + 1))) ∧ w'.cell? ⟨w.heap.size + 1, 0, none⟩ = some (.func (.func 38) #[] #[]) ∧ w'.heap.size = w.heap.size + 2 ∧ Below w.heap.size w w' := by
  go_enter Tryz.func20, Tryz.ntmps20
  iterate 160 (first | go_values | go_skip | go_guarded | go_step | go_upon)
  (refine wpList_build_eq (o := ⟨some 38, .build 62 _, _, _, _, _⟩) rfl _ _ rfl (ktab (w.heap.size + 1)) (by kernel_rfl) ?_)
  (refine wpList_store_row (o := ⟨none, .store 62 (.tmp 0) (.tmp 38), _, _, _, _⟩) rfl 62 _ _ rfl w.heap.size (ktab (w.heap.size + 1)) rfl rfl 62 Tryz.zeroCells62 (Blk.alloc (Blk.new' rfl) _) (by rw [ktab_size]; exact kinds_info) (by rw [ktab_size]; exact zero_size) (ktab_one _) ?_)
  go_wp2_with fail
  have hB : Blk (((w.alloc (.cells Tryz.zeroCells62 62)).alloc (.cells #[.func (.func 38) #[] #[]] 59)).setRow w.heap.size (ktab (w.heap.size + 1))) w.heap.size 62 (ktab (w.heap.size + 1)) := Blk.row (Blk.alloc (Blk.new' rfl) _) _
  refine bodyPost_ret (v := .agg (ktab (w.heap.size + 1))) (results_cell_row rfl _ _ w.heap.size 62 (ktab (w.heap.size + 1)) (0, 0) _ rfl hB Tryz.underlying62 rfl (by rw [ktab_size]; exact kinds_info)) rfl ⟨rfl, ?_, ?_, ?_⟩
  · rw [cell_setRow_other _ _ _ _ (by simp)]
    simp [go_sem]
  · rw [size_setRow]
    simp
  · exact below_setRow (andAlloc (andAlloc (Below.refl _ _) _) _) _ _ (Nat.le_refl _)
end Go.Proofs.YtmcekdjhkjhcdaaGreatDoor.No

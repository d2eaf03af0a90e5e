import Derived.Test.YtmcekdjhkjhcdaaGreatDoorNodeA
import Derived.Test.YtmcekdjhkjhcdaaGreatDoorBlk
import Derived.Test.YtmcekdjhkjhcdaaGreatDoorNp
/- A node: its nineteen cells under one name; loads and stores of whole nodes (printed by gen_nd.py). Conditions: those that each theorem names. -/
namespace Go.Proofs.YtmcekdjhkjhcdaaGreatDoor.No
open Go.ChangeShapes Go.WideShapes Go.ChangeAt Go.RowKit
open Me
open Np
set_option linter.unusedVariables false

/-- The cells of a node. -/
def nc (n : Nd) : Array Value := #[.int .i64 n.kind, .int .i64 n.font, .int .u8 n.char, .int .i64 n.wd, .int .i64 n.ht, .int .i64 n.dp, .int .i64 n.shift, .int .i64 n.gn, .int .i64 n.gs, .int .i64 n.gh, .int .i64 n.ga, .int .i64 n.gb, .int .i64 n.sign, .int .i64 n.order, .int .i64 n.num, .int .i64 n.den, .int .i64 n.pen, .int .i64 n.sub, .string n.text]
@[go_sem] theorem nc_size (n : Nd) : (nc n).size = 19 := rfl
@[go_sem] theorem nc_at0 (n : Nd) : (nc n)[0]? = some (.int .i64 n.kind) := rfl
@[go_sem] theorem nc_at1 (n : Nd) : (nc n)[1]? = some (.int .i64 n.font) := rfl
@[go_sem] theorem nc_at2 (n : Nd) : (nc n)[2]? = some (.int .u8 n.char) := rfl
@[go_sem] theorem nc_at3 (n : Nd) : (nc n)[3]? = some (.int .i64 n.wd) := rfl
@[go_sem] theorem nc_at4 (n : Nd) : (nc n)[4]? = some (.int .i64 n.ht) := rfl
@[go_sem] theorem nc_at5 (n : Nd) : (nc n)[5]? = some (.int .i64 n.dp) := rfl
@[go_sem] theorem nc_at6 (n : Nd) : (nc n)[6]? = some (.int .i64 n.shift) := rfl
@[go_sem] theorem nc_at7 (n : Nd) : (nc n)[7]? = some (.int .i64 n.gn) := rfl
@[go_sem] theorem nc_at8 (n : Nd) : (nc n)[8]? = some (.int .i64 n.gs) := rfl
@[go_sem] theorem nc_at9 (n : Nd) : (nc n)[9]? = some (.int .i64 n.gh) := rfl
@[go_sem] theorem nc_at10 (n : Nd) : (nc n)[10]? = some (.int .i64 n.ga) := rfl
@[go_sem] theorem nc_at11 (n : Nd) : (nc n)[11]? = some (.int .i64 n.gb) := rfl
@[go_sem] theorem nc_at12 (n : Nd) : (nc n)[12]? = some (.int .i64 n.sign) := rfl
@[go_sem] theorem nc_at13 (n : Nd) : (nc n)[13]? = some (.int .i64 n.order) := rfl
@[go_sem] theorem nc_at14 (n : Nd) : (nc n)[14]? = some (.int .i64 n.num) := rfl
@[go_sem] theorem nc_at15 (n : Nd) : (nc n)[15]? = some (.int .i64 n.den) := rfl
@[go_sem] theorem nc_at16 (n : Nd) : (nc n)[16]? = some (.int .i64 n.pen) := rfl
@[go_sem] theorem nc_at17 (n : Nd) : (nc n)[17]? = some (.int .i64 n.sub) := rfl
@[go_sem] theorem nc_at18 (n : Nd) : (nc n)[18]? = some (.string n.text) := rfl
@[go_sem] theorem nc_set0 (n : Nd) (x : Int) : (nc n).setIfInBounds 0 (.int .i64 x) = nc { n with kind := x } := rfl
@[go_sem] theorem nc_set1 (n : Nd) (x : Int) : (nc n).setIfInBounds 1 (.int .i64 x) = nc { n with font := x } := rfl
@[go_sem] theorem nc_set2 (n : Nd) (x : Int) : (nc n).setIfInBounds 2 (.int .u8 x) = nc { n with char := x } := rfl
@[go_sem] theorem nc_set3 (n : Nd) (x : Int) : (nc n).setIfInBounds 3 (.int .i64 x) = nc { n with wd := x } := rfl
@[go_sem] theorem nc_set4 (n : Nd) (x : Int) : (nc n).setIfInBounds 4 (.int .i64 x) = nc { n with ht := x } := rfl
@[go_sem] theorem nc_set5 (n : Nd) (x : Int) : (nc n).setIfInBounds 5 (.int .i64 x) = nc { n with dp := x } := rfl
@[go_sem] theorem nc_set6 (n : Nd) (x : Int) : (nc n).setIfInBounds 6 (.int .i64 x) = nc { n with shift := x } := rfl
@[go_sem] theorem nc_set7 (n : Nd) (x : Int) : (nc n).setIfInBounds 7 (.int .i64 x) = nc { n with gn := x } := rfl
@[go_sem] theorem nc_set8 (n : Nd) (x : Int) : (nc n).setIfInBounds 8 (.int .i64 x) = nc { n with gs := x } := rfl
@[go_sem] theorem nc_set9 (n : Nd) (x : Int) : (nc n).setIfInBounds 9 (.int .i64 x) = nc { n with gh := x } := rfl
@[go_sem] theorem nc_set10 (n : Nd) (x : Int) : (nc n).setIfInBounds 10 (.int .i64 x) = nc { n with ga := x } := rfl
@[go_sem] theorem nc_set11 (n : Nd) (x : Int) : (nc n).setIfInBounds 11 (.int .i64 x) = nc { n with gb := x } := rfl
@[go_sem] theorem nc_set12 (n : Nd) (x : Int) : (nc n).setIfInBounds 12 (.int .i64 x) = nc { n with sign := x } := rfl
@[go_sem] theorem nc_set13 (n : Nd) (x : Int) : (nc n).setIfInBounds 13 (.int .i64 x) = nc { n with order := x } := rfl
@[go_sem] theorem nc_set14 (n : Nd) (x : Int) : (nc n).setIfInBounds 14 (.int .i64 x) = nc { n with num := x } := rfl
@[go_sem] theorem nc_set15 (n : Nd) (x : Int) : (nc n).setIfInBounds 15 (.int .i64 x) = nc { n with den := x } := rfl
@[go_sem] theorem nc_set16 (n : Nd) (x : Int) : (nc n).setIfInBounds 16 (.int .i64 x) = nc { n with pen := x } := rfl
@[go_sem] theorem nc_set17 (n : Nd) (x : Int) : (nc n).setIfInBounds 17 (.int .i64 x) = nc { n with sub := x } := rfl
@[go_sem] theorem nc_set18 (n : Nd) (x : ByteArray) : (nc n).setIfInBounds 18 (.string x) = nc { n with text := x } := rfl
theorem nc_one (n : Nd) : (nc n).all (·.oneCell') = true := by simp [nc, Value.oneCell']
theorem nc_list (n : Nd) : (nc n).toList.length = 19 := rfl
theorem eqB_eq (a b : Nd) (w : World) : (binOp .eql 36 (.agg (nc a)) (.agg (nc b))).run Tryz.prog w = .ok (.bool (eqB a b)) w := eqlN a.kind a.font a.char a.wd a.ht a.dp a.shift a.gn a.gs a.gh a.ga a.gb a.sign a.order a.num a.den a.pen a.sub b.kind b.font b.char b.wd b.ht b.dp b.shift b.gn b.gs b.gh b.ga b.gb b.sign b.order b.num b.den b.pen b.sub a.text b.text w
/-- A node lies at a place. -/
def NodeAt (w : World) (b o : Nat) (n : Nd) : Prop := ∀ j u, (nc n).toList[j]? = some u → w.cell? ⟨b, o + j, none⟩ = some u
theorem NodeAt.keep {w w' : World} {b o : Nat} {n : Nd} (h : NodeAt w b o n) (hk : ∀ q, w'.cell? ⟨b, q, none⟩ = w.cell? ⟨b, q, none⟩) : NodeAt w' b o n := fun j u hu => (hk _).trans (h j u hu)
theorem NodeAt.alloc {w : World} {b o : Nat} {n : Nd} (h : NodeAt w b o n) (ob : Obj) : NodeAt (w.alloc ob) b o n := fun j u hu => by
  have h1 := h j u hu
  have hb : b < w.heap.size := by
    have := block_lt_of_cell h1
    exact this
  rw [← h1]
  exact World.cell?_alloc_past (w := w) ob b (o + j) hb
theorem NodeAt.drewN {w : World} {b o : Nat} {n : Nd} (h : NodeAt w b o n) (k : Nat) : NodeAt (w.drewN k) b o n := h
theorem NodeAt.lt {w : World} {b o : Nat} {n : Nd} (h : NodeAt w b o n) : b < w.heap.size := block_lt_of_cell (h 0 _ rfl)
theorem NodeAt.below {w w' : World} {B b o : Nat} {n : Nd} (h : NodeAt w b o n) (hb : Below B w w') (hB : b < B) : NodeAt w' b o n := h.keep fun q => hb.cell (p := ⟨b, q, none⟩) hB
theorem _root_.Go.Proofs.YtmcekdjhkjhcdaaGreatDoor.Me.Blk.node {w : World} {g : Nat} {t : TypeId} {n : Nd} (h : Blk w g t (nc n)) : NodeAt w g 0 n := fun j u hu => by
  rw [h.cell]
  simpa using hu
theorem node_info : (Tryz.prog.info? 36).map (·.size) = some 19 := by kernel_rfl
theorem node_info3 : (Tryz.prog.info? 36).map (fun i => (i.zero, i.size, i.bytes)) = some (some (.agg (nc (nz 0))), 19, Tryz.prog.bytesOf 36) := by kernel_rfl
theorem node_bytes : Tryz.prog.bytesOf 36 = 160 := by kernel_rfl
/-- A whole node out of memory. -/
theorem run_loadNode (w : World) (b o : Nat) (n : Nd) (h : NodeAt w b o n) : (loadVar 36 ⟨b, o, none⟩).run Tryz.prog w = .ok (.agg (nc n)) w := by
  have hl : (loadCells ⟨b, o, none⟩ (nc n).toList.length).run Tryz.prog w = .ok (nc n).toList.toArray w :=
    run_loadCells_list (P := Tryz.prog) w ⟨b, o, none⟩ (nc n).toList (fun j v hv => by
      have hadd : (⟨b, o, none⟩ : Addr).add j = ⟨b, o + j, none⟩ := by unfold Addr.add; split <;> simp_all
      rw [hadd]
      exact h j v hv)
  have hi := node_info
  cases hq : Tryz.prog.info? 36 with
  | none => simp [hq] at hi
  | some i =>
    have hs : i.size = 19 := by simpa [hq] using hi
    have hagg : (isAgg 36).run Tryz.prog w = .ok true w := by
      unfold isAgg
      rw [Sem.run_bind, run_underlying Tryz.underlying36 w]
      rfl
    rw [nc_list, Array.toArray_toList] at hl
    simp [loadVar, Sem.run_bind, hagg, sizeOf, typeInfo, hq, hs, hl]
theorem wpList_load_node {ops : Array Oper} {rest : List Oper} {o : Oper} {a : Act} {w : World} {Q : Exit → Act → World → Prop} (hgd : o.guard = none) (x : Operand) (ho : o.op = .load 36 x)
    (b q : Nat) (hx : a.eval x = .pointer (some ⟨b, q, none⟩)) (n : Nd) (hn : NodeAt w b q n)
    (h : wpList Tryz.prog ops Q rest (a.put o.dst (.agg (nc n))) w) : wpList Tryz.prog ops Q (o :: rest) a w :=
  wpList_plain hgd fun _ hK => by
    unfold Oper.wp execOp
    simp only [ho, hx, Instr.loadAt, Instr.sureAddr, Sem.run_bind, Sem.run_pure, Result.andThen_ok, run_loadNode w b q n hn]
    exact hK _ _ h
/-- A node's own new variable. -/
theorem wpList_alloc_node {ops : Array Oper} {rest : List Oper} {o : Oper} {a : Act} {w : World} {Q : Exit → Act → World → Prop} (hgd : o.guard = none) (ho : o.op = .alloc 36)
    (h : wpList Tryz.prog ops Q rest (a.put o.dst (.pointer (some ⟨w.heap.size, 0, none⟩))) (w.alloc (.cells (nc (nz 0)) 36))) : wpList Tryz.prog ops Q (o :: rest) a w :=
  wpList_plain hgd fun K hK => by
    have hz : (zeroValue 36).run Tryz.prog w = .ok (.agg (nc (nz 0))) w := by kernel_rfl
    have hr : (Instr.alloc 36 true (.tuple #[])).run Tryz.prog w = .ok (.pointer (some ⟨w.heap.size, 0, none⟩)) (w.alloc (.cells (nc (nz 0)) 36)) := by
      simp only [Instr.alloc, Sem.run_bind, hz, Result.andThen_ok, newVar, newRow, run_newObj_alloc, Sem.run_pure, Value.cells]
    unfold Oper.wp execOp
    simp only [ho, Sem.run_bind, hr, Result.andThen_ok, Sem.run_pure]
    exact hK _ _ h
/-- A whole node into a block of its own. -/
theorem wpList_store_node {ops : Array Oper} {rest : List Oper} {o : Oper} {a : Act} {w : World} {Q : Exit → Act → World → Prop} (hgd : o.guard = none) (x y : Operand) (ho : o.op = .store 36 x y)
    (g : Nat) (n m : Nd) (hx : a.eval x = .pointer (some ⟨g, 0, none⟩)) (hy : a.eval y = .agg (nc n)) (t : TypeId) (hg : Blk w g t (nc m))
    (h : wpList Tryz.prog ops Q rest (a.put o.dst undef) (w.setRow g (nc n))) : wpList Tryz.prog ops Q (o :: rest) a w :=
  wpList_store_row hgd 36 x y ho g (nc n) hx hy t (nc m) hg (by rw [nc_size]; exact node_info) rfl (nc_one n) h
@[go_sem] theorem setRow_new (w : World) (c c' : Array Value) (t : TypeId) (k : Nat) (hk : k = w.heap.size) : (w.alloc (.cells c t)).setRow k c' = w.alloc (.cells c' t) := by
  subst hk
  simp only [World.setRow, World.alloc]
  congr 1
  apply Array.ext_getElem?
  intro i
  rw [Array.getElem?_modify]
  by_cases h : w.heap.size = i
  · subst h
    simp
  · have h' : ¬ i = w.heap.size := fun e => h e.symm
    simp [h, h', Array.getElem?_push]
@[go_sem] theorem setRow_past (w : World) (o : Obj) (c' : Array Value) (k : Nat) (hk : k < w.heap.size) : (w.alloc o).setRow k c' = (w.setRow k c').alloc o := by
  simp only [World.setRow, World.alloc]
  congr 1
  apply Array.ext_getElem?
  intro i
  rw [Array.getElem?_modify, Array.getElem?_push, Array.getElem?_push, Array.size_modify, Array.getElem?_modify]
  by_cases h : k = i
  · subst h
    have : ¬ k = w.heap.size := by omega
    simp [this]
  · simp [h]
theorem below_setRow {B : Nat} {a w : World} (h : Below B a w) (g : Nat) (c : Array Value) (hg : B ≤ g) : Below B a (w.setRow g c) :=
  ⟨h.os, h.tape, h.output, by rw [size_setRow]; exact h.size, fun k hk => (setRow_other w g k c (by omega)).trans (h.block k hk)⟩
theorem _root_.Go.Proofs.YtmcekdjhkjhcdaaGreatDoor.Me.Blk.row {w : World} {g : Nat} {t : TypeId} {c : Array Value} (h : Blk w g t c) (c' : Array Value) : Blk (w.setRow g c') g t c' := setRow_heap w g c c' t (0, 0) h
theorem _root_.Go.Proofs.YtmcekdjhkjhcdaaGreatDoor.Me.Blk.rowFar {w : World} {g k : Nat} {t : TypeId} {c : Array Value} (h : Blk w g t c) (hk : g ≠ k) (c' : Array Value) : Blk (w.setRow k c') g t c := (setRow_other w k g c' hk).trans h
theorem NodeAt.row {w : World} {g : Nat} {n : Nd} {t : TypeId} {c : Array Value} (h : Blk w g t c) : NodeAt (w.setRow g (nc n)) g 0 n := (h.row _).node
theorem NodeAt.rowFar {w : World} {b o : Nat} {n : Nd} (h : NodeAt w b o n) (k : Nat) (hk : b ≠ k) (c' : Array Value) : NodeAt (w.setRow k c') b o n := h.keep fun q => cell_setRow_other w k c' ⟨b, q, none⟩ hk
/-- A node that a function hands back. -/
theorem results_node {fn : Func} {p : Tmp} (h : fn.results = #[.cell p 36]) (tmps : Array Value) (w : World) (g : Nat) (n : Nd) (hp : tmps.getD p undef = .pointer (some ⟨g, 0, none⟩)) (hn : NodeAt w g 0 n) :
    (results fn tmps).run Tryz.prog w = .ok (.agg (nc n)) w := by
  have hp' : tmps[p]?.getD undef = .pointer (some ⟨g, 0, none⟩) := by simpa using hp
  simp [results, h, hp', asAddr, run_loadNode w g 0 n hn]
end Go.Proofs.YtmcekdjhkjhcdaaGreatDoor.No

import Derived.Test.YtmcekdjhkjhcdaaHye
import Derived.Lib.Overlaps
import Derived.Lib.AppendZerosOnto
import Derived.Deep.RegionLaw
import Derived.Laws.CopyRow
import Derived.Laws.Externs
/- An exception is put in its place: the library's Insert ahead of another one. Conditions: those that each theorem names. -/
namespace Go.Proofs.Ytmcekdjhkjhcdaa.Hy
open Go.ChangeShapes Go.WideShapes Go.ChangeAt Go.RowKit Go.Lib
open Me Hp
set_option linter.unusedVariables false
set_option linter.unusedSimpArgs false
/-- 'copy' of k elements, each of sz cells, into a row. -/
theorem run_copy_rows {P : Program} (w : World) (dT sT ty elem : TypeId) (g o dLen dCap : Nat) (a : Addr) (sLen sCap k sz : Nat) (cur : Array Value) (t : TypeId) (cs : List Value)
    (hu : P.underlying dT = some (.slice elem)) (hs : (P.info? elem).map (·.size) = some sz)
    (hg : w.heap[g]? = some (.cells cur t (0, 0))) (hk : Nat.min sLen dLen = k) (hn : cs.length = k * sz)
    (hsrc : ∀ j v, cs[j]? = some v → w.cell? (a.add j) = some v) (hfit : o + cs.length ≤ cur.size) (h1 : ∀ v ∈ cs, v.oneCell' = true) :
    (Builtin.copy_ #[dT, sT] ty #[.slice (some ⟨g, o, none⟩) dLen dCap, .slice (some a) sLen sCap]).run P w =
      .ok (goInt k) (w.setRow g (cur.toList.take o ++ cs ++ cur.toList.drop (o + cs.length)).toArray) := by
  have hl := run_loadCells_list (P := P) w a cs hsrc
  have hst := run_storeCells_at P g o t cs 0 cur w hg (by simpa using hfit) h1
  cases hq : P.info? elem with
  | none => simp [hq] at hs
  | some i =>
    have hi : i.size = sz := by simpa [hq] using hs
    simp [Builtin.copy_, run_underlying hu, Builtin.lenOf, Builtin.firstCells, sizeOf, typeInfo, hq, hi, hk, ← hn, hl, hst]
theorem wp_copy_run {P : Program} (w : World) {o : Oper} {a : Act} {K : Act → World → Prop} {Q : Exit → Act → World → Prop} (d s : Operand) (t t' : TypeId)
    (ho : o.op = .call { callee := .builtin .copy, args := #[d, s], argTypes := #[t, t'] }) (v u : Value) (hd : a.eval d = v) (hs : a.eval s = u) {v' : Value} {w' : World}
    (hr : (Builtin.copy_ #[t, t'] o.type #[v, u]).run P w = .ok v' w') (h : K (a.put o.dst v') w') : o.wp P a w K Q := by
  unfold Oper.wp execOp
  simp only [ho, resolve, invoke, builtin, Sem.run_bind, Sem.run_pure, Result.andThen_ok, List.map_toArray, List.map_cons, List.map_nil, hd, hs, hr]
  exact h
theorem wpList_copy_run {P : Program} (w : World) {ops : Array Oper} {rest : List Oper} {o : Oper} {a : Act} {Q : Exit → Act → World → Prop} (hgd : o.guard = none) (d s : Operand) (t t' : TypeId)
    (ho : o.op = .call { callee := .builtin .copy, args := #[d, s], argTypes := #[t, t'] }) (v u : Value) (hd : a.eval d = v) (hs : a.eval s = u) {v' : Value} {w' : World}
    (hr : (Builtin.copy_ #[t, t'] o.type #[v, u]).run P w = .ok v' w') (h : wpList P ops Q rest (a.put o.dst v') w') : wpList P ops Q (o :: rest) a w :=
  wpList_plain hgd fun _ hK => wp_copy_run w d s t t' ho v u hd hs hr (hK _ _ h)
theorem step_copy_run {P : Program} {ops : Array Oper} {o : Oper} {a : Act} {w : World} {K : Act → World → Prop} {Q : Exit → Act → World → Prop} {E : Prop}
    (hg : o.guard = none) (d x : Operand) (dT sT : TypeId) (hop : o.op = Op.call { callee := Callee.builtin Builtin.copy, args := #[d, x], argTypes := #[dT, sT] })
    (v u : Value) (hd : a.eval d = v) (hx : a.eval x = u) {v' : Value} {w' : World} (hr : (Builtin.copy_ #[dT, sT] o.type #[v, u]).run P w = .ok v' w') (hK : K (a.put o.dst v') w') :
    if Region.wanted o (yielded ops a.tmps) = true then Oper.wp P o a w K Q else E := by
  have hw : Region.wanted o (yielded ops a.tmps) = true := by simp [Region.wanted, hg]
  rw [if_pos hw]
  unfold Oper.wp
  simp [execOp, hop, resolve, invoke, builtin, hd, hx, hr, Result.andThen]
  exact hK
/-- What a row of pairs is, one put in between. -/
theorem xcells_ins {X : List Xc} {us : List Value} (h : us.length = X.length) {k : Nat} (hk : k ≤ X.length) (x : Xc) (u : Value) :
    xcells (insAt X k x) (insAt us k u) = (xcells X us).take (k * 2) ++ [.string (S x.1), u] ++ (xcells X us).drop (k * 2) := by
  unfold xcells insAt
  rw [List.zip_append (by rw [List.length_take, List.length_take]; omega), List.zip_cons_cons, List.flatMap_append, List.flatMap_cons]
  have e1 : (X.take k).zip (us.take k) = (X.zip us).take k := by rw [List.zip_eq_zipWith, List.zip_eq_zipWith, List.take_zipWith]
  have e2 : (X.drop k).zip (us.drop k) = (X.zip us).drop k := by rw [List.zip_eq_zipWith, List.zip_eq_zipWith, List.drop_zipWith]
  rw [e1, e2, flat_take xc2_len, flat_drop xc2_len, List.append_assoc]
  rfl
theorem ins_list {L p : List Value} {k n : Nat} (hp : p.length = 2) (hk : k ≤ n) (hl : (n + 1) * 2 ≤ L.length) {L1 L2 C : List Value} (hC : L.take (n * 2) = C)
    (h1 : L1 = L.take ((k + 1) * 2) ++ C.drop (k * 2) ++ L.drop ((k + 1) * 2 + (C.drop (k * 2)).length)) (h2 : L2 = L1.take (k * 2) ++ p ++ L1.drop (k * 2 + p.length)) :
    L2.take ((n + 1) * 2) = C.take (k * 2) ++ p ++ C.drop (k * 2) ∧ L2.length = L.length ∧ L1.length = L.length := by
  have hCl : C.length = n * 2 := by rw [← hC, List.length_take]; omega
  have hdl : (C.drop (k * 2)).length = n * 2 - k * 2 := by rw [List.length_drop, hCl]
  have hT : L.take (k * 2) = C.take (k * 2) := by rw [← hC, List.take_take, Nat.min_eq_left (by omega)]
  have ht : L1.take (k * 2) = C.take (k * 2) := by
    rw [h1, List.append_assoc, List.take_append_of_le_length (by rw [List.length_take]; omega), List.take_take, Nat.min_eq_left (by omega), hT]
  have hd : L1.drop (k * 2 + p.length) = C.drop (k * 2) ++ L.drop ((k + 1) * 2 + (C.drop (k * 2)).length) := by
    have e : k * 2 + p.length = (L.take ((k + 1) * 2)).length := by rw [List.length_take]; omega
    rw [h1, List.append_assoc, e, List.drop_left]
  have hl1 : L1.length = L.length := by
    rw [h1, List.length_append, List.length_append, List.length_take, hdl, List.length_drop]; omega
  have hl2 : L2.length = L.length := by
    rw [h2, List.length_append, List.length_append, List.length_take, List.length_drop, hl1, hp]; omega
  refine ⟨?_, hl2, hl1⟩
  rw [h2, ht, hd, ← List.append_assoc]
  have e : (n + 1) * 2 = (C.take (k * 2) ++ p ++ C.drop (k * 2)).length := by
    rw [List.length_append, List.length_append, List.length_take, hdl, hp, hCl]; omega
  rw [e, List.take_left]
def ITy : Nat := 104
theorem exc_size : (Try.prog.info? 126).map (·.size) = some 2 := by kernel_rfl
theorem setrow_grown (w : World) (g : Nat) (c : Array Value) : w.grownBy (w.drew.setRow g c) (some g) := ⟨rfl, rfl, rfl, by simp [World.setRow], fun k _ hk => by
  unfold World.setRow
  simp only [Array.getElem?_modify]
  rw [if_neg (fun e => hk (by rw [e]))]
  rfl⟩
set_option maxHeartbeats 4000000 in
set_option maxRecDepth 100000 in
theorem ins_room (w : World) (g0 gv n cap k : Nat) (cur : Array Value) (C : List Value) (a : ByteArray) (u : Value) (hk : k < n) (hroom : n + 1 ≤ cap) (hcm : cap ≤ maxLen) (hcs : cur.size = cap * 2) (hC : cur.toList.take (n * 2) = C)
    (hg0 : w.heap[g0]? = some (.cells cur 126 (0, 0))) (hgv : Blk w gv 126 #[.string a, u]) (hne : gv ≠ g0) (h1c : ∀ v ∈ C, v.oneCell' = true) (hu1 : u.oneCell' = true) :
    Calls Try.prog 85 #[.slice (some ⟨g0, 0, none⟩) n cap, .int .i64 (k : Int), .slice (some ⟨gv, 0, none⟩) 1 1] w fun e w' =>
      e = .returned (.slice (some ⟨g0, 0, none⟩) (n + 1) cap) ∧ ∃ c2 : Array Value, w' = w.drew.setRow g0 c2 ∧ c2.size = cap * 2 ∧ c2.toList.take ((n + 1) * 2) = C.take (k * 2) ++ [.string a, u] ++ C.drop (k * 2) := by
  have hCl : C.length = n * 2 := by rw [← hC, List.length_take, Array.length_toList]; omega
  obtain ⟨L1, hL1⟩ : ∃ L1, L1 = cur.toList.take ((k + 1) * 2) ++ C.drop (k * 2) ++ cur.toList.drop ((k + 1) * 2 + (C.drop (k * 2)).length) := ⟨_, rfl⟩
  obtain ⟨L2, hL2⟩ : ∃ L2, L2 = L1.take (k * 2) ++ [Value.string a, u] ++ L1.drop (k * 2 + [Value.string a, u].length) := ⟨_, rfl⟩
  obtain ⟨r1, r2, r3⟩ := ins_list (p := [Value.string a, u]) rfl (Nat.le_of_lt hk) (by rw [Array.length_toList]; omega) hC hL1 hL2
  rw [Array.length_toList (xs := cur)] at r2 r3
  have hsa : w.shape? gv = some (126, 2) := by have h := hgv; unfold Blk at h; simp [World.shape?, h]
  have hsb : w.shape? g0 = some (126, cap * 2) := by simp [World.shape?, hg0, hcs]
  have hov : ∀ lb cb, (callFunc 135 #[.slice (some ⟨gv, 0, none⟩) 1 1, .slice (some ⟨g0, (k + 1) * 2, none⟩) lb cb]).run Try.prog w = .ok (.value (.bool false)) w := fun lb cb => by
    rw [run_callFunc_extern Try.func135 (by kernel_rfl) (by kernel_rfl) (by kernel_rfl) (e := Extern.SlicesOverlaps.overlaps #[104, 104] #[4]) (by kernel_rfl),
      Lib.run_overlaps_apart w 104 4 126 Try.underlying104 2 (fun w => by kernel_rfl) ⟨gv, 0, none⟩ ⟨g0, (k + 1) * 2, none⟩ 1 1 lb cb hne _ _ 2 (cap * 2) hsa hsb (by omega) (Lib.frozen_of_heap hgv 0) (Lib.frozen_of_heap hgv 2)]
    rfl
  have hcell : ∀ j v, C[j]? = some v → w.cell? ⟨g0, j, none⟩ = some v := by
    intro j v hj
    have hjl : j < n * 2 := by have := (List.getElem?_eq_some_iff.1 hj).1; omega
    rw [← hC, List.getElem?_take, if_pos hjl] at hj
    rw [Lib.cell_of_heap hg0, ← Array.getElem?_toList]
    exact hj
  have hcp1 : ∀ ty dc sc, (Builtin.copy_ #[104, 104] ty #[.slice (some ⟨g0, (k + 1) * 2, none⟩) (n - k) dc, .slice (some ⟨g0, k * 2, none⟩) (n + 1 - k) sc]).run Try.prog w.drew = .ok (goInt ((n - k : Nat) : Int)) (w.drew.setRow g0 L1.toArray) := fun ty dc sc => by
    rw [hL1]
    exact run_copy_rows w.drew _ _ ty 126 g0 ((k + 1) * 2) (n - k) dc ⟨g0, k * 2, none⟩ (n + 1 - k) sc (n - k) 2 cur 126 (C.drop (k * 2)) Try.underlying104 exc_size hg0 (by simp only [Nat.min_def]; split <;> omega) (by rw [List.length_drop, hCl]; omega)
      (fun j v hj => by rw [Addr.add_lit]; exact hcell _ v (by rwa [List.getElem?_drop] at hj)) (by rw [List.length_drop, hCl]; omega) (fun v hv => h1c v (List.mem_of_mem_drop hv))
  have hg1 : (w.drew.setRow g0 L1.toArray).heap[g0]? = some (.cells L1.toArray 126 (0, 0)) := setRow_heap w.drew g0 cur L1.toArray _ _ hg0
  have hcv : ∀ j v, [Value.string a, u][j]? = some v → (w.drew.setRow g0 L1.toArray).cell? ⟨gv, 0 + j, none⟩ = some v := by
    intro j v hj
    have h9 : (w.drew.setRow g0 L1.toArray).heap[gv]? = some (.cells #[.string a, u] 126 (0, 0)) := by
      unfold World.setRow
      simp only [Array.getElem?_modify]
      rw [if_neg (fun e => hne e.symm)]
      exact hgv
    rw [Lib.cell_of_heap h9, Nat.zero_add, ← Array.getElem?_toList]
    exact hj
  have h1p : ∀ v ∈ [Value.string a, u], v.oneCell' = true := by
    intro v hv
    rcases List.mem_cons.1 hv with rfl | hv
    · rfl
    · rw [List.mem_singleton.1 hv]; exact hu1
  have hcp2 : ∀ ty dc, (Builtin.copy_ #[104, 104] ty #[.slice (some ⟨g0, k * 2, none⟩) (n + 1 - k) dc, .slice (some ⟨gv, 0, none⟩) 1 1]).run Try.prog (w.drew.setRow g0 L1.toArray) = .ok (goInt 1) ((w.drew.setRow g0 L1.toArray).setRow g0 L2.toArray) := fun ty dc => by
    have h := run_copy_rows (P := Try.prog) (w.drew.setRow g0 L1.toArray) 104 104 ty 126 g0 (k * 2) (n + 1 - k) dc ⟨gv, 0, none⟩ 1 1 1 2 L1.toArray 126 [Value.string a, u] Try.underlying104 exc_size hg1 (by simp only [Nat.min_def]; split <;> omega) rfl
      (fun j v hj => by rw [Addr.add_lit]; exact hcv j v hj) (by rw [List.size_toArray, r3, hcs]; show k * 2 + 2 ≤ _; omega) h1p
    rw [h, hL2]
    rfl
  have hRES := Lib.hid (show (w.drew.setRow g0 L1.toArray).setRow g0 L2.toArray = w.drew.setRow g0 L2.toArray from setRow_setRow ..)
  have HR := Lib.hid (And.intro r1 r2)
  have hz2 : ¬ ((k : Int) = (n : Int)) := by omega
  have hz3 : ¬ ((cap : Int) < (n : Int) + 1) := by omega
  have hw1 : IntKind.i64.wrap ((k : Int) + 1) = (k : Int) + 1 := IntWalk.i64_in _ (by unfold maxLen at hcm; omega)
  have hw2 : IntKind.i64.wrap ((n : Int) + 1) = (n : Int) + 1 := IntWalk.i64_in _ (by unfold maxLen at hcm; omega)
  have hcm2 : cap ≤ 9223372036854775807 := by unfold maxLen at hcm; omega
  have hb1 : (0 : Int) ≤ (k : Int) + 1 := by omega
  have htn : ((k : Int) + 1).toNat = k + 1 := by omega
  have hb2 : ¬ (cap = k + 1) := by omega
  have hb3 : (k : Int) ≤ (n : Int) + 1 := by omega
  have hb4 : ¬ (cap = k) := by omega
  have hb5 : k ≤ n := by omega
  clear r1 r2 r3 hL1 hL2 hCl hsa hsb hcell hg1 hcv h1c hu1 h1p hC hgv hg0
  go_enter Try.func85, Try.ntmps85
  go_wp2_with (simp only [hov])
  go_region_law (refine step_copy_run rfl _ _ 104 104 rfl _ _ (by simp [Act.eval, Act.put]) (by simp [Act.eval, Act.put]) (hcp1 _ _ _) ?_)
  go_wp2_with (at_builtin; refine wpList_copy_run _ rfl _ _ 104 104 rfl _ _ rfl rfl (hcp2 _ _) ?_)
  go_ret
  exact ⟨rfl, L2.toArray, hRES.out, by rw [List.size_toArray, HR.out.2, hcs], HR.out.1⟩
theorem ins_list2 {R p : List Value} {k n : Nat} (hp : p.length = 2) (hk : k ≤ n) (hl : (n + 1) * 2 ≤ R.length) {L1 L2 C : List Value} (hCl : C.length = n * 2) (hC : R.take (k * 2) = C.take (k * 2))
    (h1 : L1 = R.take (k * 2) ++ p ++ R.drop (k * 2 + p.length)) (h2 : L2 = L1.take ((k + 1) * 2) ++ C.drop (k * 2) ++ L1.drop ((k + 1) * 2 + (C.drop (k * 2)).length)) :
    L2.take ((n + 1) * 2) = C.take (k * 2) ++ p ++ C.drop (k * 2) ∧ L2.length = R.length ∧ L1.length = R.length := by
  have hdl : (C.drop (k * 2)).length = n * 2 - k * 2 := by rw [List.length_drop, hCl]
  have hl1 : L1.length = R.length := by
    rw [h1, List.length_append, List.length_append, List.length_take, List.length_drop, hp]; omega
  have hl2 : L2.length = R.length := by
    rw [h2, List.length_append, List.length_append, List.length_take, hdl, List.length_drop, hl1]; omega
  refine ⟨?_, hl2, hl1⟩
  have ht : L1.take ((k + 1) * 2) = C.take (k * 2) ++ p := by
    have e : (k + 1) * 2 = (R.take (k * 2) ++ p).length := by rw [List.length_append, List.length_take, hp]; omega
    rw [h1, e, List.take_left, hC]
  rw [h2, ht]
  have e : (n + 1) * 2 = (C.take (k * 2) ++ p ++ C.drop (k * 2)).length := by
    rw [List.length_append, List.length_append, List.length_take, hdl, hp, hCl]; omega
  rw [e, List.take_left]
theorem below_row {B : Nat} {a w : World} (h : Below B a w) (g : Nat) (c : Array Value) (hg : B ≤ g) : Below B a (w.setRow g c) :=
  ⟨h.os, h.tape, h.output, by rw [size_setRow]; exact h.size, fun k hk => (setRow_other w g k c (by omega)).trans (h.block k hk)⟩
def exz : Value := .agg #[.string ⟨#[]⟩, .slice none 0 0]
theorem exz_cells : exz.cells = #[.string ⟨#[]⟩, .slice none 0 0] := rfl
theorem zero_size (n : Nat) : (Builtin.zeroCells exz.cells n).size = n * 2 := by rw [exz_cells]; simp [Builtin.zeroCells]
set_option maxHeartbeats 4000000 in
set_option maxRecDepth 100000 in
theorem ins_grow (w : World) (g0 gv n cap k : Nat) (cur : Array Value) (C : List Value) (a : ByteArray) (u : Value) (hk : k < n) (hnc : n ≤ cap) (hroom : cap < n + 1) (hn : n < 1000) (hcs : cur.size = cap * 2) (hC : cur.toList.take (n * 2) = C)
    (hg0 : w.heap[g0]? = some (.cells cur 126 (0, 0))) (hgv : Blk w gv 126 #[.string a, u]) (h1c : ∀ v ∈ C, v.oneCell' = true) (hu1 : u.oneCell' = true) :
    Calls Try.prog 85 #[.slice (some ⟨g0, 0, none⟩) n cap, .int .i64 (k : Int), .slice (some ⟨gv, 0, none⟩) 1 1] w fun e w' =>
      ∃ (G : Nat) (c2 : Array Value), e = .returned (.slice (some ⟨w.heap.size, 0, none⟩) (n + 1) G) ∧ n + 1 ≤ G ∧ G ≤ maxLen ∧ w'.heap[w.heap.size]? = some (.cells c2 126 (0, 0)) ∧ c2.size = G * 2 ∧ c2.toList.take ((n + 1) * 2) = C.take (k * 2) ++ [.string a, u] ++ C.drop (k * 2) ∧ Below w.heap.size w w' := by
  have hCl : C.length = n * 2 := by rw [← hC, List.length_take, Array.length_toList]; omega
  obtain ⟨i0, hi0, hz0, hzs, hzb⟩ := info_parts exc_info
  have hgl : g0 < w.heap.size := (Array.getElem?_eq_some_iff.1 hg0).1
  have hvl : gv < w.heap.size := hgv.lt
  have hcell : ∀ j v, C[j]? = some v → w.cell? ⟨g0, j, none⟩ = some v := by
    intro j v hj
    have hjl : j < n * 2 := by have := (List.getElem?_eq_some_iff.1 hj).1; omega
    rw [← hC, List.getElem?_take, if_pos hjl] at hj
    rw [Lib.cell_of_heap hg0, ← Array.getElem?_toList]
    exact hj
  have hkk : (n : Int) + 1 - (k : Int) = ((n + 1 - k : Nat) : Int) := by omega
  have hik : k + (n + 1 - k) = n + 1 := by omega
  have hold : (Builtin.firstCells i0.size k (.slice (some ⟨g0, 0, none⟩) k cap)).run Try.prog w.drew = .ok (C.take (k * 2)).toArray w.drew := by
    rw [hzs]
    exact run_firstCells_some w.drew 2 k ⟨g0, 0, none⟩ k cap (C.take (k * 2)) (by rw [List.length_take]; omega) (fun j v hj => by
      rw [Addr.add_lit, Nat.zero_add]
      rw [List.getElem?_take] at hj
      split at hj
      · exact hcell j v hj
      · cases hj)
  obtain ⟨G, hG⟩ : ∃ G, G = grownCap w (n + 1) cap 126 := ⟨_, rfl⟩
  obtain ⟨ROW, hROW⟩ : ∃ ROW : Array Value, ROW = (C.take (k * 2)).toArray ++ Builtin.zeroCells exz.cells (n + 1 - k) ++ Builtin.zeroCells exz.cells (G - (n + 1)) := ⟨_, rfl⟩
  have hrz : ∀ ty, (Builtin.append_ #[104, 3] ty #[.slice (some ⟨g0, 0, none⟩) k cap, .int .i64 ((n : Int) + 1 - (k : Int))]).run Try.prog w =
      .ok (.slice (some ⟨w.heap.size, 0, none⟩) (n + 1) G) (w.drew.alloc (.cells ROW 126)) := fun ty => by
    have h := Lib.run_append_grow_zeros w 104 3 ty 126 i0 _ .i64 .i64 Try.underlying104 Try.underlying3 hi0 hz0 (some ⟨g0, 0, none⟩) k cap (C.take (k * 2)) hold (n + 1 - k) (by omega) (by omega) (by omega) (by omega) (by rw [hzb]; omega) (by rw [hzb, hik]; exact growslice_fits hroom (by omega))
    rw [hik, ← hG] at h
    rw [hkk, hROW]
    exact h
  have hGn : n + 1 ≤ G := by rw [hG]; exact grownCap_ge w _ _ _
  have hGm : G ≤ maxLen := by rw [hG]; exact grownCap_le_maxLen w (n + 1) cap _ (by unfold maxLen; omega)
  have hRs : ROW.size = G * 2 := by
    rw [hROW, Array.size_append, Array.size_append, zero_size, zero_size, List.size_toArray, List.length_take]; omega
  have hRt : ROW.toList.take (k * 2) = C.take (k * 2) := by
    rw [hROW, Array.toList_append, Array.toList_append, List.append_assoc]
    rw [List.take_append_of_le_length (by show k * 2 ≤ (C.take (k * 2)).length; rw [List.length_take]; omega)]
    show (C.take (k * 2)).take (k * 2) = _
    rw [List.take_take, Nat.min_self]
  obtain ⟨L1, hL1⟩ : ∃ L1, L1 = ROW.toList.take (k * 2) ++ [Value.string a, u] ++ ROW.toList.drop (k * 2 + [Value.string a, u].length) := ⟨_, rfl⟩
  obtain ⟨L2, hL2⟩ : ∃ L2, L2 = L1.take ((k + 1) * 2) ++ C.drop (k * 2) ++ L1.drop ((k + 1) * 2 + (C.drop (k * 2)).length) := ⟨_, rfl⟩
  obtain ⟨r1, r2, r3⟩ := ins_list2 (p := [Value.string a, u]) rfl (Nat.le_of_lt hk) (by rw [Array.length_toList]; omega) hCl hRt hL1 hL2
  rw [Array.length_toList (xs := ROW)] at r2 r3
  have h1p : ∀ v ∈ [Value.string a, u], v.oneCell' = true := by
    intro v hv
    rcases List.mem_cons.1 hv with rfl | hv
    · rfl
    · rw [List.mem_singleton.1 hv]; exact hu1
  obtain ⟨W1, hW1⟩ : ∃ W1, W1 = w.drew.alloc (.cells ROW 126) := ⟨_, rfl⟩
  rw [← hW1] at hrz
  have hN1 : W1.heap[w.heap.size]? = some (.cells ROW 126 (0, 0)) := by rw [hW1]; exact heap_alloc_new w.drew _
  have hgv1 : W1.heap[gv]? = some (.cells #[.string a, u] 126 (0, 0)) := by rw [hW1]; exact (Lib.alloc_old w.drew _ gv hvl).trans hgv
  have hcA : ∀ ty dc, (Builtin.copy_ #[104, 104] ty #[.slice (some ⟨w.heap.size, k * 2, none⟩) (n + 1 - k) dc, .slice (some ⟨gv, 0, none⟩) 1 1]).run Try.prog W1 = .ok (goInt 1) (W1.setRow w.heap.size L1.toArray) := fun ty dc => by
    have h := run_copy_rows (P := Try.prog) W1 104 104 ty 126 w.heap.size (k * 2) (n + 1 - k) dc ⟨gv, 0, none⟩ 1 1 1 2 ROW 126 [Value.string a, u] Try.underlying104 exc_size hN1 (by simp only [Nat.min_def]; split <;> omega) rfl
      (fun j v hj => by rw [Addr.add_lit, Lib.cell_of_heap hgv1, Nat.zero_add, ← Array.getElem?_toList]; exact hj) (by rw [hRs]; show k * 2 + 2 ≤ _; omega) h1p
    rw [h, hL1]
    rfl
  obtain ⟨W2, hW2⟩ : ∃ W2, W2 = W1.setRow w.heap.size L1.toArray := ⟨_, rfl⟩
  rw [← hW2] at hcA
  have hN2 : W2.drew.heap[w.heap.size]? = some (.cells L1.toArray 126 (0, 0)) := by rw [hW2]; exact setRow_heap W1 w.heap.size ROW L1.toArray _ _ hN1
  have hg2 : W2.drew.heap[g0]? = some (.cells cur 126 (0, 0)) := by
    rw [hW2]
    show (W1.setRow w.heap.size L1.toArray).heap[g0]? = _
    unfold World.setRow
    simp only [Array.getElem?_modify]
    rw [if_neg (by omega), hW1]
    exact (Lib.alloc_old w.drew _ g0 hgl).trans hg0
  have hcB : ∀ ty dc sc, (Builtin.copy_ #[104, 104] ty #[.slice (some ⟨w.heap.size, (k + 1) * 2, none⟩) (n - k) dc, .slice (some ⟨g0, k * 2, none⟩) (n - k) sc]).run Try.prog W2.drew = .ok (goInt ((n - k : Nat) : Int)) (W2.drew.setRow w.heap.size L2.toArray) := fun ty dc sc => by
    rw [hL2]
    exact run_copy_rows W2.drew _ _ ty 126 w.heap.size ((k + 1) * 2) (n - k) dc ⟨g0, k * 2, none⟩ (n - k) sc (n - k) 2 L1.toArray 126 (C.drop (k * 2)) Try.underlying104 exc_size hN2 (by simp only [Nat.min_def]; split <;> omega) (by rw [List.length_drop, hCl]; omega)
      (fun j v hj => by
        rw [Addr.add_lit, Lib.cell_of_heap hg2, ← Array.getElem?_toList]
        have hj2 : C[k * 2 + j]? = some v := by rwa [List.getElem?_drop] at hj
        have hjl : k * 2 + j < n * 2 := by have := (List.getElem?_eq_some_iff.1 hj2).1; omega
        rw [← hC, List.getElem?_take, if_pos hjl] at hj2
        exact hj2) (by rw [List.size_toArray, r3, hRs, List.length_drop, hCl]; omega) (fun v hv => h1c v (List.mem_of_mem_drop hv))
  have HN3 := Lib.hid (show (W2.drew.setRow w.heap.size L2.toArray).heap[w.heap.size]? = some (.cells L2.toArray 126 (0, 0)) from setRow_heap W2.drew w.heap.size L1.toArray L2.toArray _ _ hN2)
  have HLOW := Lib.hid (show Below w.heap.size w (W2.drew.setRow w.heap.size L2.toArray) by
    have h1 : Below w.heap.size w W1 := by rw [hW1]; exact andAlloc (Below.drew (Below.refl _ _)) _
    have h2 : Below w.heap.size w W2 := by rw [hW2]; exact below_row h1 _ _ (Nat.le_refl _)
    exact below_row (Below.drew h2) _ _ (Nat.le_refl _))
  have HR := Lib.hid (And.intro r1 (r2.trans hRs))
  have HG := Lib.hid (And.intro hGn hGm)
  have hz2 : ¬ ((k : Int) = (n : Int)) := by omega
  have hz3 : (cap : Int) < (n : Int) + 1 := by omega
  have hw1 : IntKind.i64.wrap ((k : Int) + 1) = (k : Int) + 1 := IntWalk.i64_in _ (by omega)
  have hw2 : IntKind.i64.wrap ((n : Int) + 1) = (n : Int) + 1 := IntWalk.i64_in _ (by omega)
  have hw3 : IntKind.i64.wrap ((n : Int) + 1 - (k : Int)) = (n : Int) + 1 - k := IntWalk.i64_in _ (by omega)
  have hcm2 : cap ≤ 9223372036854775807 := by omega
  have hG63 : G ≤ 9223372036854775807 := by unfold maxLen at hGm; omega
  have hb1 : (0 : Int) ≤ (k : Int) + 1 := by omega
  have htn : ((k : Int) + 1).toNat = k + 1 := by omega
  have hb2 : ¬ (G = k + 1) := by omega
  have hb3 : (k : Int) ≤ (n : Int) := by omega
  have hb4 : ¬ (G = k) := by omega
  have hb6 : ¬ (cap = k) := by omega
  have hb5 : k ≤ n := by omega
  have hb7 : k ≤ cap := by omega
  clear r1 r2 r3 hL1 hL2 hCl hcell h1c hu1 h1p hC hgv hg0 hW1 hW2 hN1 hN2 hg2 hgv1 hRt hRs hROW hG hold hkk hik hi0 hz0 hzs hzb hvl hgl hGm
  go_enter Try.func85, Try.ntmps85
  go_wp2_with (first
    | (at_builtin; refine Lib.wpList_append_run _ rfl _ _ _ _ rfl _ _ rfl rfl _ _ (hrz _) ?_)
    | (at_builtin; refine wpList_copy_run _ rfl _ _ 104 104 rfl _ _ rfl rfl (hcA _ _) ?_))
  go_region_law (refine step_copy_run rfl _ _ 104 104 rfl _ _ (by simp [Act.eval, Act.put]) (by simp [Act.eval, Act.put]) (hcB _ _ _) ?_)
  go_wp2_with fail
  go_ret
  exact ⟨G, L2.toArray, rfl, HG.out.1, HG.out.2, HN3.out, HR.out.2, HR.out.1, HLOW.out⟩
theorem xcells_one {X : List Xc} {us : List Value} (h : ∀ y ∈ us, y.oneCell' = true) : ∀ v ∈ xcells X us, v.oneCell' = true := by
  intro v hv
  unfold xcells at hv
  obtain ⟨q, hq, hv⟩ := List.mem_flatMap.1 hv
  have hq2 := (List.of_mem_zip (a := q.1) (b := q.2) hq).2
  rcases List.mem_cons.1 hv with rfl | hv
  · rfl
  · rw [List.mem_singleton.1 hv]
    exact h _ hq2
/-- Insert puts any exception in its place. -/
theorem ins_any (X : List Xc) (x : Xc) : InsP X x := by
  by_cases hk : xk X x.1 = X.length
  · exact ins_end X x hk
  have hle := xk_le X x.1
  intro w B xv u g us hus hus1 hown hu1 hg hgv hB hfew
  have hins := xcells_ins (X := X) (us := us) hus hle x u
  have hl := hown.1
  rcases hown.2 with ⟨rfl, h0⟩ | ⟨g0, cap, cur, rfl, hBg, hg0, hnc, hcm, hcs, hC⟩
  · omega
  have hkl : xk X x.1 < X.length := by omega
  have hne : g ≠ g0 := fun e => hgv (by rw [e]; rfl)
  have hlen : (xcells (insAt X (xk X x.1) x) (insAt us (xk X x.1) u)).length = (X.length + 1) * 2 := by
    rw [hins, List.length_append, List.length_append, List.length_take, List.length_drop, hl]
    show _ + 2 + _ = _
    omega
  by_cases hr : X.length + 1 ≤ cap
  · refine (ins_room w g0 g X.length cap (xk X x.1) cur (xcells X us) (S x.1) u hkl hr hcm hcs hC hg0 hg hne (xcells_one hus1) hu1).mono ?_
    rintro e w' ⟨rfl, c2, rfl, hs, ht⟩
    exact ⟨_, rfl, ⟨hlen, .inr ⟨g0, cap, c2, rfl, hBg, setRow_heap w.drew g0 cur c2 _ _ hg0, hr, hcm, hs, ht.trans hins.symm⟩⟩, setrow_grown w g0 c2, .inl rfl⟩
  · refine (ins_grow w g0 g X.length cap (xk X x.1) cur (xcells X us) (S x.1) u hkl hnc (by omega) hfew hcs hC hg0 hg (xcells_one hus1) hu1).mono ?_
    rintro e w' ⟨G, c2, rfl, hGn, hGm, hN, hs, ht, hlow⟩
    exact ⟨_, rfl, ⟨hlen, .inr ⟨w.heap.size, G, c2, rfl, hB, hN, hGn, hGm, hs, ht.trans hins.symm⟩⟩, ⟨hlow.os, hlow.tape, hlow.output, hlow.size, fun k hk _ => hlow.block k hk⟩, .inr ⟨_, rfl, Nat.le_refl _⟩⟩
end Go.Proofs.Ytmcekdjhkjhcdaa.Hy

import Derived.Test.YtmcekdjhkjhcdaaGreatDoorNodeAp
import Derived.Test.YtmcekdjhkjhcdaaGreatDoorNv
/- The contract of three. Conditions: those that each theorem names. -/
namespace Go.Proofs.YtmcekdjhkjhcdaaGreatDoor.No
open Go.ChangeShapes Go.WideShapes Go.ChangeAt Go.RowKit
open Me Np
set_option linter.unusedVariables false
set_option linter.unusedSimpArgs false

/-- Where the answer of an append lies: where the row lay, or in a new block. -/
theorem run_append_where {w : World} (ty : TypeId) (base : Nat) (v : Value) (n : Nat) (xs : List Value) (hown : w.ownsRow base 36 19 v n xs) (b off c : Nat) (l : List Nd) (hc : ∀ j u, (l.flatMap ncs)[j]? = some u → w.cell? ⟨b, off + j, none⟩ = some u) (hn : n + l.length ≤ 100000) :
    ∃ v' w', (Builtin.append_ #[22, 22] ty #[v, .slice (some ⟨b, off, none⟩) l.length c]).run Tryz.prog w = .ok v' w' ∧ (v'.ownBlock = v.ownBlock ∨ v'.ownBlock = some w.heap.size) := by
  obtain ⟨i, hi, hz, hsi, hbi⟩ := info_parts node_row
  have hnews : ∀ j u, (l.flatMap ncs)[j]? = some u → w.cell? ((⟨b, off, none⟩ : Addr).add j) = some u := fun j u hu => by
    have hadd : (⟨b, off, none⟩ : Addr).add j = ⟨b, off + j, none⟩ := by unfold Addr.add; split <;> simp_all
    rw [hadd]
    exact hc j u hu
  have hl : (l.flatMap ncs).length = l.length * i.size := by rw [hsi]; exact flat_length ncs_length l
  rcases hown.2 with ⟨rfl, h0⟩ | ⟨g, cap, cur, rfl, hbg, hg, hnc, hcm, hcs, htake⟩
  · by_cases hm : l.length = 0
    · have h0 := List.eq_nil_of_length_eq_zero hm
      subst h0
      refine ⟨.slice none 0 0, w, ?_, .inl rfl⟩
      simp [Builtin.append_, run_underlying (show Tryz.prog.underlying 22 = some (.slice 36) from Tryz.underlying22), sizeOf, typeInfo, hi, Builtin.lenOf, Builtin.firstCells, loadCells, loadCellsFrom]
    · exact ⟨_, _, run_append_nil (P := Tryz.prog) w 22 ty 36 i _ Tryz.underlying22 hi hz ⟨b, off, none⟩ l.length c (l.flatMap ncs) hl hnews (by omega) (by omega) (by rw [hbi]; omega), .inr rfl⟩
  · by_cases hroom : n + l.length ≤ cap
    · have hfit : n * i.size + (l.flatMap ncs).length ≤ cur.size := by rw [hl, hcs, hsi, ← Nat.add_mul]; exact Nat.mul_le_mul_right _ hroom
      exact ⟨_, _, run_append_room (P := Tryz.prog) w 22 ty 36 i Tryz.underlying22 hi g n cap cur hg ⟨b, off, none⟩ l.length c (l.flatMap ncs) hl hnews (ncs_one l) hroom hfit, .inl rfl⟩
    · have holds : ∀ j u, xs[j]? = some u → w.cell? ((⟨g, 0, none⟩ : Addr).add j) = some u := hown.cells (g := g) rfl
      exact ⟨_, _, run_append_grow (P := Tryz.prog) w 22 ty 36 i _ Tryz.underlying22 hi hz ⟨g, 0, none⟩ n cap xs (by rw [hsi]; exact hown.1) holds ⟨b, off, none⟩ l.length c (l.flatMap ncs) hl hnews (by omega) (by omega) (growslice_fits (by omega) (by rw [hbi]; omega)), .inr rfl⟩
/-- The same together with what the row holds. -/
theorem run_append_own_at {w : World} (ty : TypeId) (base : Nat) (hbase : base ≤ w.heap.size) (v : Value) (n : Nat) (xs : List Value) (hown : w.ownsRow base 36 19 v n xs) (b off c : Nat) (l : List Nd) (hb : l = [] ∨ b < w.heap.size) (hc : ∀ j u, (l.flatMap ncs)[j]? = some u → w.cell? ⟨b, off + j, none⟩ = some u) (hn : n + l.length ≤ 100000) :
    ∃ v' w', (Builtin.append_ #[22, 22] ty #[v, .slice (some ⟨b, off, none⟩) l.length c]).run Tryz.prog w = .ok v' w' ∧ w'.ownsRow base 36 19 v' (n + l.length) (xs ++ l.flatMap ncs) ∧ w.grownBy w' v.ownBlock ∧ (v'.ownBlock = v.ownBlock ∨ v'.ownBlock = some w.heap.size) := by
  obtain ⟨v', w', hr, h2, h3⟩ := run_append_nodes ty base hbase v n xs hown (some ⟨b, off, none⟩) c l (.inl ⟨b, off, rfl, hb, hc⟩) hn
  obtain ⟨v2, w2, hr2, h4⟩ := run_append_where ty base v n xs hown b off c l hc hn
  rw [hr] at hr2
  injection hr2 with e1 e2
  subst e1
  exact ⟨v', w', hr, h2, h3, h4⟩
theorem step_append_at {ops : Array Oper} {o : Oper} {a : Act} {w : World} {K : Act → World → Prop} {Q : Exit → Act → World → Prop} {E : Prop} (hgd : o.guard = none) (s x : Operand) (ho : o.op = .call { callee := .builtin .append, args := #[s, x], argTypes := #[22, 22] })
    (base : Nat) (hbase : base ≤ w.heap.size) (v : Value) (n : Nat) (xs : List Value) (hs : a.eval s = v) (hown : w.ownsRow base 36 19 v n xs) (b off c len : Nat) (l : List Nd) (hx : a.eval x = .slice (some ⟨b, off, none⟩) len c) (hlen : len = l.length) (hb : l = [] ∨ b < w.heap.size) (hc : ∀ j u, (l.flatMap ncs)[j]? = some u → w.cell? ⟨b, off + j, none⟩ = some u) (hn : n + l.length ≤ 100000)
    (h : ∀ v' w', w'.ownsRow base 36 19 v' (n + l.length) (xs ++ l.flatMap ncs) → w.grownBy w' v.ownBlock → (v'.ownBlock = v.ownBlock ∨ v'.ownBlock = some w.heap.size) → K (a.put o.dst v') w') :
    if Region.wanted o (yielded ops a.tmps) = true then Oper.wp Tryz.prog o a w K Q else E := by
  have hw : Region.wanted o (yielded ops a.tmps) = true := by simp [Region.wanted, hgd]
  subst hlen
  rw [if_pos hw]
  obtain ⟨v', w', hr, h2, h3, h4⟩ := run_append_own_at o.type base hbase v n xs hown b off c l hb hc hn
  unfold Oper.wp execOp
  simp only [ho, resolve, invoke, builtin, Sem.run_bind, Sem.run_pure, Result.andThen_ok, List.map_toArray, List.map_cons, List.map_nil, hs, hx, hr]
  exact h v' w' h2 h3 h4

/-- Three slices in a block. -/
def tc3 (vs : Nat → Value) : Array Value := #[vs 0, vs 1, vs 2]
theorem tc3_size (vs : Nat → Value) : (tc3 vs).size = 3 := rfl
theorem tc3_at {vs : Nat → Value} {k : Nat} (h : k < 3) : (tc3 vs)[k]? = some (vs k) := by
  match k, h with
  | 0, _ => rfl
  | 1, _ => rfl
  | 2, _ => rfl
theorem tc3_set {vs : Nat → Value} {k : Nat} (h : k < 3) (u : Value) : (tc3 vs).setIfInBounds k u = tc3 (fun j => if j = k then u else vs j) := by
  match k, h with
  | 0, _ => rfl
  | 1, _ => rfl
  | 2, _ => rfl
theorem three_info : (Tryz.prog.info? 75).map (·.size) = some 3 := by kernel_rfl
/-- Rows of one's own, each of another block. -/
structure Own3 (w : World) (base : Nat) (vs : Nat → Value) (L : Nat → List Nd) : Prop where
  own : ∀ j, j < 3 → w.ownsRow base 36 19 (vs j) (L j).length ((L j).flatMap ncs)
  dist : ∀ i j, i < 3 → j < 3 → i ≠ j → (vs i).ownBlock = none ∨ (vs i).ownBlock ≠ (vs j).ownBlock
theorem Own3.below {w w' : World} {base : Nat} {vs : Nat → Value} {L : Nat → List Nd} (h : Own3 w base vs L) (hb : Below w.heap.size w w') : Own3 w' base vs L :=
  ⟨fun j hj => own_below (h.own j hj) hb, h.dist⟩
theorem Own3.nil (w : World) (base : Nat) : Own3 w base (fun _ => .slice none 0 0) (fun _ => []) :=
  ⟨fun j _ => World.ownsRow_nil _ _ _ _, fun i j _ _ _ => .inl rfl⟩
theorem Own3.grown {w w' : World} {base : Nat} {vs : Nat → Value} {L : Nat → List Nd} (h : Own3 w base vs L) {k : Nat} (hk : k < 3) {v' : Value} {l : List Nd} (hown : w'.ownsRow base 36 19 v' ((L k).length + l.length) ((L k).flatMap ncs ++ l.flatMap ncs)) (hg : w.grownBy w' (vs k).ownBlock) (hv : v'.ownBlock = (vs k).ownBlock ∨ v'.ownBlock = some w.heap.size) :
    Own3 w' base (fun j => if j = k then v' else vs j) (fun j => if j = k then L k ++ l else L j) := by
  have hold : ∀ j, j < 3 → ∀ q, (vs j).ownBlock = some q → q < w.heap.size := fun j hj q hq => ((h.own j hj).lt q hq).2
  refine ⟨fun j hj => ?_, fun i j hi hj hne => ?_⟩
  · by_cases e : j = k
    · subst e
      simp only [if_true]
      rw [List.length_append, List.flatMap_append]
      exact hown
    · simp only [if_neg e]
      exact (h.own j hj).kept (row := (vs k).ownBlock) hg (h.dist j k hj hk e)
  · by_cases e1 : i = k
    · subst e1
      have e2 : ¬ j = i := fun e => hne e.symm
      simp only [if_true, if_neg e2]
      rcases hv with hv | hv
      · rw [hv]
        exact h.dist i j hi hj hne
      · right
        rw [hv]
        intro e
        have := hold j hj _ e.symm
        omega
    · by_cases e2 : j = k
      · subst e2
        simp only [if_true, if_neg e1]
        rcases hv with hv | hv
        · rw [hv]
          exact h.dist i j hi hj hne
        · right
          rw [hv]
          intro e
          have := hold i hi _ e
          omega
      · simp only [if_neg e1, if_neg e2]
        exact h.dist i j hi hj hne
/-- What the loop of three holds in memory. -/
structure Mem3 (w : World) (vs : Nat → Value) (L : Nat → List Nd) (wr : World) : Prop where
  blk : Blk wr (w.heap.size + 1) 75 (tc3 vs)
  own : Own3 wr (w.heap.size + 2) vs L
  low : Below w.heap.size w wr
  res : Blk wr w.heap.size 75 (tc3 fun _ => .slice none 0 0)
theorem Mem3.below {w : World} {vs : Nat → Value} {L : Nat → List Nd} {wr w' : World} (h : Mem3 w vs L wr) (hb : Below wr.heap.size wr w') : Mem3 w vs L w' :=
  ⟨h.blk.below hb h.blk.lt, h.own.below hb, andThen h.low hb, h.res.below hb h.res.lt⟩
theorem Mem3.drew {w : World} {vs : Nat → Value} {L : Nat → List Nd} {wr : World} (h : Mem3 w vs L wr) : Mem3 w vs L wr.drew := h.below (below_drewN (Below.refl _ _) 1)
/-- One row grows, and its slice is stored. -/
theorem Mem3.grow {w : World} {vs : Nat → Value} {L : Nat → List Nd} {wr w' : World} (h : Mem3 w vs L wr) {k : Nat} (hk : k < 3) {v' : Value} {l : List Nd} (hown : w'.ownsRow (w.heap.size + 2) 36 19 v' ((L k).length + l.length) ((L k).flatMap ncs ++ l.flatMap ncs)) (hg : wr.grownBy w' (vs k).ownBlock) (hv : v'.ownBlock = (vs k).ownBlock ∨ v'.ownBlock = some wr.heap.size) :
    Mem3 w (fun j => if j = k then v' else vs j) (fun j => if j = k then L k ++ l else L j) (w'.setCell ⟨w.heap.size + 1, k, none⟩ v') := by
  have hlt : ∀ q, (vs k).ownBlock = some q → w.heap.size + 2 ≤ q := fun q hq => ((h.own.own k hk).lt q hq).1
  have hlow : Below w.heap.size w w' := below_grown (Nat.le_refl _) h.low hg fun q hq => by have := hlt q hq; omega
  have hb1 : Blk w' (w.heap.size + 1) 75 (tc3 vs) := h.blk.grown hg fun e => by have := hlt _ e.symm; omega
  have hb2 : Blk w' w.heap.size 75 (tc3 fun _ => .slice none 0 0) := h.res.grown hg fun e => by have := hlt _ e.symm; omega
  have ho := h.own.grown hk hown hg hv
  refine ⟨by rw [← tc3_set hk]; exact hb1.set k v', ⟨fun j hj => ?_, ho.dist⟩, hlow.setCell (by simp) _, hb2.far (by simp) v'⟩
  have hoj := ho.own j hj
  refine hoj.kept (row := some (w.heap.size + 1)) ⟨rfl, rfl, rfl, by simp, fun q _ hq => heap_setCell_other w' ⟨w.heap.size + 1, k, none⟩ q v' (fun e => hq (by simp [e]))⟩ ?_
  right
  intro e
  have := (hoj.lt _ e).1
  omega
/-- What the loop of three holds. -/
structure Inv3 (ns : List Nd) (w : World) (F : Nat → List Nd) (last : Nat) (k i : Nat) (wr : World) : Prop where
  k2 : k ≤ 2
  rest : ∃ ss r L vs, D3 ss (ns.drop i) k r ∧ i + r = last ∧ (∀ j, L j ++ thr ss (ns.drop i) k j = F j) ∧ Mem3 w vs L wr
theorem drop_cons {l : List Nd} {k : Nat} {x : Nd} {l' : List Nd} (h : l.drop k = x :: l') : l[k]? = some x ∧ l.drop (k + 1) = l' := by
  constructor
  · have := List.getElem?_drop (xs := l) (i := k) (j := 0)
    rw [h] at this
    simpa using this.symm
  · have : l.drop (k + 1) = (l.drop k).drop 1 := by rw [List.drop_drop]
    rw [this, h]
    rfl
end Go.Proofs.YtmcekdjhkjhcdaaGreatDoor.No

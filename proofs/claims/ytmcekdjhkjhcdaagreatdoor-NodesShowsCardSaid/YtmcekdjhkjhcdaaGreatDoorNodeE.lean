import Derived.Test.YtmcekdjhkjhcdaaGreatDoorNodeRt
/- Contracts of opens and small; what a walk over a list of nodes carries along. Conditions: those that each theorem names. -/
namespace Go.Proofs.YtmcekdjhkjhcdaaGreatDoor.No
open Go.ChangeShapes Go.WideShapes Go.ChangeAt Go.RowKit
open Me Np
set_option linter.unusedVariables false

theorem opens_any (n : Nd) (w : World) : Calls Tryz.prog 23 #[.agg (nc n)] w fun e w' => e = .returned (.bool (opensB n)) ∧ w.alloc (.cells (nc n) 36) = w' := by
  go_enter Tryz.func23, Tryz.ntmps23
  go_wp2_with fail
  all_goals (go_ret; exact ⟨ret_bool (by simp_all [opensB]), rfl⟩)
theorem small_any (n : Nd) (w : World) : Calls Tryz.prog 22 #[.agg (nc n)] w fun e w' => e = .returned (.bool (smallB n)) ∧ w.alloc (.cells (nc n) 36) = w' := by
  go_enter Tryz.func22, Tryz.ntmps22
  go_wp2_with fail
  all_goals (go_ret; exact ⟨ret_bool (by simp_all [smallB]), rfl⟩)

/-- The cells of a list of nodes. -/
def ncs (n : Nd) : List Value := (nc n).toList
theorem ncs_length (n : Nd) : (ncs n).length = 19 := rfl
/-- Node k of a list in memory. -/
theorem seg_node {w : World} {B : Nat} {A : Option Addr} {l : List Nd} {k : Nat} {n : Nd} (h : Seg w B A (l.flatMap ncs)) (hk : l[k]? = some n) : ∃ b off : Nat, A = some ⟨b, off, none⟩ ∧ b < B ∧ NodeAt w b (off + k * 19) n := by
  obtain ⟨b, off, hA, hb, hc⟩ := h.row ncs_length hk (by omega)
  exact ⟨b, off, hA, hb, fun j u hu => hc j u hu⟩

theorem grown_of_below {w w' : World} (h : Below w.heap.size w w') (row : Option Nat) : w.grownBy w' row := ⟨h.os, h.tape, h.output, h.size, fun k hk _ => h.block k hk⟩
theorem own_below {w w' : World} {base : Nat} {e : TypeId} {size n : Nat} {v : Value} {xs : List Value} (h : w.ownsRow base e size v n xs) (hb : Below w.heap.size w w') : w'.ownsRow base e size v n xs :=
  h.kept (grown_of_below hb none) (by cases v.ownBlock <;> simp)
theorem own_shrink {w : World} {base : Nat} {e : TypeId} {g n c m : Nat} {xs : List Value} (h : w.ownsRow base e 1 (.slice (some ⟨g, 0, none⟩) n c) n xs) (hm : m ≤ n) : w.ownsRow base e 1 (.slice (some ⟨g, 0, none⟩) m c) m (xs.take m) := by
  have hl := h.1
  rcases h.2 with ⟨h', _⟩ | ⟨g', cap', cur, h', hb, hg, hnc, hcm, hcs, htake⟩
  · simp at h'
  · simp only [Value.slice.injEq, Option.some.injEq, Addr.mk.injEq, and_true, true_and] at h'
    obtain ⟨rfl, rfl⟩ := h'
    refine ⟨by rw [List.length_take]; omega, .inr ⟨g, c, cur, rfl, hb, hg, by omega, hcm, hcs, ?_⟩⟩
    rw [← htake, List.take_take]
    congr 1
    omega
theorem below_grown {B : Nat} {a w w' : World} {row : Option Nat} (hB : B ≤ a.heap.size) (h : Below B a w) (hg : w.grownBy w' row) (hr : ∀ k, row = some k → B ≤ k) : Below B a w' :=
  ⟨hg.os.trans h.os, hg.tape.trans h.tape, hg.output.trans h.output, Nat.le_trans h.size hg.size, fun k hk => (hg.block k (Nat.lt_of_lt_of_le hk (Nat.le_trans hB h.size)) (fun e => by have := hr k e.symm; omega)).trans (h.block k hk)⟩

/-- What the loop of Check holds: what is open, how deep it went; the table; all that was there. -/
structure InvC (ns : List Nd) (w : World) (k : Nat) (st : List Int) (d : Int) (v : Value) (wr : World) : Prop where
  run : Np.run (ns.take k) ([], 0) = some (st, d)
  own : wr.ownsRow (w.heap.size + 3) 3 1 v st.length (st.reverse.map (Value.int .i64))
  tab : Blk wr (w.heap.size + 2) 62 (ktab (w.heap.size + 1))
  chr : wr.cell? ⟨w.heap.size + 1, 0, none⟩ = some (.func (.func 38) #[] #[])
  low : Below w.heap.size w wr
  size : w.heap.size + 3 ≤ wr.heap.size
theorem InvC.grown {ns : List Nd} {w : World} {k : Nat} {st : List Int} {d : Int} {v : Value} {wr w' : World} {k' : Nat} {st' : List Int} {d' : Int} {v' : Value} (h : InvC ns w k st d v wr) (hg : wr.grownBy w' v.ownBlock)
    (hr : Np.run (ns.take k') ([], 0) = some (st', d')) (ho : w'.ownsRow (w.heap.size + 3) 3 1 v' st'.length (st'.reverse.map (Value.int .i64))) : InvC ns w k' st' d' v' w' := by
  have hlt := h.own.lt
  refine ⟨hr, ho, ?_, ?_, below_grown (Nat.le_refl _) h.low hg (fun k hk => by have := hlt k hk; omega), Nat.le_trans h.size hg.size⟩
  · exact Blk.grown h.tab hg (fun e => by have := hlt _ e.symm; omega)
  · exact hg.cell h.chr (fun e => by have := hlt _ e.symm; simp only at this; omega)
theorem InvC.below {ns : List Nd} {w : World} {k : Nat} {st : List Int} {d : Int} {v : Value} {wr w' : World} (h : InvC ns w k st d v wr) (hb : Below wr.heap.size wr w') : InvC ns w k st d v w' :=
  h.grown (grown_of_below hb _) h.run (own_below h.own hb)
theorem InvC.alloc {ns : List Nd} {w : World} {k : Nat} {st : List Int} {d : Int} {v : Value} {wr : World} (h : InvC ns w k st d v wr) (o : Obj) : InvC ns w k st d v (wr.alloc o) := h.below (andAlloc (Below.refl _ _) o)
/-- The topmost of what is open, in memory. -/
theorem InvC.top {ns : List Nd} {w : World} {k : Nat} {t : Int} {r : List Int} {d : Int} {v : Value} {wr : World} (h : InvC ns w k (t :: r) d v wr) :
    ∃ g c : Nat, v = .slice (some ⟨g, 0, none⟩) (r.length + 1) c ∧ r.length + 1 ≤ c ∧ c ≤ maxLen ∧ g < wr.heap.size ∧ w.heap.size + 3 ≤ g := by
  have ho := h.own
  rcases ho.2 with ⟨_, h'⟩ | ⟨g, c, cur, rfl, hb, hg, hnc, hcm, hcs, htake⟩
  · simp at h'
  · exact ⟨g, c, rfl, hnc, hcm, (Array.getElem?_eq_some_iff.1 hg).1, hb⟩
theorem InvC.topCell {ns : List Nd} {w : World} {k : Nat} {t : Int} {r : List Int} {d : Int} {g c : Nat} {wr : World} (h : InvC ns w k (t :: r) d (.slice (some ⟨g, 0, none⟩) (r.length + 1) c) wr) :
    wr.cell? ⟨g, r.length, none⟩ = some (.int .i64 t) ∧ wr.frozen? ⟨g, r.length, none⟩ = false := by
  have ho := h.own
  refine ⟨?_, World.ownsRow.frozenAt ho _⟩
  rw [World.ownsRow.cellAt ho r.length (by simp)]
  simp
theorem InvC.nilOpen {ns : List Nd} {w : World} {k : Nat} {d : Int} {v : Value} {wr : World} (h : InvC ns w k [] d v wr) : ∃ (A : Option Addr) (c : Nat), v = .slice A 0 c ∧ c ≤ maxLen := by
  rcases h.own.2 with ⟨rfl, _⟩ | ⟨g, c, cur, rfl, hb, hg, hnc, hcm, hcs, htake⟩
  · exact ⟨none, 0, rfl, by simp [maxLen]⟩
  · exact ⟨_, c, rfl, hcm⟩
theorem InvC.open_ {ns : List Nd} {w : World} {k : Nat} {st : List Int} {d : Int} {v : Value} {wr : World} (h : InvC ns w k st d v wr) : ∃ (A : Option Addr) (c : Nat), v = .slice A st.length c ∧ st.length ≤ c ∧ c ≤ maxLen := by
  rcases h.own.2 with ⟨rfl, h0⟩ | ⟨g, c, cur, rfl, hb, hg, hnc, hcm, hcs, htake⟩
  · exact ⟨none, 0, by rw [h0], by omega, by simp [maxLen]⟩
  · exact ⟨_, c, rfl, hnc, hcm⟩
end Go.Proofs.YtmcekdjhkjhcdaaGreatDoor.No

import Derived.Test.YtmcekdjhkjhcdaaHb
/- A trie in memory; the contracts of New and good. Conditions: those that each theorem names. -/
namespace Go.Proofs.Ytmcekdjhkjhcdaa.Hy
open Go.ChangeShapes Go.WideShapes Go.ChangeAt Go.RowKit
open Me Hp
set_option linter.unusedVariables false
set_option linter.unusedSimpArgs false

theorem info_state : (Try.prog.info? 141).map (fun i => (i.zero, i.size, i.bytes)) = some (some (.agg zer.toArray), 28, 240) := by kernel_rfl
theorem ne_state : (141 : Nat) ≠ 3 := by decide
theorem ne_hyph : (106 : Nat) ≠ 3 := by decide
theorem ne_hyph2 : (106 : Nat) ≠ 141 := by decide
/-- The values that stand at a name. -/
def valAt (w : World) (B : Nat) (P : List Pt) (s : Nm) (v : Value) : Prop := match luk P s with
  | none => v = .slice none 0 0
  | some l => v ≠ .slice none 0 0 ∧ w.ownsRow B 3 1 v l.length (l.map iv)
/-- A trie with the states ns, that holds patterns P, in memory: at p, in blocks from B on. -/
structure TrAt (w : World) (B p : Nat) (ns : List Nm) (P : List Pt) (v xv : Value) : Prop where
  tri : Tri ns
  keys : ∀ q ∈ P, q.1 ∈ ns
  blk : Blk w p 106 #[v, .int .i64 (P.length : Int), xv]
  low : B ≤ p
  row : ∃ vs : List Value, vs.length = ns.length ∧ w.ownsRow B 141 28 v ns.length (tc ns vs) ∧ ∀ (k : Nat) (s : Nm) (u : Value), ns[k]? = some s → vs[k]? = some u → valAt w B P s u
/-- Patterns P in memory. -/
structure HyAt (w : World) (B p : Nat) (P : List Pt) (v xv : Value) : Prop where
  pats : Pats P
  tr : TrAt w B p (nsOf P) P v xv
theorem valAt.kept {w w' : World} {B : Nat} {P : List Pt} {s : Nm} {v : Value} (h : valAt w B P s v) (hk : ∀ (n : Nat) (xs : List Value), w.ownsRow B 3 1 v n xs → w'.ownsRow B 3 1 v n xs) : valAt w' B P s v := by
  unfold valAt at h ⊢
  split
  · rename_i hl; rw [hl] at h; exact h
  · rename_i l hl; rw [hl] at h; exact ⟨h.1, hk _ _ h.2⟩
theorem TrAt.below {w w' : World} {B p : Nat} {ns : List Nm} {P : List Pt} {v xv : Value} (h : TrAt w B p ns P v xv) (hb : Below w.heap.size w w') : TrAt w' B p ns P v xv := by
  obtain ⟨vs, h1, h2, h3⟩ := h.row
  exact ⟨h.tri, h.keys, h.blk.below hb h.blk.lt, h.low, vs, h1, own_below h2 hb, fun k s u hk hu => (h3 k s u hk hu).kept fun n xs ho => own_below ho hb⟩
theorem HyAt.below {w w' : World} {B p : Nat} {P : List Pt} {v xv : Value} (h : HyAt w B p P v xv) (hb : Below w.heap.size w w') : HyAt w' B p P v xv := ⟨h.pats, h.tr.below hb⟩
theorem TrAt.slice {w : World} {B p : Nat} {ns : List Nm} {P : List Pt} {v xv : Value} (h : TrAt w B p ns P v xv) : ∃ g c : Nat, v = .slice (some ⟨g, 0, none⟩) ns.length c ∧ ns.length ≤ c ∧ B ≤ g ∧ g < w.heap.size ∧ c ≤ maxLen ∧ 0 < ns.length ∧ p ≠ g := by
  obtain ⟨vs, h1, h2, h3⟩ := h.row
  have h0 := List.length_pos_of_mem h.tri.nil_mem
  rcases h2.2 with ⟨_, h4⟩ | ⟨g, cap, cur, h', hb, hg, hnc, hcm, hcs, htake⟩
  · omega
  · refine ⟨g, cap, h', hnc, hb, (Array.getElem?_eq_some_iff.1 hg).1, hcm, h0, ?_⟩
    rintro rfl
    have hp : w.heap[p]? = some (.cells _ 106 (0, 0)) := h.blk
    rw [hg] at hp
    simp only [Option.some.injEq, Obj.cells.injEq] at hp
    exact absurd hp.2.1 (by decide)
/-- Where a sign leads. -/
theorem TrAt.next {w : World} {B p g cap : Nat} {ns : List Nm} {P : List Pt} {xv : Value} (h : TrAt w B p ns P (.slice (some ⟨g, 0, none⟩) ns.length cap) xv) {s : Nm} {c : UInt8} (hs : s ∈ ns) (hc : okS c = true) {q : Nat} (hq : sgn c = q) :
    w.cell? ⟨g, ix ns s * 28 + q, none⟩ = some (.int .i64 (ix ns (s ++ [c]) : Int)) ∧ ∀ j, w.frozen? ⟨g, j, none⟩ = false := by
  obtain ⟨vs, h1, h2, h3⟩ := h.row
  obtain ⟨c0, c1, c2⟩ := sgn_ok c hc
  have hk := ix_lt h.tri s
  obtain ⟨u, hu⟩ := get_some (l := vs) (k := ix ns s) (by omega)
  have h4 := tc_next (ix_get hs) hu (j := q) (by omega)
  have h5 : chr q = c := by rw [hq] at c2; exact c2
  rw [h5] at h4
  exact ⟨(h2.cellAt _ (by omega)).trans h4, fun j => h2.frozenAt j⟩
/-- What stands at a name. -/
theorem TrAt.val {w : World} {B p g cap : Nat} {ns : List Nm} {P : List Pt} {xv : Value} (h : TrAt w B p ns P (.slice (some ⟨g, 0, none⟩) ns.length cap) xv) {s : Nm} (hs : s ∈ ns) :
    ∃ u, w.cell? ⟨g, ix ns s * 28 + 27, none⟩ = some u ∧ valAt w B P s u := by
  obtain ⟨vs, h1, h2, h3⟩ := h.row
  have hk := ix_lt h.tri s
  obtain ⟨u, hu⟩ := get_some (l := vs) (k := ix ns s) (by omega)
  exact ⟨u, (h2.cellAt _ (by omega)).trans (tc_val (ix_get hs) hu), h3 _ _ _ (ix_get hs) hu⟩
theorem make_one (w : World) : (Instr.makeSlice 103 (.int .i64 1) (.int .i64 1)).run Try.prog w = .ok (.slice (some ⟨w.heap.size, 0, none⟩) 1 1) (w.alloc (.cells zer.toArray 141)) := by
  kernel_rfl
theorem good_any (B p : Nat) (P : List Pt) (v xv : Value) (w : World) (h : HyAt w B p P v xv) : Calls Try.prog 61 #[.pointer (some ⟨p, 0, none⟩)] w fun e w' => e = .returned (.bool true) ∧ w' = w := by
  obtain ⟨g, c, rfl, _⟩ := h.tr.slice
  have h0 := h.tr.blk.cell 0
  have h1 : (0 : Int) < ((nsOf P).length : Int) := by have := List.length_pos_of_mem h.pats.tri.nil_mem; omega
  clear h
  go_enter Try.func61, Try.ntmps61
  go_wp2
  go_ret
  exact ⟨rfl, rfl⟩
theorem good_nil (w : World) : Calls Try.prog 61 #[.pointer none] w fun e w' => e = .returned (.bool false) ∧ w' = w := by
  go_enter Try.func61, Try.ntmps61
  go_wp2
  go_ret
  exact ⟨rfl, rfl⟩
theorem tc_one : tc [[]] [.slice none 0 0] = zer := by
  have h : ∀ j, ix [[]] ([] ++ [chr j]) = 0 := fun j => ix_no (by simp)
  simp [tc, rw_, nx, zer, h]
  rfl
set_option maxRecDepth 100000 in
theorem new_any (w : World) : Calls Try.prog 49 #[] w fun e w' => Below w.heap.size w w' ∧ ∃ p v, e = .returned (.pointer (some ⟨p, 0, none⟩)) ∧ HyAt w' w.heap.size p [] v (.slice none 0 0) := by
  have hmk := make_one w
  go_enter Try.func49, Try.ntmps49
  go_wp2
  go_ret
  refine ⟨andAlloc (andAlloc (Below.refl _ _) _) _, _, _, rfl, Pats.nil, Tri.one, by simp, Blk.new' (by simp), by simp, [.slice none 0 0], rfl, ?_, ?_⟩
  · show World.ownsRow _ _ _ _ _ 1 (tc [[]] [.slice none 0 0])
    rw [tc_one]
    exact (World.ownsRow_lit w zer.toArray 1 (Nat.le_refl _) (by simp [maxLen]) rfl).alloc _
  · intro k s u hk hu
    match k, hu with
    | 0, hu =>
      injection hu with hu
      subst hu
      rfl
end Go.Proofs.Ytmcekdjhkjhcdaa.Hy

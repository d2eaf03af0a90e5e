import Derived.Test.YtmcekdjhkjhcdaaHc
import Derived.RegionTactic
import Derived.BigRegion
import Derived.Deep.QuietTactic
import Derived.BigQuiet
import Derived.Deep.RegionWith
import Derived.Deep.CutBlock
/- The contract of Pattern: its steps in memory. Conditions: those that each theorem names. -/
namespace Go.Proofs.Ytmcekdjhkjhcdaa.Hy
open Go.ChangeShapes Go.WideShapes Go.ChangeAt Go.RowKit
open Me Hp
set_option linter.unusedVariables false
set_option linter.unusedSimpArgs false

theorem own_succ {w : World} {base : Nat} {e : TypeId} {size n : Nat} {v : Value} {xs : List Value} (h : w.ownsRow base e size v (n + 1) xs) : ∃ g c : Nat, v = .slice (some ⟨g, 0, none⟩) (n + 1) c := by
  rcases h.2 with ⟨_, h0⟩ | ⟨g, cap, cur, h', hb, hg, hnc, hcm, hcs, htake⟩
  · omega
  · exact ⟨g, cap, h'⟩
theorem own_base {w : World} {base base' : Nat} {e : TypeId} {size n : Nat} {v : Value} {xs : List Value} (h : w.ownsRow base e size v n xs) (hb : base' ≤ base) : w.ownsRow base' e size v n xs := by
  rcases h.2 with ⟨h1, h2⟩ | ⟨g, cap, cur, h', hb', hg, hnc, hcm, hcs, htake⟩
  · exact ⟨h.1, .inl ⟨h1, h2⟩⟩
  · exact ⟨h.1, .inr ⟨g, cap, cur, h', Nat.le_trans hb hb', hg, hnc, hcm, hcs, htake⟩⟩
/-- A row of integers is no block of states, and no record of a trie. -/
theorem own_not_g {w : World} {B b2 g cap n n2 : Nat} {v : Value} {xs x2 : List Value} (h : w.ownsRow B 3 1 v n xs) (h2 : w.ownsRow b2 141 28 (.slice (some ⟨g, 0, none⟩) n2 cap) n2 x2) : v.ownBlock = none ∨ v.ownBlock ≠ some g := own_apart h h2 ne_state.symm
theorem own_not_p {w : World} {B p n : Nat} {v : Value} {xs : List Value} {cs : Array Value} {e : TypeId} {size : Nat} (h : w.ownsRow B e size v n xs) (hb : Blk w p 106 cs) (he : e ≠ 106) : v.ownBlock = none ∨ v.ownBlock ≠ some p := by
  rcases h.2 with ⟨rfl, _⟩ | ⟨g, cap, cur, rfl, _, hg, _⟩
  · exact .inl rfl
  · refine .inr ?_
    intro e
    have e' : g = p := by simpa [Value.ownBlock] using e
    subst e'
    have hp : w.heap[g]? = some (.cells _ 106 (0, 0)) := hb
    rw [hg] at hp
    simp only [Option.some.injEq, Obj.cells.injEq] at hp
    exact he hp.2.1
theorem grown_set (w : World) (g j : Nat) (u : Value) : w.grownBy (w.setCell ⟨g, j, none⟩ u) (some g) := ⟨rfl, rfl, rfl, by simp, fun k _ hk => heap_setCell_other w ⟨g, j, none⟩ k u (fun e => hk (by simp [e]))⟩
/-- What Pattern leaves as it lay; where its trie lies. -/
structure Frm (w0 : World) (p : Nat) (v0 : Value) (w : World) (v : Value) : Prop where
  same : ∀ k : Nat, k < w0.heap.size → k ≠ p → some k ≠ v0.ownBlock → w.heap[k]? = w0.heap[k]?
  at_ : v.ownBlock = v0.ownBlock ∨ ∃ g, v.ownBlock = some g ∧ w0.heap.size ≤ g
theorem Frm.of_below {w0 w : World} (p : Nat) (v : Value) (h : Below w0.heap.size w0 w) : Frm w0 p v w v := ⟨fun k hk _ _ => h.block k hk, .inl rfl⟩
theorem Frm.below {w0 w w' : World} {p : Nat} {v0 v : Value} (h : Frm w0 p v0 w v) (hz : w0.heap.size ≤ w.heap.size) (hb : Below w.heap.size w w') : Frm w0 p v0 w' v :=
  ⟨fun k hk h1 h2 => (hb.block k (by omega)).trans (h.same k hk h1 h2), h.at_⟩
theorem Frm.ne {w0 w : World} {p : Nat} {v0 v : Value} {g k : Nat} (h : Frm w0 p v0 w v) (hv : v.ownBlock = some g) (hk : k < w0.heap.size) (h2 : some k ≠ v0.ownBlock) : k ≠ g := by
  rcases h.at_ with h3 | ⟨g', h3, h4⟩
  · rintro rfl
    exact h2 (by rw [← h3, hv])
  · rw [hv] at h3
    injection h3 with h3
    omega
theorem Frm.set {w0 w : World} {p : Nat} {v0 v : Value} {g : Nat} (h : Frm w0 p v0 w v) (hv : v.ownBlock = some g) (j : Nat) (u : Value) : Frm w0 p v0 (w.setCell ⟨g, j, none⟩ u) v :=
  ⟨fun k hk h1 h2 => (heap_setCell_other w ⟨g, j, none⟩ k u (fun e => h.ne hv hk h2 (by simpa using e))).trans (h.same k hk h1 h2), h.at_⟩
theorem Frm.setp {w0 w : World} {p : Nat} {v0 v : Value} (h : Frm w0 p v0 w v) (j : Nat) (u : Value) : Frm w0 p v0 (w.setCell ⟨p, j, none⟩ u) v :=
  ⟨fun k hk h1 h2 => (heap_setCell_other w ⟨p, j, none⟩ k u (fun e => h1 (by simpa using e))).trans (h.same k hk h1 h2), h.at_⟩
theorem Frm.trans {w0 w1 w2 : World} {p : Nat} {v0 v1 v2 : Value} (h : Frm w0 p v0 w1 v1) (k : Frm w1 p v1 w2 v2) (hz : w0.heap.size ≤ w1.heap.size) : Frm w0 p v0 w2 v2 := by
  refine ⟨fun i hi h1 h2 => ?_, ?_⟩
  · refine (k.same i (by omega) h1 ?_).trans (h.same i hi h1 h2)
    intro e
    rcases h.at_ with h3 | ⟨g, h3, h4⟩
    · exact h2 (e.trans h3)
    · rw [h3] at e
      injection e with e
      omega
  · rcases k.at_ with h3 | ⟨g, h3, h4⟩
    · rw [h3]; exact h.at_
    · exact .inr ⟨g, h3, by omega⟩
/-- What Pattern holds while it puts in a pattern: the trie; the pattern's values; all that was there. -/
structure Mid (w0 : World) (v0 : Value) (B p : Nat) (ns : List Nm) (P : List Pt) (v xv : Value) (v6 : Value) (l : List Int) (w : World) : Prop where
  tr : TrAt w B p ns P v xv
  vals : w.ownsRow B 3 1 v6 l.length (l.map iv)
  low : Below B w0 w
  size : B ≤ w.heap.size
  frm : Frm w0 p v0 w v
theorem Mid.below {w0 : World} {v0 : Value} {B p : Nat} {ns : List Nm} {P : List Pt} {v xv v6 : Value} {l : List Int} {w w' : World} (h : Mid w0 v0 B p ns P v xv v6 l w) (hb : Below w.heap.size w w') : Mid w0 v0 B p ns P v xv v6 l w' :=
  ⟨h.tr.below hb, own_below h.vals hb, h.low.trans (hb.mono h.size), Nat.le_trans h.size hb.size, h.frm.below h.low.size hb⟩
/-- A state that leads to a new one is being made: the old state is written, the new one not yet there. -/
structure Half (w0 : World) (v0 : Value) (B p : Nat) (ns : List Nm) (P : List Pt) (g cap : Nat) (xv : Value) (v6 : Value) (l : List Int) (s : Nm) (c : UInt8) (vs : List Value) (w : World) : Prop where
  tri : Tri ns
  keys : ∀ q ∈ P, q.1 ∈ ns
  blk : Blk w p 106 #[.slice (some ⟨g, 0, none⟩) ns.length cap, .int .i64 (P.length : Int), xv]
  low : B ≤ p
  ne : p ≠ g
  len : vs.length = ns.length
  own : w.ownsRow B 141 28 (.slice (some ⟨g, 0, none⟩) ns.length cap) ns.length ((tc ns vs).set (ix ns s * 28 + (sgn c).toNat) (.int .i64 (ns.length : Int)))
  vat : ∀ (k : Nat) (s : Nm) (u : Value), ns[k]? = some s → vs[k]? = some u → valAt w B P s u
  vals : w.ownsRow B 3 1 v6 l.length (l.map iv)
  lowb : Below B w0 w
  size : B ≤ w.heap.size
  frm : Frm w0 p v0 w (.slice (some ⟨g, 0, none⟩) ns.length cap)
theorem Mid.half {w0 : World} {v0 : Value} {B p : Nat} {ns : List Nm} {P : List Pt} {g cap : Nat} {xv v6 : Value} {l : List Int} {w : World} (h : Mid w0 v0 B p ns P (.slice (some ⟨g, 0, none⟩) ns.length cap) xv v6 l w) (s : Nm) (c : UInt8) {q : Nat} (hq : sgn c = q) {z : Int} (hz : z = ns.length) :
    ∃ vs, Half w0 v0 B p ns P g cap xv v6 l s c vs (w.setCell ⟨g, ix ns s * 28 + q, none⟩ (.int .i64 z)) := by
  subst hz
  obtain ⟨vs, h1, h2, h3⟩ := h.tr.row
  obtain ⟨g', c', e1, _, hBg, _, _, _, hpg⟩ := h.tr.slice
  injection e1 with e1 _ _
  injection e1 with e1
  injection e1 with e1 _ _
  subst e1
  have hq' : (sgn c).toNat = q := by omega
  have hst := h2.stored (ix ns s * 28 + q) (.int .i64 (ns.length : Int))
  have hk : ∀ (n : Nat) (u : Value) (xs : List Value), w.ownsRow B 3 1 u n xs → (w.setCell ⟨g, ix ns s * 28 + q, none⟩ (.int .i64 (ns.length : Int))).ownsRow B 3 1 u n xs := fun n u xs ho => ho.kept hst.2 (own_not_g ho h2)
  refine ⟨vs, h.tr.tri, h.tr.keys, h.tr.blk.far hpg _, h.tr.low, hpg, h1, by rw [hq']; exact hst.1, fun k s u a b => (h3 k s u a b).kept (fun n xs => hk n _ xs), hk _ _ _ h.vals, below_set h.low hBg _ _, by simpa using h.size, h.frm.set rfl _ _⟩
theorem Half.below {w0 : World} {v0 : Value} {B p : Nat} {ns : List Nm} {P : List Pt} {g cap : Nat} {xv v6 : Value} {l : List Int} {s : Nm} {c : UInt8} {vs : List Value} {w w' : World} (h : Half w0 v0 B p ns P g cap xv v6 l s c vs w) (hb : Below w.heap.size w w') : Half w0 v0 B p ns P g cap xv v6 l s c vs w' :=
  ⟨h.tri, h.keys, h.blk.below hb h.blk.lt, h.low, h.ne, h.len, own_below h.own hb, fun k s u a b => (h.vat k s u a b).kept fun n xs ho => own_below ho hb, own_below h.vals hb, h.lowb.trans (hb.mono h.size), Nat.le_trans h.size hb.size, h.frm.below h.lowb.size hb⟩
theorem Half.done {w0 : World} {v0 : Value} {B p : Nat} {ns : List Nm} {P : List Pt} {g cap : Nat} {xv v6 v' : Value} {l : List Int} {s : Nm} {c : UInt8} {vs : List Value} {w w' : World} {zs : Array Value} {vb : Option Nat} (h : Half w0 v0 B p ns P g cap xv v6 l s c vs w) (hs : s ∈ ns) (hc : okS c = true) (hn : s ++ [c] ∉ ns) (hzs : zs.toList = zer) (hvb : vb = some g)
    (ho : w'.ownsRow B 141 28 v' (ns.length + 1) ((tc ns vs).set (ix ns s * 28 + (sgn c).toNat) (.int .i64 (ns.length : Int)) ++ zs.toList))
    (hg : (w.alloc (.cells zs 141)).grownBy w' vb) (hwh : v'.ownBlock = vb ∨ ∃ q, v'.ownBlock = some q ∧ w.heap.size ≤ q) : Mid w0 v0 B p (ns ++ [s ++ [c]]) P v' xv v6 l (w'.setCell ⟨p, 0, none⟩ v') := by
  subst hvb
  have h1 := h.len
  have h2 := h.own
  have h3 := h.vat
  rw [hzs, tc_grow h.tri h1 hs hc hn] at ho
  have h2a := h2.alloc (.cells zs 141)
  have hBg : B ≤ g := (h2.lt g rfl).1
  have hk1 : ∀ (n : Nat) (u : Value) (xs : List Value), w.ownsRow B 3 1 u n xs → w'.ownsRow B 3 1 u n xs := fun n u xs hu => (hu.alloc _).kept hg (own_not_g (hu.alloc _) h2a)
  have hb' : Blk w' p 106 #[.slice (some ⟨g, 0, none⟩) ns.length cap, .int .i64 (P.length : Int), xv] := (h.blk.alloc _).grown hg (by intro e; injection e with e; exact h.ne e)
  have hk2 : ∀ (n : Nat) (u : Value) (xs : List Value), w.ownsRow B 3 1 u n xs → (w'.setCell ⟨p, 0, none⟩ v').ownsRow B 3 1 u n xs := fun n u xs hu => (hk1 n u xs hu).kept (grown_set w' p 0 v') (own_not_p (hk1 n u xs hu) hb' ne_hyph.symm)
  have hlen : (ns ++ [s ++ [c]]).length = ns.length + 1 := by simp
  have hlow : Below B w0 w' := h.lowb.trans (below_grown (a := w) h.size ((Below.refl B w).alloc h.size _) hg (fun k e => by injection e with e; omega))
  refine ⟨⟨?_, fun q hq => by simp [h.keys q hq], ?_, h.low, vs ++ [.slice none 0 0], by simp [h1], ?_, ?_⟩, hk2 _ _ _ h.vals, below_set hlow h.low _ _, ?_, ?_⟩
  · have := h.tri.grow hs hc
    unfold grow at this
    rwa [if_neg hn] at this
  · have := hb'.set 0 v'
    exact this
  · rw [hlen]
    exact ho.kept (grown_set w' p 0 v') (own_not_p ho hb' ne_hyph2.symm)
  · intro k t u hk hu
    rcases Nat.lt_or_ge k ns.length with hkl | hkl
    · rw [List.getElem?_append_left hkl] at hk
      rw [List.getElem?_append_left (by omega)] at hu
      exact (h3 k t u hk hu).kept (fun n xs => hk2 n _ xs)
    · have hke : k = ns.length := by
        have := (List.getElem?_eq_some_iff.1 hk).1
        simp at this
        omega
      subst hke
      rw [List.getElem?_append_right (by omega), h1, Nat.sub_self] at hu
      rw [List.getElem?_append_right (by omega), Nat.sub_self] at hk
      simp at hk hu
      subst hk hu
      have hln : luk P (s ++ [c]) = none := luk_none.2 fun q hq e => hn (e ▸ h.keys q hq)
      unfold valAt
      rw [hln]
  · have h5 := hg.size
    have h6 := h.size
    simp only [World.size_setCell, World.size_alloc] at h5 ⊢
    omega
  · have hz := h.lowb.size
    refine Frm.setp (v := v') ⟨fun k hk h7 h8 => ?_, ?_⟩ 0 v'
    · have h9 := h.frm.ne (g := g) rfl hk h8
      refine ((hg.block k (by simp; omega) (by intro e; injection e with e; exact h9 e)).trans (Below.heap_alloc w _ k (by omega))).trans (h.frm.same k hk h7 h8)
    · rcases hwh with h7 | ⟨q, h7, h8⟩
      · have h9 := h.frm.at_
        rw [h7]
        exact h9
      · exact .inr ⟨q, h7, by omega⟩
theorem Half.blkG {w0 : World} {v0 : Value} {B p : Nat} {ns : List Nm} {P : List Pt} {g cap : Nat} {xv v6 : Value} {l : List Int} {s : Nm} {c : UInt8} {vs : List Value} {w w' : World} {o : Obj} {vb : Option Nat} (h : Half w0 v0 B p ns P g cap xv v6 l s c vs w) (hvb : vb = some g) (hg : (w.alloc o).grownBy w' vb) :
    Blk w' p 106 #[.slice (some ⟨g, 0, none⟩) ns.length cap, .int .i64 (P.length : Int), xv] := by
  subst hvb
  exact (h.blk.alloc _).grown hg (by intro e; injection e with e; exact h.ne e)
/-- The pattern's values are put in, and it is counted. -/
theorem Mid.fin {w0 : World} {v0 : Value} {B p : Nat} {ns : List Nm} {P : List Pt} {g cap : Nat} {xv v6 : Value} {l : List Int} {w : World} (h : Mid w0 v0 B p ns P (.slice (some ⟨g, 0, none⟩) ns.length cap) xv v6 l w) {s : Nm} (hs : s ∈ ns) (hp : Pats (P ++ [(s, l)])) (hns : ns = nsOf (P ++ [(s, l)])) (hl : luk P s = none) (hv : v6 ≠ .slice none 0 0) {z : Int} (hz : z = P.length + 1) :
    HyAt ((w.setCell ⟨g, ix ns s * 28 + 27, none⟩ v6).setCell ⟨p, 1, none⟩ (.int .i64 z)) B p (P ++ [(s, l)]) (.slice (some ⟨g, 0, none⟩) ns.length cap) xv ∧ Below B w0 ((w.setCell ⟨g, ix ns s * 28 + 27, none⟩ v6).setCell ⟨p, 1, none⟩ (.int .i64 z)) ∧ Frm w0 p v0 ((w.setCell ⟨g, ix ns s * 28 + 27, none⟩ v6).setCell ⟨p, 1, none⟩ (.int .i64 z)) (.slice (some ⟨g, 0, none⟩) ns.length cap) := by
  subst hz
  obtain ⟨vs, h1, h2, h3⟩ := h.tr.row
  obtain ⟨g', c', e1, _, hBg, _, _, _, hpg⟩ := h.tr.slice
  injection e1 with e1 _ _
  injection e1 with e1
  injection e1 with e1 _ _
  subst e1
  have hst := h2.stored (ix ns s * 28 + 27) v6
  have hb1 : Blk (w.setCell ⟨g, ix ns s * 28 + 27, none⟩ v6) p 106 #[.slice (some ⟨g, 0, none⟩) ns.length cap, .int .i64 (P.length : Int), xv] := h.tr.blk.far hpg _
  have hk1 : ∀ (n : Nat) (u : Value) (xs : List Value), w.ownsRow B 3 1 u n xs → (w.setCell ⟨g, ix ns s * 28 + 27, none⟩ v6).ownsRow B 3 1 u n xs := fun n u xs ho => ho.kept hst.2 (own_not_g ho h2)
  have hk2 : ∀ (n : Nat) (u : Value) (xs : List Value), w.ownsRow B 3 1 u n xs → ((w.setCell ⟨g, ix ns s * 28 + 27, none⟩ v6).setCell ⟨p, 1, none⟩ (.int .i64 ((P.length : Int) + 1))).ownsRow B 3 1 u n xs := fun n u xs hu => (hk1 n u xs hu).kept (grown_set _ p 1 _) (own_not_p (hk1 n u xs hu) hb1 ne_hyph.symm)
  have hlow := below_set (below_set h.low hBg (ix ns s * 28 + 27) v6) h.tr.low 1 (.int .i64 ((P.length : Int) + 1))
  refine ⟨⟨hp, ?_⟩, hlow, (h.frm.set rfl _ _).setp _ _⟩
  rw [← hns]
  refine ⟨h.tr.tri, fun q hq => ?_, ?_, h.tr.low, vs.set (ix ns s) v6, by simp [h1], ?_, ?_⟩
  · simp only [List.mem_append, List.mem_singleton] at hq
    rcases hq with hq | rfl
    · exact h.tr.keys q hq
    · exact hs
  · have := hb1.set 1 (.int .i64 ((P.length : Int) + 1))
    have e : ((P ++ [(s, l)]).length : Int) = (P.length : Int) + 1 := by simp
    rw [e]
    exact this
  · rw [← tc_set h1 (ix_lt h.tr.tri s)]
    exact hst.1.kept (grown_set _ p 1 _) (own_not_p hst.1 hb1 ne_hyph2.symm)
  · intro k t u hk hu
    unfold valAt
    rw [luk_snoc hl]
    by_cases ht : t = s
    · subst ht
      have hke : k = ix ns t := (ix_at h.tr.tri hk).symm
      subst hke
      rw [List.getElem?_set_self (by have := ix_lt h.tr.tri t; omega)] at hu
      injection hu with hu
      subst hu
      rw [if_pos rfl]
      exact ⟨hv, hk2 _ _ _ h.vals⟩
    · rw [if_neg ht]
      have hke : ix ns s ≠ k := by
        rintro rfl
        rw [ix_get hs] at hk
        injection hk with hk
        exact ht hk.symm
      rw [List.getElem?_set_ne hke] at hu
      exact (h3 k t u hk hu).kept (fun n xs => hk2 n _ xs)
end Go.Proofs.Ytmcekdjhkjhcdaa.Hy

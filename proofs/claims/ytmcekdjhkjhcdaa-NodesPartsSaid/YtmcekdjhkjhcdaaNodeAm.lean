import Derived.Test.YtmcekdjhkjhcdaaPw
import Derived.Test.YtmcekdjhkjhcdaaNodeE
import Derived.Test.YtmcekdjhkjhcdaaNodeRt
import Derived.Deep.MidRow
import Derived.Test.YtmcekdjhkjhcdaaNodeBr
/- Merged texts. Conditions: those that each theorem names. -/
section
namespace Go.Proofs.Ytmcekdjhkjhcdaa.No
open Go.ChangeShapes Go.WideShapes Go.ChangeAt Go.RowKit
open Me Np
set_option linter.unusedVariables false
set_option linter.unusedSimpArgs false

theorem grown_refl (w : World) (r : Option Nat) : w.grownBy w r := ⟨rfl, rfl, rfl, Nat.le_refl _, fun _ _ _ => rfl⟩
theorem grown_trans {w a b : World} {r : Option Nat} (h : w.grownBy a r) (k : a.grownBy b r) : w.grownBy b r :=
  ⟨k.os.trans h.os, k.tape.trans h.tape, k.output.trans h.output, Nat.le_trans h.size k.size, fun q hq hne => (k.block q (by have := h.size; omega) hne).trans (h.block q hq hne)⟩
theorem grown_set (w : World) (g j : Nat) (u : Value) : w.grownBy (w.setCell ⟨g, j, none⟩ u) (some g) := ⟨rfl, rfl, rfl, by simp, fun k _ hk => heap_setCell_other w ⟨g, j, none⟩ k u (fun e => hk (by simp [e]))⟩
theorem grown_cells (g : Nat) : ∀ (vs : List Value) (o : Nat) (w : World), w.grownBy (w.setCells g o vs) (some g)
  | [], _, w => grown_refl w _
  | v :: r, o, w => grown_trans (grown_set w g o v) (grown_cells g r (o + 1) _)
/-- A list, written over from a place on. -/
def over : List Value → Nat → List Value → List Value
  | xs, _, [] => xs
  | xs, o, v :: r => over (xs.set o v) (o + 1) r
theorem over_length : ∀ (vs : List Value) (xs : List Value) (o : Nat), (over xs o vs).length = xs.length
  | [], _, _ => rfl
  | v :: r, xs, o => by rw [over, over_length r, List.length_set]
theorem over_out : ∀ (vs : List Value) (xs : List Value) (o i : Nat), i < o ∨ o + vs.length ≤ i → (over xs o vs)[i]? = xs[i]?
  | [], _, _, _, _ => rfl
  | v :: r, xs, o, i, h => by
    simp only [List.length_cons] at h
    rw [over, over_out r _ _ _ (by omega), List.getElem?_set_ne (by omega)]
theorem over_in : ∀ (vs : List Value) (xs : List Value) (o i : Nat), o + vs.length ≤ xs.length → i < vs.length → (over xs o vs)[o + i]? = vs[i]?
  | [], _, _, _, _, h => by simp at h
  | v :: r, xs, o, 0, h, _ => by
    simp only [List.length_cons] at h
    show (over (xs.set o v) (o + 1) r)[o]? = some v
    rw [ over_out r (xs.set o v) (o + 1) o (by omega), List.getElem?_set_self (by omega)]
  | v :: r, xs, o, i + 1, h, hi => by
    simp only [List.length_cons] at h hi
    rw [over, show o + (i + 1) = o + 1 + i by omega, over_in r _ _ _ (by rw [List.length_set]; omega) (by omega)]
    rfl
theorem over_node (l : List Nd) (k : Nat) (x : Nd) (hk : k < l.length) : over (l.flatMap ncs) (k * 19) (ncs x) = (l.set k x).flatMap ncs := by
  apply List.ext_getElem?
  intro i
  have h1 := flat_length ncs_length l
  have h2 := flat_length ncs_length (l.set k x)
  rw [List.length_set] at h2
  have hx : (ncs x).length = 19 := ncs_length x
  rcases Nat.lt_or_ge i (l.length * 19) with hi | hi
  · obtain ⟨r, q, hr, hq, rfl⟩ : ∃ r q, r < l.length ∧ q < 19 ∧ i = r * 19 + q := ⟨i / 19, i % 19, by omega, by omega, by omega⟩
    obtain ⟨y, hy⟩ : ∃ y, l[r]? = some y := ⟨l[r], List.getElem?_eq_getElem hr⟩
    by_cases hrk : r = k
    · subst hrk
      rw [over_in _ _ _ _ (by rw [h1, hx]; omega) (by rw [hx]; exact hq)]
      exact (flat_get ncs_length _ r x q (by rw [List.getElem?_set_self hr]) hq).symm
    · rw [over_out _ _ _ _ (by rw [hx]; omega), flat_get ncs_length _ r y q hy hq, flat_get ncs_length _ r y q (by rw [List.getElem?_set_ne (by omega)]; exact hy) hq]
  · rw [List.getElem?_eq_none (by rw [over_length]; omega), List.getElem?_eq_none (by omega)]
theorem own_overs {base : Nat} {e : TypeId} {size g n cap : Nat} : ∀ (vs : List Value) (o : Nat) (w : World) (xs : List Value), w.ownsRow base e size (.slice (some ⟨g, 0, none⟩) n cap) n xs → (w.setCells g o vs).ownsRow base e size (.slice (some ⟨g, 0, none⟩) n cap) n (over xs o vs)
  | [], _, _, _, h => h
  | v :: r, o, w, xs, h => own_overs r (o + 1) _ _ (h.stored o v).1
/-- A node is stored in a row of one's own. -/
theorem own_node {w : World} {base g n cap : Nat} {l : List Nd} (h : w.ownsRow base 31 19 (.slice (some ⟨g, 0, none⟩) n cap) n (l.flatMap ncs)) (k : Nat) (hk : k < l.length) (x : Nd) :
    (w.setCells g (k * 19) (ncs x)).ownsRow base 31 19 (.slice (some ⟨g, 0, none⟩) n cap) n ((l.set k x).flatMap ncs) := by
  rw [← over_node l k x hk]
  exact own_overs _ _ _ _ h
theorem own_there {w : World} {base g n cap : Nat} {l : List Nd} (h : w.ownsRow base 31 19 (.slice (some ⟨g, 0, none⟩) n cap) n (l.flatMap ncs)) (k : Nat) (hk : k < n) : w.there g (k * 19) 19 := by
  intro j hj
  have hl := h.1
  refine ⟨?_, h.frozenAt _⟩
  rw [h.cellAt _ (by omega)]
  rw [List.getElem?_eq_getElem (by omega)]
  rfl
theorem nc_there (n : Nd) : (Try.prog.info? 31).map (·.size) = some (nc n).size := node_info
attribute [local go_sem ↓] bldN_eq
set_option maxHeartbeats 1000000 in
set_option maxRecDepth 100000 in
theorem spoil_any (g n c : Nat) (w : World) (hn : n ≤ 9223372036854775806) (hc : n ≤ c) (ht : ∀ k, k < n → w.there g (k * 19) 19) :
    Calls Try.prog 39 #[.slice (some ⟨g, 0, none⟩) n c] w fun e w' => e = .returned (.tuple #[]) ∧ w.grownBy w' (some g) := by
  have HT := Lib.hid ht
  have hb99 := run_bldN 99
  clear ht
  go_enter Try.func39, Try.ntmps39
  go_wp2_with fail
  go_loopw [2] (fun v2 wr => ∃ k : Nat, k ≤ n ∧ v2 = .int .i64 (k : Int) ∧ w.grownBy wr (some g) ∧ ∀ k, k < n → wr.there g (k * 19) 19) (fun v2 _ => n - (intOf v2).toNat)
  case atStart => exact ⟨0, by omega, rfl, grown_refl _ _, HT.out⟩
  case round =>
    obtain ⟨k, hk, rfl, hg, ht⟩ := hrel
    have HG := Lib.hid (And.intro hg ht)
    clear hg ht
    by_cases hlt : k < n
    · go_wp2_with (first | (refine wpList_store_mid (op := ⟨none, .store _ (.tmp 12) (.tmp 11), _, _, _, _⟩) rfl 31 _ _ rfl g (k * 19) (nc (nz 99)) ?_ rfl (HG.out.2 k hlt) (nc_there _) (nc_one _) ?_; simp [go_sem]))
      go_roundw
      case rel => exact ⟨k + 1, by omega, by go_num, grown_trans HG.out.1 (grown_cells g _ _ _), fun q hq => World.there_setCells (HG.out.2 q hq) _ _ _⟩
      case measure => simp [intOf]; omega
    · obtain rfl : k = n := by omega
      go_wp2_with fail
      go_end0
      exact ⟨rfl, HG.out.1⟩
end Go.Proofs.Ytmcekdjhkjhcdaa.No
end
section
namespace Go.Proofs.Ytmcekdjhkjhcdaa.No
open Go.ChangeShapes Go.WideShapes Go.ChangeAt Go.RowKit
open Me Np
set_option linter.unusedVariables false
set_option linter.unusedSimpArgs false

/-- A value that reads as a list of nodes, from the head of a block of nodes. -/
def RowAt (w : World) (v : Value) (l : List Nd) : Prop := (v = .slice none 0 0 ∧ l = []) ∨ ∃ g c cs, v = .slice (some ⟨g, 0, none⟩) l.length c ∧ l.length ≤ c ∧ Blk w g 31 cs ∧ ∀ (j : Nat) (u : Value), (l.flatMap ncs)[j]? = some u → cs[j]? = some u
def Away (v : Value) (r : Option Nat) : Prop := v.ownBlock = none ∨ v.ownBlock ≠ r
theorem RowAt.grown {w w' : World} {v : Value} {l : List Nd} {r : Option Nat} (h : RowAt w v l) (hg : w.grownBy w' r) (ha : Away v r) : RowAt w' v l := by
  rcases h with h | ⟨g, c, cs, rfl, hc, hb, hcs⟩
  · exact .inl h
  · refine .inr ⟨g, c, cs, rfl, hc, hb.grown hg ?_, hcs⟩
    rcases ha with ha | ha
    · cases ha
    · exact ha
theorem RowAt.below {w w' : World} {v : Value} {l : List Nd} (h : RowAt w v l) (hb : Below w.heap.size w w') : RowAt w' v l := by
  rcases h with h | ⟨g, c, cs, rfl, hc, hk, hcs⟩
  · exact .inl h
  · exact .inr ⟨g, c, cs, rfl, hc, hk.below hb hk.lt, hcs⟩
theorem RowAt.seg {w : World} {v : Value} {l : List Nd} (h : RowAt w v l) : ∃ A c, v = .slice A l.length c ∧ l.length ≤ c ∧ Seg w w.heap.size A (l.flatMap ncs) := by
  rcases h with ⟨rfl, rfl⟩ | ⟨g, c, cs, rfl, hc, hk, hcs⟩
  · exact ⟨none, 0, rfl, Nat.le_refl _, .inl rfl⟩
  · exact ⟨_, c, rfl, hc, .inr ⟨g, 0, rfl, hk.lt, fun j u hu => by rw [Nat.zero_add, hk.cell]; exact hcs j u hu⟩⟩
theorem RowAt.of_own {w : World} {base n : Nat} {v : Value} {l : List Nd} (h : w.ownsRow base 31 19 v n (l.flatMap ncs)) : RowAt w v l := by
  have hl := h.1
  rw [flat_length ncs_length] at hl
  have : n = l.length := by omega
  subst this
  rcases h.2 with ⟨h1, h2⟩ | ⟨g, cap, cur, h', _, hg, h1, _, _, ht⟩
  · exact .inl ⟨h1, List.eq_nil_of_length_eq_zero h2⟩
  · refine .inr ⟨g, cap, cur, h', h1, hg, fun j u hu => ?_⟩
    rw [← ht, List.getElem?_take] at hu
    split at hu
    · simpa using hu
    · cases hu
theorem away_none (v : Value) : Away v none := by
  unfold Away
  cases v.ownBlock <;> simp
/-- Where a row of one's own begins. -/
def Shape (v : Value) (n : Nat) : Prop := (v = .slice none 0 0 ∧ n = 0) ∨ ∃ g c, v = .slice (some ⟨g, 0, none⟩) n c ∧ n ≤ c
theorem own_shape {w : World} {base : Nat} {e : TypeId} {size n : Nat} {v : Value} {xs : List Value} (h : w.ownsRow base e size v n xs) : Shape v n := by
  rcases h.2 with h' | ⟨g, cap, cur, h', _, _, h1, _⟩
  · exact .inl h'
  · exact .inr ⟨g, cap, h', h1⟩
/-- The beginning of a row of one's own. -/
theorem RowAt.before {w : World} {base n : Nat} {v v' : Value} {l m : List Nd} (h : w.ownsRow base 31 19 v' n ((l ++ m).flatMap ncs)) (hs : Shape v l.length) (hb : v'.ownBlock = v.ownBlock) : RowAt w v l := by
  rcases hs with ⟨rfl, h0⟩ | ⟨g, c, rfl, hc⟩
  · exact .inl ⟨rfl, List.eq_nil_of_length_eq_zero h0⟩
  · rcases RowAt.of_own h with ⟨rfl, _⟩ | ⟨g', c', cs, rfl, _, hk, hcs⟩
    · cases hb
    · have e : g' = g := by
        have : some g' = some g := hb
        injection this
      subst e
      refine .inr ⟨g', c, cs, rfl, hc, hk, fun j u hu => hcs j u ?_⟩
      rw [List.flatMap_append, List.getElem?_append_left (List.getElem?_eq_some_iff.1 hu).1]
      exact hu
theorem ne_nodes : (31 : Nat) ≠ 22 := by decide
theorem own_ne_blk {w : World} {base : Nat} {e t : TypeId} {size n g k c : Nat} {xs : List Value} {cs : Array Value} (h : w.ownsRow base e size (.slice (some ⟨g, 0, none⟩) n c) n xs) (hb : Blk w k t cs) (hne : e ≠ t) : k ≠ g := by
  rintro rfl
  rcases h.2 with ⟨h', _⟩ | ⟨g', cap, cur, h', _, hg, _⟩
  · cases h'
  · injection h' with h' _ _
    injection h' with h'
    injection h' with h' _ _
    subst h'
    have hp : w.heap[k]? = some (.cells _ t (0, 0)) := hb
    rw [hg] at hp
    simp only [Option.some.injEq, Obj.cells.injEq] at hp
    exact hne hp.2.1
theorem own_away_blk {w : World} {base : Nat} {e t : TypeId} {size n k : Nat} {v : Value} {xs : List Value} {cs : Array Value} (h : w.ownsRow base e size v n xs) (hb : Blk w k t cs) (hne : e ≠ t) : some k ≠ v.ownBlock := by
  rcases own_shape h with ⟨rfl, _⟩ | ⟨g, c, rfl, _⟩
  · intro e; cases e
  · intro e
    injection e with e
    exact own_ne_blk h hb hne e
def Dist (N : Nat) (vs : Nat → Value) : Prop := ∀ i j, i < N → j < N → i ≠ j → Away (vs i) (vs j).ownBlock
/-- Rows that are marked. -/
structure Ap1 (w : World) (base N gL : Nat) (vs : Nat → Value) (L : Nat → List Nd) (wr : World) : Prop where
  own : ∀ j, j < N → wr.ownsRow base 31 19 (vs j) (L j).length ((L j).flatMap ncs)
  lst : Blk wr gL 22 ((List.range N).map vs).toArray
  low : Below base w wr
theorem Ap1.store {w : World} {base N gL : Nat} {vs : Nat → Value} {L : Nat → List Nd} {wr : World} (h : Ap1 w base N gL vs L wr) (hd : Dist N vs) {i k g c : Nat} (hi : i < N) (hk : k < (L i).length) (hv : vs i = .slice (some ⟨g, 0, none⟩) (L i).length c) (x : Nd) :
    Ap1 w base N gL vs (fun j => if j = i then (L i).set k x else L j) (wr.setCells g (k * 19) (ncs x)) := by
  have hoi := h.own i hi
  rw [hv] at hoi
  have hg := grown_cells g (ncs x) (k * 19) wr
  refine ⟨fun j hj => ?_, h.lst.grown hg ?_, ?_⟩
  · by_cases e : j = i
    · subst e
      simp only [if_true]
      rw [List.length_set, hv]
      exact own_node hoi k hk x
    · simp only [if_neg e]
      refine (h.own j hj).kept hg ?_
      have := hd j i hj hi e
      rw [hv] at this
      exact this
  · intro e
    injection e with e
    exact own_ne_blk hoi h.lst ne_nodes e
  · have hlt := hoi.lt g rfl
    exact ⟨hg.os.trans h.low.os, hg.tape.trans h.low.tape, hg.output.trans h.low.output, Nat.le_trans h.low.size hg.size, fun q hq => (hg.block q (by omega) (by intro e; injection e with e; omega)).trans (h.low.block q hq)⟩
theorem lst_get {N : Nat} {vs : Nat → Value} {i : Nat} (hi : i < N) : ((List.range N).map vs).toArray[i]? = some (vs i) := by
  rw [List.getElem?_toArray, List.getElem?_map, List.getElem?_range hi]
  rfl
/-- Rows that are grown: those ahead of i are. -/
structure Ap2 (w : World) (base N gL : Nat) (vs : Nat → Value) (M : Nat → List Nd) (i : Nat) (gv : Value) (Gs : Nat → Value) (wr : World) : Prop where
  own : ∀ j, i ≤ j → j < N → wr.ownsRow base 31 19 (vs j) (M j).length ((M j).flatMap ncs)
  old : ∀ j, j < i → RowAt wr (vs j) (M j)
  new : ∀ j, j < i → RowAt wr (Gs j) (M j ++ List.replicate 40 (nz (2000 + (j : Int))))
  off : ∀ j k, j < i → i ≤ k → k < N → Away (Gs j) (vs k).ownBlock
  row : wr.ownsRow w.heap.size 22 1 gv i ((List.range i).map Gs)
  lst : Blk wr gL 22 ((List.range N).map vs).toArray
  low : Below base w wr
/-- The row i is being grown; w2: where that began. -/
structure Ap3 (w w2 : World) (base N gL : Nat) (vs : Nat → Value) (M : Nat → List Nd) (i : Nat) (gv : Value) (Gs : Nat → Value) (k : Nat) (cv : Value) (wr : World) : Prop where
  cur : wr.ownsRow base 31 19 cv ((M i).length + k) ((M i ++ List.replicate k (nz (2000 + (i : Int)))).flatMap ncs)
  at_ : cv.ownBlock = (vs i).ownBlock ∨ ∃ q, cv.ownBlock = some q ∧ w2.heap.size ≤ q
  mine : RowAt wr (vs i) (M i)
  own : ∀ j, i < j → j < N → wr.ownsRow base 31 19 (vs j) (M j).length ((M j).flatMap ncs)
  old : ∀ j, j < i → RowAt wr (vs j) (M j)
  new : ∀ j, j < i → RowAt wr (Gs j) (M j ++ List.replicate 40 (nz (2000 + (j : Int))))
  row : wr.ownsRow w.heap.size 22 1 gv i ((List.range i).map Gs)
  lst : Blk wr gL 22 ((List.range N).map vs).toArray
  low : Below base w wr
  size : w2.heap.size ≤ wr.heap.size
/-- What stays put while row i grows. -/
structure Fix (w2 : World) (base N : Nat) (vs : Nat → Value) (M : Nat → List Nd) (i : Nat) (Gs : Nat → Value) : Prop where
  hi : i < N
  dist : Dist N vs
  off : ∀ j k, j < i → i ≤ k → k < N → Away (Gs j) (vs k).ownBlock
  bnd : ∀ k, k < N → ∀ q, (vs k).ownBlock = some q → q < w2.heap.size
  bng : ∀ k, k < i → ∀ q, (Gs k).ownBlock = some q → q < w2.heap.size
  shp : Shape (vs i) (M i).length
theorem RowAt.lt {w : World} {v : Value} {l : List Nd} (h : RowAt w v l) : ∀ q, v.ownBlock = some q → q < w.heap.size := by
  rcases h with ⟨rfl, rfl⟩ | ⟨g, c, cs, rfl, hc, hk, hcs⟩
  · intro q hq; cases hq
  · intro q hq
    injection hq with hq
    rw [← hq]; exact hk.lt
/-- A row of rows lies elsewhere. -/
theorem RowAt.away {w : World} {base n : Nat} {v gv : Value} {l : List Nd} {xs : List Value} (h : RowAt w v l) (hr : w.ownsRow base 22 1 gv n xs) : Away v gv.ownBlock := by
  rcases h with ⟨rfl, rfl⟩ | ⟨g, c, cs, rfl, hc, hk, hcs⟩
  · exact .inl rfl
  · exact .inr (own_away_blk hr hk ne_nodes.symm)
theorem away_cur {w2 : World} {cv v vi : Value} (hat : cv.ownBlock = vi.ownBlock ∨ ∃ q, cv.ownBlock = some q ∧ w2.heap.size ≤ q) (hd : Away v vi.ownBlock) (hb : ∀ q, v.ownBlock = some q → q < w2.heap.size) : Away v cv.ownBlock := by
  rcases hat with e | ⟨q, e, hq⟩
  · rw [e]; exact hd
  · rw [e]
    cases hv : v.ownBlock with
    | none => exact .inl hv
    | some b =>
      refine .inr ?_
      rw [hv]
      intro e2
      injection e2 with e2
      have := hb b hv
      omega
theorem Ap3.push {w w2 : World} {base N gL : Nat} {vs : Nat → Value} {M : Nat → List Nd} {i : Nat} {gv : Value} {Gs : Nat → Value} {k : Nat} {cv cv' : Value} {wr w' : World} {z : Int} (h : Ap3 w w2 base N gL vs M i gv Gs k cv wr) (hf : Fix w2 base N vs M i Gs) (hbs : base ≤ wr.heap.size) (hz : z = 2000 + (i : Int))
    (ho : w'.ownsRow base 31 19 cv' ((M i).length + k + 1) ((M i ++ List.replicate k (nz (2000 + (i : Int)))).flatMap ncs ++ (nc (nz z)).toList)) (hg : (wr.alloc (.cells (nc (nz z)) 31)).grownBy w' cv.ownBlock)
    (hw : cv'.ownBlock = cv.ownBlock ∨ (∃ q, cv'.ownBlock = some q ∧ wr.heap.size ≤ q) ∧ (wr.alloc (.cells (nc (nz z)) 31)).grownBy w' none) : Ap3 w w2 base N gL vs M i gv Gs (k + 1) cv' w' := by
  subst hz
  have hga : ∀ r, wr.grownBy (wr.alloc (.cells (nc (nz (2000 + (i : Int)))) 31)) r := fun r => ⟨rfl, rfl, rfl, by simp, fun q hq _ => Below.heap_alloc wr _ q hq⟩
  have hgt := grown_trans (hga _) hg
  have hs := h.size
  have hlk : ∀ q, cv.ownBlock = some q → base ≤ q := fun q hq => (h.cur.lt q hq).1
  have e1 : (M i ++ List.replicate (k + 1) (nz (2000 + (i : Int)))).flatMap ncs = (M i ++ List.replicate k (nz (2000 + (i : Int)))).flatMap ncs ++ (nc (nz (2000 + (i : Int)))).toList := by
    rw [List.replicate_succ', ← List.append_assoc, List.flatMap_append]
    congr 1
  refine ⟨by rw [e1]; exact ho, ?_, ?_, fun j h1 h2 => (h.own j h1 h2).kept hgt (away_cur h.at_ (hf.dist j i h2 hf.hi (by omega)) (hf.bnd j h2)), fun j hj => (h.old j hj).grown hgt (away_cur h.at_ (hf.dist j i (by have := hf.hi; omega) hf.hi (by omega)) (hf.bnd j (by have := hf.hi; omega))), fun j hj => (h.new j hj).grown hgt (away_cur h.at_ (hf.off j i hj (Nat.le_refl _) hf.hi) (hf.bng j hj)), ?_, ?_, ?_, Nat.le_trans h.size hgt.size⟩
  · rcases hw with e | ⟨⟨q, e, hq⟩, _⟩
    · rw [e]; exact h.at_
    · exact .inr ⟨q, e, Nat.le_trans hs hq⟩
  · rcases hw with e | ⟨_, hn⟩
    · rcases h.at_ with e2 | ⟨q, e2, hq⟩
      · have ho' := ho
        rw [List.flatMap_append, List.append_assoc, show (List.replicate k (nz (2000 + (i : Int)))).flatMap ncs ++ (nc (nz (2000 + (i : Int)))).toList = (List.replicate (k + 1) (nz (2000 + (i : Int)))).flatMap ncs by rw [List.replicate_succ', List.flatMap_append]; congr 1, ← List.flatMap_append] at ho'
        exact RowAt.before ho' hf.shp (by rw [e, e2])
      · refine h.mine.grown hgt ?_
        rw [e2]
        cases hv : (vs i).ownBlock with
        | none => exact .inl hv
        | some b =>
          refine .inr ?_
          rw [hv]
          intro e3
          injection e3 with e3
          have := hf.bnd i hf.hi b hv
          omega
    · exact h.mine.grown (grown_trans (hga _) hn) (away_none _)
  · refine h.row.kept hgt ?_
    rcases own_shape h.row with ⟨e, _⟩ | ⟨g, c, e, _⟩
    · exact .inl (by rw [e]; rfl)
    · refine .inr ?_
      intro e2
      have hr := h.row
      rw [e] at hr e2
      rcases hr.2 with ⟨h', _⟩ | ⟨g', cap, cur', h', _, hgb, _⟩
      · cases h'
      · injection h' with h' _ _
        injection h' with h'
        injection h' with h' _ _
        subst h'
        exact own_away_blk h.cur (show Blk wr g 22 cur' from hgb) ne_nodes e2
  · exact h.lst.grown hgt (own_away_blk h.cur h.lst ne_nodes)
  · exact ⟨hgt.os.trans h.low.os, hgt.tape.trans h.low.tape, hgt.output.trans h.low.output, Nat.le_trans h.low.size hgt.size, fun q hq => (hgt.block q (by omega) (by intro e; have := hlk q e.symm; omega)).trans (h.low.block q hq)⟩
/-- Where row i begins to grow. -/
theorem Ap2.open_ {w : World} {base N gL : Nat} {vs : Nat → Value} {M : Nat → List Nd} {i : Nat} {gv : Value} {Gs : Nat → Value} {wr : World} (h : Ap2 w base N gL vs M i gv Gs wr) (hi : i < N) : Ap3 w wr base N gL vs M i gv Gs 0 (vs i) wr :=
  ⟨by simpa using h.own i (Nat.le_refl _) hi, .inl rfl, RowAt.of_own (h.own i (Nat.le_refl _) hi), fun j h1 h2 => h.own j (by omega) h2, h.old, h.new, h.row, h.lst, h.low, Nat.le_refl _⟩
theorem Ap2.fix {w : World} {base N gL : Nat} {vs : Nat → Value} {M : Nat → List Nd} {i : Nat} {gv : Value} {Gs : Nat → Value} {wr : World} (h : Ap2 w base N gL vs M i gv Gs wr) (hi : i < N) (hd : Dist N vs) (hb : ∀ k, k < N → ∀ q, (vs k).ownBlock = some q → q < wr.heap.size) : Fix wr base N vs M i Gs :=
  ⟨hi, hd, h.off, hb, fun k hk => (h.new k hk).lt, own_shape (h.own i (Nat.le_refl _) hi)⟩
/-- Row i has been grown, and is put with the others. -/
theorem Ap3.close {w w2 : World} {base N gL : Nat} {vs : Nat → Value} {M : Nat → List Nd} {i : Nat} {gv gv' : Value} {Gs : Nat → Value} {cv : Value} {wr w' : World} (h : Ap3 w w2 base N gL vs M i gv Gs 40 cv wr) (hf : Fix w2 base N vs M i Gs) (hbs : base ≤ w.heap.size) (hgl : gL < w.heap.size)
    (ho : w'.ownsRow w.heap.size 22 1 gv' (i + 1) ((List.range i).map Gs ++ #[cv].toList)) (hg : (wr.alloc (.cells #[cv] 22)).grownBy w' gv.ownBlock) : Ap2 w base N gL vs M (i + 1) gv' (fun j => if j = i then cv else Gs j) w' := by
  have hga : wr.grownBy (wr.alloc (.cells #[cv] 22)) gv.ownBlock := ⟨rfl, rfl, rfl, by simp, fun q hq _ => Below.heap_alloc wr _ q hq⟩
  have hgt := grown_trans hga hg
  have hlk : ∀ q, gv.ownBlock = some q → base ≤ q := fun q hq => Nat.le_trans hbs (h.row.lt q hq).1
  have e1 : (List.range (i + 1)).map (fun j => if j = i then cv else Gs j) = (List.range i).map Gs ++ #[cv].toList := by
    rw [List.range_succ, List.map_append]
    congr 1
    · refine List.map_congr_left fun j hj => ?_
      have := List.mem_range.1 hj
      rw [if_neg (by omega)]
    · simp
  have hcur := RowAt.of_own h.cur
  refine ⟨fun j h1 h2 => (h.own j (by omega) h2).kept hgt ((RowAt.of_own (h.own j (by omega) h2)).away h.row), fun j hj => ?_, fun j hj => ?_, fun j k hj hik hk => ?_, by rw [e1]; exact ho, ?_, ?_⟩
  · by_cases e : j = i
    · subst e; exact h.mine.grown hgt (h.mine.away h.row)
    · have hj' := h.old j (by omega)
      exact hj'.grown hgt (hj'.away h.row)
  · by_cases e : j = i
    · subst e
      simp only [if_true]
      exact hcur.grown hgt (hcur.away h.row)
    · simp only [if_neg e]
      have hj' := h.new j (by omega)
      exact hj'.grown hgt (hj'.away h.row)
  · by_cases e : j = i
    · subst e
      simp only [if_true]
      rcases h.at_ with e2 | ⟨q, e2, hq⟩
      · have := hf.dist j k hf.hi hk (by omega)
        unfold Away at this ⊢
        rw [e2]; exact this
      · refine .inr ?_
        rw [e2]
        intro e3
        have := hf.bnd k hk q e3.symm
        omega
    · simp only [if_neg e]
      exact hf.off j k (by omega) (by omega) hk
  · exact h.lst.grown hgt (by intro e; have := (h.row.lt gL e.symm).1; omega)
  · exact ⟨hgt.os.trans h.low.os, hgt.tape.trans h.low.tape, hgt.output.trans h.low.output, Nat.le_trans h.low.size hgt.size, fun q hq => (hgt.block q (by have := h.low.size; omega) (by intro e; have := hlk q e.symm; omega)).trans (h.low.block q hq)⟩
end Go.Proofs.Ytmcekdjhkjhcdaa.No
end
section
namespace Go.Proofs.Ytmcekdjhkjhcdaa.No
open Go.ChangeShapes Go.WideShapes Go.ChangeAt Go.RowKit
open Me Np
set_option linter.unusedVariables false
set_option linter.unusedSimpArgs false

/-- The first loop of Apart: the rows ahead of i are marked, and k nodes of row i. -/
structure Mk1 (w : World) (base N gL : Nat) (vs : Nat → Value) (L L1 : Nat → List Nd) (i k : Nat) (wr : World) : Prop where
  ap : Ap1 w base N gL vs L1 wr
  len : ∀ j, j < N → (L1 j).length = (L j).length
  mks : ∀ j q, j < N → (j < i ∨ j = i ∧ q < k) → q < (L j).length → (L1 j)[q]? = some (nz (1000 + (j : Int)))
theorem Mk1.store {w : World} {base N gL : Nat} {vs : Nat → Value} {L L1 : Nat → List Nd} {i k : Nat} {wr : World} (h : Mk1 w base N gL vs L L1 i k wr) (hd : Dist N vs) {g c : Nat} (hi : i < N) (hk : k < (L i).length) (hv : vs i = .slice (some ⟨g, 0, none⟩) (L i).length c) {z : Int} (hz : z = 1000 + (i : Int)) :
    ∃ L2, Mk1 w base N gL vs L L2 i (k + 1) (wr.setCells g (k * 19) (nc (nz z)).toList) := by
  subst hz
  have hl := h.len i hi
  refine ⟨fun j => if j = i then (L1 i).set k (nz (1000 + (i : Int))) else L1 j, h.ap.store hd hi (by omega) (by rw [hl]; exact hv) _, fun j hj => ?_, fun j q hj hq hl2 => ?_⟩
  · by_cases e : j = i
    · subst e
      simp only [if_true, List.length_set]
      exact hl
    · simp only [if_neg e]
      exact h.len j hj
  · by_cases e : j = i
    · subst e
      simp only [if_true]
      by_cases hqk : q = k
      · subst hqk
        rw [List.getElem?_set_self (by omega)]
      · rw [List.getElem?_set_ne (by omega)]
        exact h.mks j q hj (by omega) hl2
    · simp only [if_neg e]
      exact h.mks j q hj (by omega) hl2
theorem Mk1.next {w : World} {base N gL : Nat} {vs : Nat → Value} {L L1 : Nat → List Nd} {i k : Nat} {wr : World} (h : Mk1 w base N gL vs L L1 i k wr) (hk : (L i).length ≤ k) : Mk1 w base N gL vs L L1 (i + 1) 0 wr :=
  ⟨h.ap, h.len, fun j q hj hq hl => h.mks j q hj (by
    rcases hq with hq | ⟨_, hq⟩
    · by_cases e : j = i
      · subst e; exact .inr ⟨rfl, by omega⟩
      · exact .inl (by omega)
    · omega) hl⟩
def mkd (L : Nat → List Nd) (j : Nat) : List Nd := List.replicate (L j).length (nz (1000 + (j : Int)))
theorem Mk1.done {w : World} {base N gL : Nat} {vs : Nat → Value} {L L1 : Nat → List Nd} {wr : World} (h : Mk1 w base N gL vs L L1 N 0 wr) : Ap2 w base N gL vs (mkd L) 0 (.slice none 0 0) (fun _ => .slice none 0 0) wr := by
  have e : ∀ j, j < N → L1 j = mkd L j := fun j hj => by
    apply List.ext_getElem?
    intro q
    unfold mkd
    rw [List.getElem?_replicate]
    split
    · exact h.mks j q hj (.inl hj) (by assumption)
    · rw [List.getElem?_eq_none (by rw [h.len j hj]; omega)]
  refine ⟨fun j _ hj => by rw [← e j hj]; exact h.ap.own j hj, by simp, by simp, by simp, World.ownsRow_nil _ _ _ _, h.ap.lst, h.ap.low⟩
theorem RowAt.node {w : World} {v : Value} {l : List Nd} (h : RowAt w v l) {k : Nat} {x : Nd} (hx : l[k]? = some x) : ∃ g c, v = .slice (some ⟨g, 0, none⟩) l.length c ∧ w.cell? ⟨g, k * 19, none⟩ = some (.int .i64 x.kind) := by
  rcases h with ⟨rfl, rfl⟩ | ⟨g, c, cs, rfl, hc, hk, hcs⟩
  · simp at hx
  · refine ⟨g, c, rfl, ?_⟩
    rw [hk.cell]
    refine hcs (k * 19) _ ?_
    have := flat_get ncs_length l k x 0 hx (by decide)
    rw [Nat.add_zero] at this
    rw [this]
    rfl
theorem own_val {w : World} {base : Nat} {e : TypeId} {size n : Nat} {v : Value} {xs : List Value} (h : w.ownsRow base e size v n xs) : ∃ A c, v = .slice A n c ∧ n ≤ c := by
  rcases own_shape h with ⟨rfl, rfl⟩ | ⟨g, c, rfl, hc⟩
  · exact ⟨none, 0, rfl, Nat.le_refl _⟩
  · exact ⟨_, c, rfl, hc⟩
theorem rows_info : (Try.prog.info? 22).map (fun i => (i.zero, i.size, i.bytes)) = some (some (.slice none 0 0), 1, 24) := by kernel_rfl
attribute [local go_sem ↓] bldN_eq
set_option maxHeartbeats 4000000 in
set_option maxRecDepth 100000 in
theorem apart_any (base N gL : Nat) (vs : Nat → Value) (L : Nat → List Nd) (w : World) (hN : N ≤ 100) (hbs : base ≤ w.heap.size) (hown : ∀ j, j < N → w.ownsRow base 31 19 (vs j) (L j).length ((L j).flatMap ncs))
    (hd : Dist N vs) (hlst : Blk w gL 22 ((List.range N).map vs).toArray) (hlen : ∀ j, j < N → (L j).length ≤ 4000) :
    Calls Try.prog 40 #[.slice (some ⟨gL, 0, none⟩) N N] w fun e w' => e = .returned (.bool true) ∧ Below base w w' := by
  have HI0 := Lib.hid (show Mk1 w base N gL vs L L 0 0 w from ⟨⟨hown, hlst, Below.refl _ _⟩, fun _ _ => rfl, fun j q hj hq => by omega⟩)
  have HSH := Lib.hid (fun (j : Nat) (hj : j < N) => own_shape (hown j hj))
  have HBN := Lib.hid (fun (j : Nat) (hj : j < N) (q : Nat) (hq : (vs j).ownBlock = some q) => ((hown j hj).lt q hq).2)
  have HGL := Lib.hid hlst.lt
  have HD := Lib.hid hd
  have HLEN := Lib.hid hlen
  have HBS := Lib.hid hbs
  clear hown hd hlst hlen hbs
  go_enter Try.func40, Try.ntmps40
  go_wp2_with fail
  go_loopw [4] (fun v4 wr => ∃ (i : Nat) (L1 : Nat → List Nd), i ≤ N ∧ v4 = .int .i64 (i : Int) ∧ Mk1 w base N gL vs L L1 i 0 wr) (fun v4 _ => N - (intOf v4).toNat)
  case atStart => exact ⟨0, L, by omega, rfl, HI0.out⟩
  case round =>
    obtain ⟨i, L1, hi, rfl, hI⟩ := hrel
    have HI := Lib.hid hI
    clear hI
    by_cases hlt : i < N
    · obtain ⟨A, c, hv, hnc⟩ : ∃ A c, vs i = .slice A (L i).length c ∧ (L i).length ≤ c := by
        rcases HSH.out i hlt with ⟨h1, h2⟩ | ⟨g, c, h1, h2⟩
        · exact ⟨none, 0, by rw [h1, h2], by omega⟩
        · exact ⟨_, c, h1, h2⟩
      have hn4 := HLEN.out i hlt
      have HV := Lib.hid hv
      generalize hn : (L i).length = n at hv hnc hn4
      have HNN := Lib.hid hn
      clear hn
      go_wp2_with fail
      go_loopw [5] (fun v5 wr => ∃ (k : Nat) (L1 : Nat → List Nd), k ≤ n ∧ v5 = .int .i64 (k : Int) ∧ Mk1 w base N gL vs L L1 i k wr) (fun v5 _ => n - (intOf v5).toNat)
      case atStart => exact ⟨0, L1, by omega, rfl, HI.out⟩
      case round =>
        obtain ⟨k, L1, hk, rfl, hI⟩ := hrel
        have hci : wr.cell? ⟨gL, i, none⟩ = some (.slice A n c) := by rw [hI.ap.lst.cell, lst_get hlt, hv]
        have HI := Lib.hid hI
        clear hI
        by_cases hkn : k < n
        · obtain ⟨g, rfl⟩ : ∃ g, A = some ⟨g, 0, none⟩ := by
            rcases HSH.out i hlt with ⟨h1, h2⟩ | ⟨g, c, h1, h2⟩
            · have := HNN.out; omega
            · rw [HV.out] at h1
              injection h1 with h1
              exact ⟨g, h1⟩
          have hbn := run_bldN (1000 + (i : Int))
          have HTH := Lib.hid (show wr.there g (k * 19) 19 by
            have h1 := HI.out.ap.own i hlt
            rw [HV.out] at h1
            have h2 := HI.out.len i hlt
            rw [h2] at h1
            exact own_there h1 k (by rw [HNN.out]; exact hkn))
          have HST := Lib.hid (HI.out.store HD.out hlt (by rw [HNN.out]; exact hkn) HV.out rfl)
          clear HI
          go_wp2_with (first | (refine wpList_store_mid (op := ⟨none, .store _ (.tmp 34) (.tmp 33), _, _, _, _⟩) rfl 31 _ _ rfl g (k * 19) (nc (nz (1000 + (i : Int)))) ?_ rfl HTH.out (nc_there _) (nc_one _) ?_; simp [go_sem]))
          obtain ⟨L2, hL2⟩ := HST.out
          have HL2 := Lib.hid hL2
          clear hL2 HST HTH
          go_roundw
          case rel => exact ⟨k + 1, L2, by omega, by go_num, HL2.out⟩
          case measure => simp [intOf]; omega
        · have HNX := Lib.hid (HI.out.next (by rw [HNN.out]; omega))
          clear HI
          go_wp2_with fail
          go_roundw
          case rel => exact ⟨i + 1, L1, by omega, by go_num, HNX.out⟩
          case measure => simp [intOf]; omega
    · obtain rfl : N = i := by omega
      have HA2 := Lib.hid HI.out.done
      have HML := Lib.hid (fun j => show (mkd L j).length = (L j).length by simp [mkd])
      clear HI HI0
      have HMK := Lib.hid (fun (j k : Nat) (hk : k < (mkd L j).length) => show (mkd L j)[k]? = some (nz (1000 + (j : Int))) by unfold mkd at hk ⊢; rw [List.getElem?_replicate, if_pos (by simpa using hk)])
      generalize mkd L = M at HA2 HML HMK
      go_wp2_with fail
      go_loopw [3, 6] (fun v3 v6 wr => ∃ (i : Nat) (Gs : Nat → Value), i ≤ N ∧ v6 = .int .i64 (i : Int) ∧ Ap2 w base N gL vs M i v3 Gs wr) (fun _ v6 _ => N - (intOf v6).toNat)
      case atStart => exact ⟨0, _, by omega, rfl, HA2.out⟩
      case round =>
        obtain ⟨i, Gs, hi, rfl, hI⟩ := hrel
        by_cases hlt : i < N
        · have hci := (hI.lst.cell i).trans (lst_get hlt)
          have HF := Lib.hid (hI.fix hlt HD.out (fun k hk q hq => Nat.lt_of_lt_of_le (HBN.out k hk q hq) hI.low.size))
          have HI := Lib.hid (hI.open_ hlt)
          have HSZ := Lib.hid hI.low.size
          clear hI
          have hn4 : (M i).length ≤ 4000 := by rw [HML.out]; exact HLEN.out i hlt
          go_wp2_with fail
          obtain ⟨w2, hw2⟩ : ∃ w2, w2 = wr := ⟨_, rfl⟩
          subst hw2
          go_loopw [7, 8] (fun v7 v8 w3 => ∃ k : Nat, k ≤ 40 ∧ v8 = .int .i64 (k : Int) ∧ Ap3 w w2 base N gL vs M i u3 Gs k v7 w3) (fun _ v8 _ => 40 - (intOf v8).toNat)
          case atStart => exact ⟨0, by omega, rfl, HI.out⟩
          case round =>
            obtain ⟨k, hk, rfl, hJ⟩ := hrel
            have HJ := Lib.hid hJ
            clear hJ HI
            have hbw : base ≤ wr.heap.size := Nat.le_trans HBS.out (Nat.le_trans HSZ.out HJ.out.size)
            have HBW := Lib.hid hbw
            clear hbw
            by_cases hk40 : k < 40
            · have hbn := run_bldN (2000 + (i : Int))
              obtain ⟨Ac, cc, hcv, _⟩ := own_val HJ.out.cur
              have HCV := Lib.hid hcv
              have HO := Lib.hid HJ.out.cur
              go_wp2_with (first
                | (refine wpList_ex (o := ⟨some 53, _, _, _, _, _⟩) (v := .slice (some ⟨wr.heap.size, 0, none⟩) 1 1) (w' := wr.alloc (.cells (nc (nz (2000 + (i : Int)))) 31)) rfl (by kernel_rfl) ?_)
                | (at_builtin; go_loud (refine wpList_push_at rfl (.tmp 49) (.tmp 53) 22 rfl base 31 _ 19 160 Try.underlying22 node_row rfl (by decide) (by decide) _ _ _ rfl HO.out HBW.out _ rfl rfl rfl rfl (by omega) ?_; intro v7 w7 hown7 hg7 hw7; have HP := Lib.hid (HJ.out.push HF.out HBW.out rfl hown7 hg7 hw7); clear hown7 hg7 hw7))
                | fail)
              go_roundw
              case rel => exact ⟨k + 1, by omega, by go_num, HP.out⟩
              case measure => simp [intOf]; omega
            · obtain rfl : k = 40 := by omega
              obtain ⟨Ac, cc, hcv, _⟩ := own_val HJ.out.cur
              subst hcv
              have HROW := Lib.hid HJ.out.row
              have HWS := Lib.hid (show w.heap.size ≤ wr.heap.size from Nat.le_trans HSZ.out HJ.out.size)
              go_wp2_with (at_builtin; go_loud (refine wpList_push rfl (.tmp 55) (.tmp 57) 134 rfl w.heap.size 22 _ 1 24 Try.underlying134 rows_info rfl (by decide) (by decide) _ _ _ rfl HROW.out HWS.out _ rfl rfl rfl (by simp) (by omega) ?_; intro v9 w9 hown9 hg9 hn9; have HC := Lib.hid (HJ.out.close HF.out HBS.out HGL.out hown9 hg9); clear hown9 hg9 hn9))
              go_roundw
              case rel => exact ⟨i + 1, _, by omega, by go_num, HC.out⟩
              case measure => simp [intOf]; omega
        · obtain rfl : N = i := by omega
          have HFN := Lib.hid hI
          clear hI HA2
          go_wp2_with fail
          obtain ⟨w3, hw3⟩ : ∃ w3, w3 = wr := ⟨_, rfl⟩
          subst hw3
          go_loopw [9] (fun v9 wr => ∃ (i nq : Nat), i ≤ N ∧ v9 = .int .i64 (i : Int) ∧ wr = w3.drewN nq) (fun v9 _ => N - (intOf v9).toNat)
          case atStart => exact ⟨0, 0, by omega, rfl, rfl⟩
          case round =>
            obtain ⟨i, nq, hi, rfl, rfl⟩ := hrel
            by_cases hlt : i < N
            · obtain ⟨gG, cG, hgv, hcG⟩ : ∃ g c, u3 = .slice (some ⟨g, 0, none⟩) N c ∧ w3.cell? ⟨g, i, none⟩ = some (Gs i) := by
                have ho := HFN.out.row
                rcases own_shape ho with ⟨_, h0⟩ | ⟨g, c, e, _⟩
                · omega
                · rw [e] at ho
                  refine ⟨g, c, e, (ho.cellAt i (by omega)).trans ?_⟩
                  rw [List.getElem?_map, List.getElem?_range hlt]
                  rfl
              have hcL : w3.cell? ⟨gL, i, none⟩ = some (vs i) := (HFN.out.lst.cell i).trans (lst_get hlt)
              have hn4 : (M i).length ≤ 4000 := by rw [HML.out]; exact HLEN.out i hlt
              have h1 := HFN.out.old i hlt
              have h2 := HFN.out.new i hlt
              obtain ⟨A1, c1, e1, hc1, _⟩ := h1.seg
              obtain ⟨A2, c2, e2, hc2, _⟩ := h2.seg
              have HR1 := Lib.hid (fun k (hk : k < (M i).length) => h1.node (HMK.out i k hk))
              have HR2 := Lib.hid (fun k (hk : k < (M i).length) => h2.node (k := k) (x := nz (1000 + (i : Int))) (by rw [List.getElem?_append_left hk]; exact HMK.out i k hk))
              have HR3 := Lib.hid (fun k (hk : (M i).length ≤ k) (hk2 : k < (M i).length + 40) => h2.node (k := k) (x := nz (2000 + (i : Int))) (by rw [List.getElem?_append_right hk, List.getElem?_replicate, if_pos (by omega)]))
              rw [List.length_append, List.length_replicate] at e2 hc2 
              rw [e1] at HR1 hcL
              rw [e2] at HR2 HR3 hcG
              rw [hgv]
              clear h1 h2 e1 e2 hgv
              rw [List.length_append, List.length_replicate] at HR2 HR3
              generalize (M i).length = n at *
              go_wp2_with fail
              go_loopw [10] (fun v10 wr => ∃ (k nq : Nat), k ≤ n + 40 ∧ v10 = .int .i64 (k : Int) ∧ wr = w3.drewN nq) (fun v10 _ => n + 40 - (intOf v10).toNat)
              case atStart => exact ⟨0, nq, by omega, rfl, rfl⟩
              case round =>
                obtain ⟨k, nq, hk, rfl, rfl⟩ := hrel
                by_cases hkn : k < n
                · obtain ⟨g1, d1, f1, hx1⟩ := HR1.out k hkn
                  obtain ⟨g2, d2, f2, hx2⟩ := HR2.out k hkn
                  injection f1 with f1 _ _
                  injection f2 with f2 _ _
                  subst f1
                  subst f2
                  rw [show (nz (1000 + (i : Int))).kind = 1000 + (i : Int) from rfl] at hx1 hx2
                  go_wp2_with fail
                  go_roundw
                  case rel => exact ⟨k + 1, nq, by omega, by go_num, rfl⟩
                  case measure => simp [intOf]; omega
                · by_cases hkn2 : k < n + 40
                  · obtain ⟨g2, d2, f2, hx2⟩ := HR3.out k (by omega) hkn2
                    injection f2 with f2 _ _
                    subst f2
                    rw [show (nz (2000 + (i : Int))).kind = 2000 + (i : Int) from rfl] at hx2
                    go_wp2_with fail
                    go_roundw
                    case rel => exact ⟨k + 1, nq, by omega, by go_num, rfl⟩
                    case measure => simp [intOf]; omega
                  · go_wp2_with fail
                    go_roundw
                    case rel => exact ⟨i + 1, _, by omega, by go_num, rfl⟩
                    case measure => simp [intOf]; omega
            · go_wp2_with fail
              go_ret
              exact ⟨rfl, below_drewN HFN.out.low _⟩
end Go.Proofs.Ytmcekdjhkjhcdaa.No
end

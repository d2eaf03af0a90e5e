import Derived.Test.YtmcekdjhkjhcdaaHye
/- What Except holds, step by step. Conditions: those that each theorem names. -/
namespace Go.Proofs.Ytmcekdjhkjhcdaa.Hy
open Go.ChangeShapes Go.WideShapes Go.ChangeAt Go.RowKit
open Me Hp
set_option linter.unusedVariables false
set_option linter.unusedSimpArgs false

theorem S_app' (a b : Nm) : S a ++ S b = S (a ++ b) := by
  apply ByteArray.ext
  rw [ByteArray.data_append]
  apply Array.ext'
  simp [S]
theorem ne_xexc : (3 : Nat) ≠ 126 := by decide
theorem ne_xexc2 : (141 : Nat) ≠ 126 := by decide
theorem ne_xexc3 : (126 : Nat) ≠ 106 := by decide
/-- What the loop of Except holds. -/
structure EInv (s : ByteArray) (w : World) (i : Nat) (st : Xc) (u : Value) (wr : World) : Prop where
  run : pRun rb (s.data.toList.take i) = some st
  x : Blk wr w.heap.size 126 #[.string (S st.1), u]
  own : wr.ownsRow w.heap.size 3 1 u st.2.length (st.2.map iv)
  low : Below w.heap.size w wr
theorem EInv.below {s : ByteArray} {w : World} {i : Nat} {st : Xc} {u : Value} {wr w' : World} (h : EInv s w i st u wr) (hb : Below wr.heap.size wr w') : EInv s w i st u w' :=
  ⟨h.run, h.x.below hb h.x.lt, own_below h.own hb, andThen h.low hb⟩
theorem EInv.letter {s : ByteArray} {w : World} {i : Nat} {st : Xc} {u : Value} {wr : World} {c : UInt8} (h : EInv s w i st u wr) (hc : s.data.toList[i]? = some c) (h45 : c ≠ 45) :
    EInv s w (i + 1) (st.1 ++ rb c, st.2) u (wr.setCell ⟨w.heap.size, 0, none⟩ (.string (S st.1 ++ S (rb c)))) := by
  refine ⟨?_, ?_, ?_, below_set h.low (Nat.le_refl _) _ _⟩
  · rw [take_snoc' hc, pRun_snoc, h.run]
    simp only [Option.bind_some, pstep, if_neg h45]
  · have := h.x.set 0 (.string (S st.1 ++ S (rb c)))
    rw [S_app'] at this ⊢
    exact this
  · exact h.own.kept (grown_set _ _ _ _) (own_not_blk h.own h.x ne_xexc)
theorem EInv.hyphen {s : ByteArray} {w : World} {i : Nat} {st : Xc} {u u' : Value} {wr w' : World} (h : EInv s w i st u wr) (hc : s.data.toList[i]? = some 45) (hb : badH st = false) {z : Int} (hz : z = (st.1.length : Int))
    (ho : w'.ownsRow w.heap.size 3 1 u' (st.2.length + 1) (st.2.map iv ++ #[iv z].toList)) (hg : (wr.alloc (.cells #[iv z] 3)).grownBy w' u.ownBlock) :
    EInv s w (i + 1) (st.1, st.2 ++ [(st.1.length : Int)]) u' (w'.setCell ⟨w.heap.size, 1, none⟩ u') := by
  subst hz
  have h1 := h.own.alloc (.cells #[iv (st.1.length : Int)] 3)
  have hne : some w.heap.size ≠ u.ownBlock := by
    intro e
    rcases own_not_blk h.own h.x ne_xexc with h2 | h2
    · rw [h2] at e; cases e
    · exact h2 e.symm
  have hx := (h.x.alloc (.cells #[iv (st.1.length : Int)] 3)).grown hg hne
  have hlow : Below w.heap.size w w' := below_grown (Nat.le_refl _) (andAlloc h.low _) hg fun k hk => (h1.lt k hk).1
  refine ⟨?_, hx.set 1 _, ?_, below_set hlow (Nat.le_refl _) _ _⟩
  · rw [take_snoc' hc, pRun_snoc, h.run]
    simp only [Option.bind_some, pstep]
    rw [hb]
    rfl
  · have := ho.kept (grown_set w' w.heap.size 1 u') (own_not_blk ho hx ne_xexc)
    simpa using this
theorem EInv.xG {s : ByteArray} {w : World} {i : Nat} {st : Xc} {u : Value} {wr w' : World} {o : Obj} (h : EInv s w i st u wr) (hg : (wr.alloc o).grownBy w' u.ownBlock) : Blk w' w.heap.size 126 #[.string (S st.1), u] := by
  refine (h.x.alloc o).grown hg ?_
  intro e
  rcases own_not_blk h.own h.x ne_xexc with h2 | h2
  · rw [h2] at e; cases e
  · exact h2 e.symm
theorem EInv.stop {s : ByteArray} {w : World} {i : Nat} {st : Xc} {u : Value} {wr : World} (h : EInv s w i st u wr) (hc : s.data.toList[i]? = some 45) (hb : badH st = true) : par s.data.toList = none := by
  unfold par
  have h1 : pRun rb (s.data.toList.take (i + 1)) = none := by
    rw [take_snoc' hc, pRun_snoc, h.run]
    simp only [Option.bind_some, pstep, if_true, hb]
  have h2 := pRun_none rb (s.data.toList.drop (i + 1)) _ h1
  rw [List.take_append_drop] at h2
  rw [h2]
  rfl
theorem EInv.done {s : ByteArray} {w : World} {st : Xc} {u : Value} {wr : World} (h : EInv s w s.size st u wr) : par s.data.toList = pEnd s.size st := by
  have e : s.data.toList.take s.size = s.data.toList := List.take_of_length_le (by rw [size_list]; exact Nat.le_refl _)
  have h1 := h.run
  rw [e] at h1
  unfold par
  rw [h1, size_list]
  rfl
theorem EInv.len {s : ByteArray} {w : World} {i : Nat} {st : Xc} {u : Value} {wr : World} (h : EInv s w i st u wr) : st.1.length ≤ 2 * i ∧ st.2.length ≤ i := by
  have h1 := run_chars rb _ _ h.run
  have h2 := (pfine rb rb_ne _ _ h.run).nw
  have h4 := List.length_take_le i s.data.toList
  have key : ∀ l : Nm, (l.flatMap rb).length ≤ 2 * l.length := by
    intro l
    induction l with
    | nil => simp
    | cons a l ih =>
      have := (rb_len a).2
      rw [List.flatMap_cons, List.length_append, List.length_cons]
      omega
  have h5 := key ((s.data.toList.take i).filter (· != 45))
  have h6 := List.length_filter_le (· != 45) (s.data.toList.take i)
  rw [← h1.1] at h5
  omega
theorem own_kept_type {w w' : World} {B n : Nat} {e t : TypeId} {size : Nat} {v : Value} {xs : List Value} {r : Option Nat} (ho : w.ownsRow B e size v n xs) (hg : w.grownBy w' r) (hr : ∀ g, r = some g → ∃ cs, Blk w g t cs) (hne : e ≠ t) : w'.ownsRow B e size v n xs := by
  refine ho.kept hg ?_
  cases hv : v.ownBlock with
  | none => exact .inl rfl
  | some k =>
    refine .inr ?_
    intro e'
    obtain ⟨cs, hb⟩ := hr k e'.symm
    rcases own_not_blk ho hb hne with h | h
    · rw [h] at hv; cases hv
    · exact h hv
theorem HyAt.grown {w w' : World} {B p : Nat} {P : List Pt} {v xv : Value} {r : Option Nat} (h : HyAt w B p P v xv) (hg : w.grownBy w' r) (hr : ∀ g, r = some g → ∃ cs, Blk w g 126 cs) : HyAt w' B p P v xv := by
  obtain ⟨vs, h1, h2, h3⟩ := h.tr.row
  refine ⟨h.pats, h.tr.tri, h.tr.keys, h.tr.blk.grown hg ?_, h.tr.low, vs, h1, own_kept_type h2 hg hr ne_xexc2, fun k s u hk hu => (h3 k s u hk hu).kept fun n xs ho => own_kept_type ho hg hr ne_xexc⟩
  intro e
  obtain ⟨cs, hb⟩ := hr p e.symm
  have a : w.heap[p]? = some (.cells _ 126 (0, 0)) := hb
  have b : w.heap[p]? = some (.cells _ 106 (0, 0)) := h.tr.blk
  rw [a] at b
  simp only [Option.some.injEq, Obj.cells.injEq] at b
  exact absurd b.2.1 (by decide)
theorem HyAt.setx {w : World} {B p : Nat} {P : List Pt} {v xv : Value} (h : HyAt w B p P v xv) (xv' : Value) : HyAt (w.setCell ⟨p, 2, none⟩ xv') B p P v xv' := by
  obtain ⟨vs, h1, h2, h3⟩ := h.tr.row
  have hr : ∀ g, (some p : Option Nat) = some g → ∃ cs, Blk w g 106 cs := fun g e => by injection e with e; subst e; exact ⟨_, h.tr.blk⟩
  exact ⟨h.pats, h.tr.tri, h.tr.keys, h.tr.blk.set 2 xv', h.tr.low, vs, h1, own_kept_type h2 (grown_set _ _ _ _) hr ne_hyph2.symm, fun k s u hk hu => (h3 k s u hk hu).kept fun n xs ho => own_kept_type ho (grown_set _ _ _ _) hr ne_hyph.symm⟩
theorem XAt.setp {w : World} {B p : Nat} {X : List Xc} {xv : Value} {cs : Array Value} (h : XAt w B X xv) (hp : Blk w p 106 cs) (j : Nat) (z : Value) : XAt (w.setCell ⟨p, j, none⟩ z) B X xv := by
  obtain ⟨us, h1, h2, h3⟩ := h.row
  have hr : ∀ g, (some p : Option Nat) = some g → ∃ cs, Blk w g 106 cs := fun g e => by injection e with e; subst e; exact ⟨_, hp⟩
  exact ⟨h.ex, us, h1, own_kept_type h2 (grown_set _ _ _ _) hr ne_xexc3, fun k x u hk hu => own_kept_type (h3 k x u hk hu) (grown_set _ _ _ _) hr ne_hyph.symm⟩
theorem own_typed {w : World} {B n : Nat} {e : TypeId} {size : Nat} {v : Value} {xs : List Value} (h : w.ownsRow B e size v n xs) : ∀ g, v.ownBlock = some g → ∃ cs, Blk w g e cs := by
  intro g hg
  rcases h.2 with ⟨rfl, _⟩ | ⟨k, cap, cur, rfl, _, hk, _⟩
  · cases hg
  · have e' : k = g := by simpa [Value.ownBlock] using hg
    subst e'
    exact ⟨cur, hk⟩
theorem xcells_length {X : List Xc} {us : List Value} (h : us.length = X.length) : (xcells X us).length = X.length * 2 := by
  unfold xcells
  rw [flat_length xc2_len, List.length_zip, h, Nat.min_self]
theorem xcells_set {X : List Xc} {us : List Value} (h : us.length = X.length) {k : Nat} (hk : k < X.length) (x : Xc) (u : Value) : ((xcells X us).set (k * 2) (.string (S x.1))).set (k * 2 + 1) u = xcells (X.set k x) (us.set k u) := by
  apply List.ext_getElem?
  intro i
  have hl := xcells_length h
  have hl2 := xcells_length (X := X.set k x) (us := us.set k u) (by simp [h])
  rw [List.length_set] at hl2
  rcases Nat.lt_or_ge i (X.length * 2) with hi | hi
  · obtain ⟨r, q, hr, hq, rfl⟩ : ∃ r q, r < X.length ∧ q < 2 ∧ i = r * 2 + q := ⟨i / 2, i % 2, by omega, by omega, by omega⟩
    obtain ⟨y, hy⟩ := get_some hr
    obtain ⟨z, hz⟩ := get_some (l := us) (k := r) (by omega)
    obtain ⟨a1, a2⟩ := xcells_get hy hz
    by_cases hrk : r = k
    · subst hrk
      obtain ⟨b1, b2⟩ := xcells_get (X := X.set r x) (us := us.set r u) (k := r) (x := x) (u := u) (by rw [List.getElem?_set_self hr]) (by rw [List.getElem?_set_self (by omega)])
      rcases (by omega : q = 0 ∨ q = 1) with rfl | rfl
      · rw [b1, List.getElem?_set_ne (by omega), Nat.add_zero, List.getElem?_set_self (by omega)]
      · rw [b2, List.getElem?_set_self (by simp; omega)]
    · obtain ⟨b1, b2⟩ := xcells_get (X := X.set k x) (us := us.set k u) (k := r) (x := y) (u := z) (by rw [List.getElem?_set_ne (by omega)]; exact hy) (by rw [List.getElem?_set_ne (by omega)]; exact hz)
      rw [List.getElem?_set_ne (by omega), List.getElem?_set_ne (by omega)]
      rcases (by omega : q = 0 ∨ q = 1) with rfl | rfl
      · rw [a1, b1]
      · rw [a2, b2]
  · rw [List.getElem?_eq_none (by simp; omega), List.getElem?_eq_none (by omega)]
theorem get_set {α : Type} {l : List α} {k i : Nat} {a x : α} (h : (l.set k a)[i]? = some x) : (i = k ∧ x = a) ∨ (i ≠ k ∧ l[i]? = some x) := by
  by_cases hi : i = k
  · subst hi
    have := (List.getElem?_eq_some_iff.1 h).1
    rw [List.length_set] at this
    rw [List.getElem?_set_self this] at h
    injection h with h
    exact .inl ⟨rfl, h.symm⟩
  · rw [List.getElem?_set_ne (fun e => hi e.symm)] at h
    exact .inr ⟨hi, h⟩
/-- An exception's place takes another one. -/
theorem XAt.put {w : World} {B g c : Nat} {X : List Xc} {x : Xc} {u : Value} (h : XAt w B X (.slice (some ⟨g, 0, none⟩) X.length c)) (hx : IsX x) (hh : xhas X x.1 = true) (hu : w.ownsRow B 3 1 u x.2.length (x.2.map iv)) :
    XAt ((w.setCell ⟨g, xk X x.1 * 2, none⟩ (.string (S x.1))).setCell ⟨g, xk X x.1 * 2 + 1, none⟩ u) B (xput X x) (.slice (some ⟨g, 0, none⟩) X.length c) := by
  obtain ⟨us, h1, h2, h3⟩ := h.row
  obtain ⟨y, hy, _⟩ := xhas_at hh
  have hk := (List.getElem?_eq_some_iff.1 hy).1
  have hp : xput X x = X.set (xk X x.1) x := if_pos hh
  have hlen : (xput X x).length = X.length := by rw [hp, List.length_set]
  have s1 := h2.stored (xk X x.1 * 2) (.string (S x.1))
  have s2 := s1.1.stored (xk X x.1 * 2 + 1) u
  have hr : ∀ g', (some g : Option Nat) = some g' → ∃ cs, Blk w g' 126 cs := fun g' e => own_typed h2 g' (by rw [← e]; rfl)
  have hgr : w.grownBy ((w.setCell ⟨g, xk X x.1 * 2, none⟩ (.string (S x.1))).setCell ⟨g, xk X x.1 * 2 + 1, none⟩ u) (some g) := by
    have a := grown_set w g (xk X x.1 * 2) (.string (S x.1))
    have b := grown_set (w.setCell ⟨g, xk X x.1 * 2, none⟩ (.string (S x.1))) g (xk X x.1 * 2 + 1) u
    exact ⟨b.os.trans a.os, b.tape.trans a.tape, b.output.trans a.output, Nat.le_trans a.size b.size, fun k hk hne => (b.block k (Nat.lt_of_lt_of_le hk a.size) hne).trans (a.block k hk hne)⟩
  refine ⟨?_, us.set (xk X x.1) u, by rw [List.length_set, hlen]; exact h1, ?_, ?_⟩
  · refine ⟨h.ex.sor.put x, fun y hy => ?_, by rw [hlen]; exact h.ex.few⟩
    rcases mem_xput hy with h5 | h5
    · exact h.ex.is y h5
    · rw [h5]; exact hx
  · have s3 := s2.1
    rw [xcells_set h1 hk] at s3
    rw [hlen, hp]
    exact s3
  · intro k z t hz ht
    rw [hp] at hz
    rcases get_set hz with ⟨rfl, rfl⟩ | ⟨hne, hz⟩
    · rcases get_set ht with ⟨_, rfl⟩ | ⟨hne, _⟩
      · exact own_kept_type hu hgr hr ne_xexc
      · exact absurd rfl hne
    · rcases get_set ht with ⟨rfl, _⟩ | ⟨_, ht⟩
      · exact absurd rfl hne
      · exact own_kept_type (h3 k z t hz ht) hgr hr ne_xexc
theorem insAt_get {α : Type} {l : List α} {k i : Nat} {a x : α} (hk : k ≤ l.length) (h : (insAt l k a)[i]? = some x) : (i = k ∧ x = a) ∨ (i < k ∧ l[i]? = some x) ∨ (k < i ∧ l[i - 1]? = some x) := by
  unfold insAt at h
  have hl : (l.take k).length = k := by rw [List.length_take]; omega
  rcases Nat.lt_trichotomy i k with hi | hi | hi
  · rw [List.getElem?_append_left (by omega), List.getElem?_take, if_pos hi] at h
    exact .inr (.inl ⟨hi, h⟩)
  · rw [List.getElem?_append_right (by omega), hl, hi, Nat.sub_self] at h
    simp at h
    exact .inl ⟨hi, h.symm⟩
  · rw [List.getElem?_append_right (by omega), hl, show i - k = (i - k - 1) + 1 by omega, List.getElem?_cons_succ, List.getElem?_drop, show k + (i - k - 1) = i - 1 by omega] at h
    exact .inr (.inr ⟨hi, h⟩)
theorem insAt_len {α : Type} (l : List α) {k : Nat} (a : α) (hk : k ≤ l.length) : (insAt l k a).length = l.length + 1 := by
  unfold insAt
  simp only [List.length_append, List.length_cons, List.length_take, List.length_drop]
  omega
/-- One exception more. -/
theorem XAt.ins {w w' : World} {B : Nat} {X : List Xc} {x : Xc} {xv xv' u : Value} {us : List Value} (h : Exs X) (h1 : us.length = X.length) (h2 : w.ownsRow B 126 2 xv X.length (xcells X us)) (h3 : ∀ (k : Nat) (x : Xc) (u : Value), X[k]? = some x → us[k]? = some u → w.ownsRow B 3 1 u x.2.length (x.2.map iv))
    (hx : IsX x) (hh : xhas X x.1 = false) (hfew : X.length < 1000) (hu : w.ownsRow B 3 1 u x.2.length (x.2.map iv)) (ho : w'.ownsRow B 126 2 xv' (X.length + 1) (xcells (insAt X (xk X x.1) x) (insAt us (xk X x.1) u))) (hg : w.grownBy w' xv.ownBlock) : XAt w' B (xput X x) xv' := by
  have hk := xk_le X x.1
  have hp : xput X x = insAt X (xk X x.1) x := if_neg (by rw [hh]; exact Bool.false_ne_true)
  have hr := own_typed h2
  have hlen := insAt_len X x hk
  refine ⟨⟨h.sor.put x, fun y hy => ?_, by rw [hp, hlen]; omega⟩, insAt us (xk X x.1) u, by rw [hp, hlen, insAt_len us u (by omega)]; omega, by rw [hp, hlen]; exact ho, ?_⟩
  · rcases mem_xput hy with h5 | h5
    · exact h.is y h5
    · rw [h5]; exact hx
  · intro k z t hz ht
    rw [hp] at hz
    rcases insAt_get hk hz with ⟨e1, rfl⟩ | ⟨e1, hz⟩ | ⟨e1, hz⟩ <;> rcases insAt_get (by omega) ht with ⟨e2, rfl⟩ | ⟨e2, ht⟩ | ⟨e2, ht⟩ <;> first | (exfalso; omega) | skip
    · exact own_kept_type hu hg hr ne_xexc
    · exact own_kept_type (h3 _ _ _ hz ht) hg hr ne_xexc
    · exact own_kept_type (h3 _ _ _ hz ht) hg hr ne_xexc
/-- What Except leaves. -/
structure XOut (X' : List Xc) (B p : Nat) (P : List Pt) (v xv : Value) (w w' : World) : Prop where
  low : Below B w w'
  out : ∃ xv', HyAt w' B p P v xv' ∧ XAt w' B X' xv' ∧ Frm w p xv w' xv'
theorem XOut.same {X : List Xc} {B p : Nat} {P : List Pt} {v xv : Value} {w w' : World} (h : HyAt w B p P v xv) (hx : XAt w B X xv) (hB : B ≤ w.heap.size) (hb : Below w.heap.size w w') : XOut X B p P v xv w w' :=
  ⟨hb.mono hB, xv, h.below hb, hx.below hb, Frm.of_below p xv hb⟩
def exceptP (X : List Xc) (B p : Nat) (P : List Pt) (v xv : Value) (s : ByteArray) (w : World) (e : Ending) (w' : World) : Prop :=
  e = .returned (.int .i64 (xtellE X s.data.toList)) ∧ XOut (xtell X s.data.toList) B p P v xv w w'
theorem exceptP_no {X : List Xc} {B p : Nat} {P : List Pt} {v xv : Value} {s : ByteArray} {w w' : World} (h : HyAt w B p P v xv) (hx : XAt w B X xv) (hB : B ≤ w.heap.size) (hb : Below w.heap.size w w') (hn : par s.data.toList = none) : exceptP X B p P v xv s w (.returned (.int .i64 70)) w' := by
  unfold exceptP xtellE xtell
  rw [hn]
  exact ⟨rfl, XOut.same h hx hB hb⟩
theorem exceptP_put {X : List Xc} {x : Xc} {B p : Nat} {P : List Pt} {v xv : Value} {s : ByteArray} {w w' : World} (hp : par s.data.toList = some x) (hh : xhas X x.1 = true) (ho : XOut (xput X x) B p P v xv w w') : exceptP X B p P v xv s w (.returned (.int .i64 0)) w' := by
  unfold exceptP xtellE xtell
  rw [hp]
  simp only [hh, if_true]
  exact ⟨trivial, ho⟩
theorem exceptP_ins {X : List Xc} {x : Xc} {B p : Nat} {P : List Pt} {v xv : Value} {s : ByteArray} {w w' : World} (hp : par s.data.toList = some x) (hh : xhas X x.1 = false) (hn : X.length ≠ 1000) (ho : XOut (xput X x) B p P v xv w w') : exceptP X B p P v xv s w (.returned (.int .i64 0)) w' := by
  unfold exceptP xtellE xtell
  rw [hp]
  simp only [hh, Bool.false_eq_true, if_false, if_neg hn]
  exact ⟨trivial, ho⟩
theorem exceptP_full {X : List Xc} {x : Xc} {B p : Nat} {P : List Pt} {v xv : Value} {s : ByteArray} {w w' : World} (h : HyAt w B p P v xv) (hx : XAt w B X xv) (hB : B ≤ w.heap.size) (hb : Below w.heap.size w w') (hp : par s.data.toList = some x) (hh : xhas X x.1 = false) (hn : X.length = 1000) : exceptP X B p P v xv s w (.returned (.int .i64 6)) w' := by
  unfold exceptP xtellE xtell
  rw [hp]
  simp only [hh, Bool.false_eq_true, if_false, if_pos hn]
  exact ⟨trivial, XOut.same h hx hB hb⟩
theorem own_lt {w : World} {B n : Nat} {e : TypeId} {size : Nat} {g c : Nat} {xs : List Value} (h : w.ownsRow B e size (.slice (some ⟨g, 0, none⟩) n c) n xs) : B ≤ g ∧ g < w.heap.size := h.lt g rfl
theorem XOut.below {X' : List Xc} {B p : Nat} {P : List Pt} {v xv : Value} {w w' w2 : World} (h : XOut X' B p P v xv w w') (hz : B ≤ w'.heap.size) (hw : w.heap.size ≤ w'.heap.size) (hb : Below w'.heap.size w' w2) : XOut X' B p P v xv w w2 := by
  obtain ⟨h1, xv', h2, h3, h4⟩ := h
  exact ⟨h1.trans (hb.mono hz), xv', h2.below hb, h3.below hb, h4.below hw hb⟩
theorem XOut.drew {X' : List Xc} {B p : Nat} {P : List Pt} {v xv : Value} {w w' : World} (h : XOut X' B p P v xv w w') : XOut X' B p P v xv w w'.drew := by
  obtain ⟨h1, xv', h2, h3, h4⟩ := h
  have hb : Below w'.heap.size w' w'.drew := Below.drew (Below.refl _ _)
  exact ⟨Below.drew h1, xv', h2.below hb, h3.below hb, ⟨fun k hk a b => h4.same k hk a b, h4.at_⟩⟩
theorem XOut.fin {X' : List Xc} {B p : Nat} {P : List Pt} {v xv xv' : Value} {w w' : World} (h1 : HyAt w' B p P v xv) (h2 : XAt w' B X' xv') (h3 : Below B w w') (h4 : Frm w p xv w' xv') : XOut X' B p P v xv w (w'.setCell ⟨p, 2, none⟩ xv') :=
  ⟨below_set h3 h1.tr.low _ _, xv', h1.setx xv', h2.setp h1.tr.blk 2 xv', h4.setp 2 xv'⟩
/-- Insert, with all that it leaves. -/
theorem ins_call {B p : Nat} {P : List Pt} {X : List Xc} {st : Xc} {v xv u : Value} {Z : ByteArray} {w w3 : World} {s : ByteArray} {t : Nm} (hI : InsP X st) (hZ : S st.1 = Z) (hJ : EInv s w s.size st u w3) (h : HyAt w3 B p P v xv) (hx : XAt w3 B X xv) (hb3 : Below w.heap.size w w3) (hB : B ≤ w.heap.size) (hp : par t = some st) (hh : xhas X st.1 = false) (hn : ¬ X.length = 1000)
    (W : World) (hb : Below w3.heap.size w3 W) (hk : Blk W w3.heap.size 126 #[.string Z, u]) :
    Calls Try.prog 85 #[xv, .int .i64 (xk X st.1 : Int), .slice (some ⟨w3.heap.size, 0, none⟩) 1 1] W fun e w' => ∃ xv', e = .returned xv' ∧ HyAt w' B p P v xv ∧ XAt w' B (xput X st) xv' ∧ Below B w w' ∧ Frm w p xv w' xv' := by
  obtain ⟨us, h1, h2, h3⟩ := hx.row
  have hown := own_below h2 hb
  have hu1 : u.oneCell' = true := by
    obtain ⟨A, c, hu, _⟩ := own_sl hJ.own
    rw [hu]; rfl
  have hgv : some w3.heap.size ≠ xv.ownBlock := by
    intro e
    have := (h2.lt _ e.symm).2
    omega
  have hw3 := hb3.size
  have hWs := hb.size
  have hlen : X.length < 1000 := by have := hx.ex.few; omega
  have hu := own_base (own_below hJ.own hb) hB
  have hus1 : ∀ y ∈ us, y.oneCell' = true := by
    intro y hy
    obtain ⟨k, hk1, hk2⟩ := List.getElem_of_mem hy
    have hkx : k < X.length := by omega
    obtain ⟨A, c, hu, _⟩ := own_sl (h3 k X[k] y (List.getElem?_eq_getElem hkx) (by rw [List.getElem?_eq_getElem hk1, hk2]))
    rw [hu]; rfl
  refine (hI W B xv u w3.heap.size us h1 hus1 hown hu1 (by rw [hZ]; exact hk) hgv (by omega) hlen).mono ?_
  rintro e w' ⟨xv', rfl, ho, hg, hat⟩
  refine ⟨xv', rfl, (h.below hb).grown hg (own_typed hown), XAt.ins hx.ex h1 hown (fun k x u a b => own_below (h3 k x u a b) hb) (par_is hp) hh hlen hu ho hg, below_grown hB ((andThen hb3 hb).mono hB) hg (fun k hk => (hown.lt k hk).1), ?_, ?_⟩
  · intro k hk' h5 h6
    exact (hg.block k (by omega) h6).trans ((hb.block k (by omega)).trans (hb3.block k hk'))
  · rcases hat with e | ⟨q, e, hq⟩
    · exact .inl e
    · exact .inr ⟨q, e, by omega⟩
/-- The place that is there takes it. -/
theorem put_out {B p g c : Nat} {P : List Pt} {X : List Xc} {st : Xc} {v u : Value} {Z : ByteArray} {w w3 : World} {s : ByteArray} {t : Nm} (hZ : S st.1 = Z) (hJ : EInv s w s.size st u w3) (h : HyAt w3 B p P v (.slice (some ⟨g, 0, none⟩) X.length c)) (hx : XAt w3 B X (.slice (some ⟨g, 0, none⟩) X.length c)) (hb3 : Below w.heap.size w w3) (hB : B ≤ w.heap.size) (hp : par t = some st) (hh : xhas X st.1 = true) {K : Nat} (hK : xk X st.1 = K) :
    XOut (xput X st) B p P v (.slice (some ⟨g, 0, none⟩) X.length c) w ((w3.setCell ⟨g, K * 2, none⟩ (.string Z)).setCell ⟨g, K * 2 + 1, none⟩ u) := by
  subst hK
  subst hZ
  obtain ⟨us, h1, h2, h3⟩ := hx.row
  have hu := own_base hJ.own hB
  have hgl := h2.lt g rfl
  have a := grown_set w3 g (xk X st.1 * 2) (.string (S st.1))
  have b := grown_set (w3.setCell ⟨g, xk X st.1 * 2, none⟩ (.string (S st.1))) g (xk X st.1 * 2 + 1) u
  have hgr : w3.grownBy ((w3.setCell ⟨g, xk X st.1 * 2, none⟩ (.string (S st.1))).setCell ⟨g, xk X st.1 * 2 + 1, none⟩ u) (some g) :=
    ⟨b.os.trans a.os, b.tape.trans a.tape, b.output.trans a.output, Nat.le_trans a.size b.size, fun k hk hne => (b.block k (Nat.lt_of_lt_of_le hk a.size) hne).trans (a.block k hk hne)⟩
  refine ⟨below_set (below_set (hb3.mono hB) hgl.1 _ _) hgl.1 _ _, _, h.grown hgr (own_typed h2), hx.put (par_is hp) hh hu, ?_, .inl rfl⟩
  intro k hk h5 h6
  exact (hgr.block k (Nat.lt_of_lt_of_le hk hb3.size) h6).trans (hb3.block k hk)
theorem last_get {l : List Int} {n : Nat} {x : Int} (hn : l.length = n + 1) (hx : l[n]? = some x) : l.getLast? = some x := by
  rw [List.getLast?_eq_getElem?, hn]
  exact hx
end Go.Proofs.Ytmcekdjhkjhcdaa.Hy

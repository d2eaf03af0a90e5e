import Derived.Test.YtmcekdjhkjhcdaaHym
import Derived.Test.YtmcekdjhkjhcdaaHyf0
/- The document's object in memory: its patterns, its exceptions; what is left as it lay. Conditions: those that each theorem names. -/
namespace Go.Proofs.Ytmcekdjhkjhcdaa.Hy
open Go.ChangeShapes Go.WideShapes Go.ChangeAt Go.RowKit
open Me Hp
set_option linter.unusedVariables false
set_option linter.unusedSimpArgs false
/-- A row of pairs: a text, and a row of numbers. -/
def RowS (t : TypeId) (w : World) (B : Nat) (L : List Xc) (v : Value) : Prop :=
  ∃ us : List Value, us.length = L.length ∧ w.ownsRow B t 2 v L.length (xcells L us) ∧ ∀ (k : Nat) (x : Xc) (u : Value), L[k]? = some x → us[k]? = some u → w.ownsRow B 3 1 u x.2.length (x.2.map iv)
theorem RowS.nil (t : TypeId) (w : World) (B : Nat) : RowS t w B [] (.slice none 0 0) := ⟨[], rfl, World.ownsRow_nil _ _ _ _, by intro k x u h; simp at h⟩
theorem RowS.below {t : TypeId} {w w' : World} {B : Nat} {L : List Xc} {v : Value} (h : RowS t w B L v) (hb : Below w.heap.size w w') : RowS t w' B L v := by
  obtain ⟨us, h1, h2, h3⟩ := h
  exact ⟨us, h1, own_below h2 hb, fun k x u hk hu => own_below (h3 k x u hk hu) hb⟩
theorem own_same {w w' : World} {B n : Nat} {e : TypeId} {size : Nat} {v : Value} {xs : List Value} (h : w.ownsRow B e size v n xs) (hs : ∀ g, v.ownBlock = some g → w'.heap[g]? = w.heap[g]?) : w'.ownsRow B e size v n xs := by
  refine ⟨h.1, ?_⟩
  rcases h.2 with hn | ⟨g, cap, cur, rfl, hb, hg, r⟩
  · exact .inl hn
  · exact .inr ⟨g, cap, cur, rfl, hb, (hs g rfl).trans hg, r⟩
/-- The rows of numbers lie as they lay. -/
def IntsSame (w w' : World) : Prop := ∀ (g : Nat) (cs : Array Value), Blk w g 3 cs → w'.heap[g]? = w.heap[g]?
theorem own_ints {w w' : World} {B n : Nat} {v : Value} {xs : List Value} (h : w.ownsRow B 3 1 v n xs) (hi : IntsSame w w') : w'.ownsRow B 3 1 v n xs :=
  own_same h fun g hg => by
    obtain ⟨cs, hb⟩ := own_typed h g hg
    exact hi g cs hb
theorem RowS.keep {t : TypeId} {w w' : World} {B : Nat} {L : List Xc} {v : Value} (h : RowS t w B L v) (hs : ∀ g, v.ownBlock = some g → w'.heap[g]? = w.heap[g]?) (hi : IntsSame w w') : RowS t w' B L v := by
  obtain ⟨us, h1, h2, h3⟩ := h
  exact ⟨us, h1, own_same h2 hs, fun k x u hk hu => own_ints (h3 k x u hk hu) hi⟩
theorem RowS.slice {t : TypeId} {w : World} {B : Nat} {L : List Xc} {v : Value} (h : RowS t w B L v) : ∃ A c, v = .slice A L.length c ∧ L.length ≤ c ∧ c ≤ maxLen ∧ (A = none → c = 0) := by
  obtain ⟨us, h1, h2, h3⟩ := h
  exact own_sl h2
theorem RowS.get {t : TypeId} {w : World} {B : Nat} {L : List Xc} {v : Value} (h : RowS t w B L v) {k : Nat} {x : Xc} (hx : L[k]? = some x) : ∃ g c u, v = .slice (some ⟨g, 0, none⟩) L.length c ∧ L.length ≤ c ∧ B ≤ g ∧ g < w.heap.size ∧
    w.cell? ⟨g, k * 2, none⟩ = some (.string (S x.1)) ∧ w.cell? ⟨g, k * 2 + 1, none⟩ = some u ∧ w.ownsRow B 3 1 u x.2.length (x.2.map iv) := by
  obtain ⟨us, h1, h2, h3⟩ := h
  have hk := (List.getElem?_eq_some_iff.1 hx).1
  obtain ⟨u, hu⟩ := get_some (l := us) (k := k) (by omega)
  obtain ⟨g1, g2⟩ := xcells_get hx hu
  rcases h2.2 with ⟨_, h4⟩ | ⟨g, cap, cur, h', hb, hg, hnc, hcm, hcs, htake⟩
  · omega
  · subst h'
    refine ⟨g, cap, u, rfl, hnc, hb, (Array.getElem?_eq_some_iff.1 hg).1, ?_, ?_, h3 k x u hx hu⟩
    · exact (h2.cellAt (k * 2) (by omega)).trans g1
    · exact (h2.cellAt (k * 2 + 1) (by omega)).trans g2
theorem RowS.one {t : TypeId} {w : World} {B : Nat} {L : List Xc} {v : Value} (h : RowS t w B L v) : ∃ us : List Value, us.length = L.length ∧ w.ownsRow B t 2 v L.length (xcells L us) ∧ (∀ y ∈ us, y.oneCell' = true) ∧ ∀ (k : Nat) (x : Xc) (u : Value), L[k]? = some x → us[k]? = some u → w.ownsRow B 3 1 u x.2.length (x.2.map iv) := by
  obtain ⟨us, h1, h2, h3⟩ := h
  refine ⟨us, h1, h2, ?_, h3⟩
  intro y hy
  obtain ⟨k, hk1, hk2⟩ := List.getElem_of_mem hy
  have hkx : k < L.length := by omega
  obtain ⟨A, c, hu, _⟩ := own_sl (h3 k L[k] y (List.getElem?_eq_getElem hkx) (by rw [List.getElem?_eq_getElem hk1, hk2]))
  rw [hu]; rfl
/-- One more, in its place: what the new row holds. -/
theorem RowS.ins {t : TypeId} {w' : World} {B : Nat} {L : List Xc} {v' u : Value} {us : List Value} {k : Nat} {x : Xc} (h1 : us.length = L.length) (hk : k ≤ L.length) (hown : w'.ownsRow B t 2 v' (L.length + 1) ((xcells L us).take (k * 2) ++ [.string (S x.1), u] ++ (xcells L us).drop (k * 2)))
    (hi : ∀ (k : Nat) (x : Xc) (u : Value), L[k]? = some x → us[k]? = some u → w'.ownsRow B 3 1 u x.2.length (x.2.map iv)) (hu : w'.ownsRow B 3 1 u x.2.length (x.2.map iv)) : RowS t w' B (insAt L k x) v' := by
  have hl : (insAt L k x).length = L.length + 1 := by unfold insAt; rw [List.length_append, List.length_cons, List.length_take, List.length_drop]; omega
  refine ⟨insAt us k u, ?_, by rw [hl, xcells_ins h1 hk]; exact hown, ?_⟩
  · rw [hl]; unfold insAt; rw [List.length_append, List.length_cons, List.length_take, List.length_drop]; omega
  · intro j y z hy hz
    unfold insAt at hy hz
    have e1 : (L.take k).length = k := by rw [List.length_take]; omega
    have e2 : (us.take k).length = k := by rw [List.length_take]; omega
    rcases Nat.lt_trichotomy j k with hj | rfl | hj
    · rw [List.getElem?_append_left (by omega), List.getElem?_take, if_pos hj] at hy hz
      exact hi j y z hy hz
    · rw [List.getElem?_append_right (by omega), e1, Nat.sub_self] at hy
      rw [List.getElem?_append_right (by omega), e2, Nat.sub_self] at hz
      simp only [List.getElem?_cons_zero, Option.some.injEq] at hy hz
      subst hy; subst hz
      exact hu
    · obtain ⟨i, rfl⟩ : ∃ i, j = k + 1 + i := ⟨j - (k + 1), by omega⟩
      rw [List.getElem?_append_right (by omega), e1, show k + 1 + i - k = i + 1 by omega, List.getElem?_cons_succ, List.getElem?_drop] at hy
      rw [List.getElem?_append_right (by omega), e2, show k + 1 + i - k = i + 1 by omega, List.getElem?_cons_succ, List.getElem?_drop] at hz
      exact hi _ y z hy hz
/-- The document's object. -/
structure DAt (w : World) (B q : Nat) (L X : List Xc) (pv xv : Value) : Prop where
  blk : Blk w q 97 #[pv, xv]
  low : B ≤ q
  pr : RowS 48 w B L pv
  xr : RowS 86 w B X xv
theorem DAt.below {w w' : World} {B q : Nat} {L X : List Xc} {pv xv : Value} (h : DAt w B q L X pv xv) (hb : Below w.heap.size w w') : DAt w' B q L X pv xv :=
  ⟨h.blk.below hb h.blk.lt, h.low, h.pr.below hb, h.xr.below hb⟩
theorem DAt.new (w : World) (B : Nat) (hB : B ≤ w.heap.size) : DAt (w.alloc (.cells #[.slice none 0 0, .slice none 0 0] 97)) B w.heap.size [] [] (.slice none 0 0) (.slice none 0 0) :=
  ⟨Blk.new _ _ _, hB, RowS.nil _ _ _, RowS.nil _ _ _⟩
/-- An append of a slice that comes in, onto a row of the call's own. -/
theorem run_append_rows {P : Program} {w : World} (t ty e : TypeId) (z : Value) (size bytes : Nat) (ht : P.underlying t = some (.slice e)) (hinfo : (P.info? e).map (fun i => (i.zero, i.size, i.bytes)) = some (some z, size, bytes)) (hzs : z.cells.size = size) (hsz : 0 < size)
    (base : Nat) (hbase : base ≤ w.heap.size) (v : Value) (n : Nat) (xs : List Value) (hown : w.ownsRow base e size v n xs) (B : Nat) (A : Option Addr) (m c : Nat) (news : List Value) (hl : news.length = m * size) (hs : Seg w B A news) (hA : A = none → c = 0) (h1 : ∀ u ∈ news, u.oneCell' = true) (h63 : n + m ≤ maxLen) (hbytes : (n + m) * bytes ≤ 140737488355328) :
    ∃ v' w', (Builtin.append_ #[t, t] ty #[v, .slice A m c]).run P w = .ok v' w' ∧ w'.ownsRow base e size v' (n + m) (xs ++ news) ∧ w.grownBy w' v.ownBlock := by
  obtain ⟨i, hi, hz, hsi, hbi⟩ := info_parts hinfo
  cases A with
  | none =>
    obtain rfl := hA rfl
    have hn : news = [] := by
      rcases hs with h | ⟨b, off, e, _⟩
      · exact h
      · cases e
    subst hn
    have hm : m = 0 := by
      rcases Nat.eq_zero_or_pos m with h | h
      · exact h
      · have := Nat.mul_pos h hsz
        simp at hl
        omega
    subst hm
    exact ⟨v, w, run_append_owned_none w base t ty e i size ht hi v n xs hown, by simpa using hown, rfl, rfl, rfl, Nat.le_refl _, fun k _ _ => rfl⟩
  | some ad =>
    have hc : ∀ j u, news[j]? = some u → w.cell? (ad.add j) = some u := by
      rcases hs with h | ⟨b, off, e, _, h⟩
      · intro j u hu
        rw [h] at hu
        simp at hu
      · injection e with e
        subst e
        intro j u hu
        have hadd : (⟨b, off, none⟩ : Addr).add j = ⟨b, off + j, none⟩ := by unfold Addr.add; split <;> simp_all
        rw [hadd]
        exact h j u hu
    obtain ⟨v', w', hr, h2, h3, _⟩ := run_append_own (P := P) w base t ty e i _ size bytes ht hi hz hsi hbi hzs hsz v n xs hown ad m c news hl hc h1 h63 hbytes hbase
    exact ⟨v', w', hr, h2, h3⟩
theorem wpList_append_rows {P : Program} {ops : Array Oper} {rest : List Oper} {o : Oper} {a : Act} {w : World} {Q : Exit → Act → World → Prop} (hgd : o.guard = none) (s x : Operand) (t : TypeId) (ho : o.op = .call { callee := .builtin .append, args := #[s, x], argTypes := #[t, t] })
    (e : TypeId) (z : Value) (size bytes : Nat) (ht : P.underlying t = some (.slice e)) (hinfo : (P.info? e).map (fun i => (i.zero, i.size, i.bytes)) = some (some z, size, bytes)) (hzs : z.cells.size = size) (hsz : 0 < size)
    (base : Nat) (hbase : base ≤ w.heap.size) (v : Value) (n : Nat) (xs : List Value) (hs : a.eval s = v) (hown : w.ownsRow base e size v n xs) (B : Nat) (A : Option Addr) (m c : Nat) (news : List Value) (hx : a.eval x = .slice A m c) (hl : news.length = m * size) (hseg : Seg w B A news) (hA : A = none → c = 0) (h1 : ∀ u ∈ news, u.oneCell' = true) (h63 : n + m ≤ maxLen) (hbytes : (n + m) * bytes ≤ 140737488355328)
    (h : ∀ v' w', w'.ownsRow base e size v' (n + m) (xs ++ news) → w.grownBy w' v.ownBlock → wpList P ops Q rest (a.put o.dst v') w') : wpList P ops Q (o :: rest) a w :=
  wpList_plain hgd fun K hK => by
    obtain ⟨v', w', hr, h2, h3⟩ := run_append_rows t o.type e z size bytes ht hinfo hzs hsz base hbase v n xs hown B A m c news hl hseg hA h1 h63 hbytes
    unfold Oper.wp execOp
    simp only [ho, resolve, invoke, builtin, Sem.run_bind, Sem.run_pure, Result.andThen_ok, List.map_toArray, List.map_cons, List.map_nil, hs, hx, hr]
    exact hK _ _ (h v' w' h2 h3)
end Go.Proofs.Ytmcekdjhkjhcdaa.Hy

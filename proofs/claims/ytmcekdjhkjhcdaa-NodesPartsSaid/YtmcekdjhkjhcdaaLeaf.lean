import Derived.Test.YtmcekdjhkjhcdaaMem
import Derived.ProofKit
import Derived.OpenShut
import Derived.Deep.Slices
import Derived.KernelRfl
/- A struct or an array, taken down to its leaves, over any program: what each cell of a value that reads as data is. Conditions: those that each theorem names. -/
namespace Go.Proofs.Ytmcekdjhkjhcdaa.Le
open Go.ChangeShapes Go.WideShapes Go.RowKit Go.Deep

/-- The types of a type's cells. -/
def lv (P : Program) : Nat → TypeId → List TypeId
  | 0, t => [t]
  | n + 1, t => match P.underlying t with
    | some (.struct fs) => fs.toList.flatMap fun f => lv P n f.type
    | some (.array k e) => (List.replicate k (lv P n e)).flatten
    | _ => [t]

/-- The cells' types are where the type's own table says. -/
def good (P : Program) : Nat → TypeId → Bool
  | 0, t => P.cellsOf t == 1
  | n + 1, t => match P.underlying t with
    | some (.struct fs) => (P.cellsOf t == (lv P (n + 1) t).length) && fs.toList.all (fun f => good P n f.type) &&
        (List.range (lv P (n + 1) t).length).all fun i => (List.range fs.size).any fun j => match fs[j]? with
          | some f => decide (f.offset ≤ i) && decide (i < f.offset + P.cellsOf f.type) && decide (f.offset + P.cellsOf f.type ≤ P.cellsOf t) && decide ((lv P n f.type)[i - f.offset]? = (lv P (n + 1) t)[i]?)
          | none => false
    | some (.array k e) => (P.cellsOf t == (lv P (n + 1) t).length) && good P n e &&
        (List.range (lv P (n + 1) t).length).all fun i => (List.range k).any fun j => decide (j * P.cellsOf e ≤ i) && decide (i < j * P.cellsOf e + P.cellsOf e) && decide (j * P.cellsOf e + P.cellsOf e ≤ P.cellsOf t) && decide ((lv P n e)[i - j * P.cellsOf e]? = (lv P (n + 1) t)[i]?)
    | _ => P.cellsOf t == 1

section
variable {H : Type} {enc : TypeId × Value → H} {P : Program} {w : World} {base : Nat} {spare : Nat → Bool} {held : Bool}

theorem slice_get {cs : List Value} {o c i : Nat} (h0 : o ≤ i) (h1 : i < o + c) : ((cs.drop o).take c)[i - o]? = cs[i]? := by
  rw [List.getElem?_take, if_pos (by omega), List.getElem?_drop]
  congr 1
  omega

/-- Each cell reads as its leaf's type. -/
theorem leaves : ∀ (n : Nat) {t : TypeId} {fuel : Nat} {cs : List Value} {x : DataW H × List MemPlace}, good P n t = true → cs.length = P.cellsOf t → DataW.trod enc P w base spare held fuel t cs = some x →
    ∀ (i : Nat) (u : TypeId), (lv P n t)[i]? = some u → ∃ (v : Value) (m : Nat) (y : DataW H × List MemPlace), cs[i]? = some v ∧ DataW.trod enc P w base spare held m u [v] = some y
  | 0, t, fuel, cs, x, hg, hl, h, i, u, hu => by
    simp only [lv] at hu
    match i, hu with
    | 0, hu =>
      simp at hu
      subst hu
      unfold good at hg
      rw [beq_iff_eq] at hg
      rw [hg] at hl
      match cs, hl with
      | [v], _ => exact ⟨v, fuel, x, rfl, h⟩
    | i + 1, hu => simp at hu
  | n + 1, t, fuel, cs, x, hg, hl, h, i, u, hu => by
    have hilt : i < (lv P (n + 1) t).length := by
      rcases Nat.lt_or_ge i (lv P (n + 1) t).length with h1 | h1
      · exact h1
      · rw [List.getElem?_eq_none h1] at hu; cases hu
    unfold good at hg
    split at hg
    · rename_i fs hfs
      simp only [Bool.and_eq_true, List.all_eq_true] at hg
      obtain ⟨⟨_, hgf⟩, hcov⟩ := hg
      have hc := hcov i (List.mem_range.2 hilt)
      simp only [List.any_eq_true] at hc
      obtain ⟨j, hj, hc⟩ := hc
      split at hc
      · rename_i f hf
        simp only [Bool.and_eq_true, decide_eq_true_eq] at hc
        obtain ⟨⟨⟨h1, h2⟩, h4⟩, h3⟩ := hc
        obtain ⟨xs, n', _, _, hcl, hxl, hat⟩ := DataW.trod_struct hfs h
        have hjl : j < fs.size := by
          rcases Nat.lt_or_ge j fs.size with hh | hh
          · exact hh
          · rw [Array.getElem?_eq_none hh] at hf; cases hf
        have hxj : xs[j]? = some (xs[j]'(by omega)) := List.getElem?_eq_getElem (by omega)
        have ht := (hat j f hf).trans hxj
        have hmem : f ∈ fs.toList := by
          have := Array.mem_of_getElem? hf
          simpa using this
        have hlen : ((cs.drop f.offset).take (P.cellsOf f.type)).length = P.cellsOf f.type := by
          rw [List.length_take, List.length_drop]
          omega
        obtain ⟨v, m, y, hv, hy⟩ := leaves n (hgf f hmem) hlen ht (i - f.offset) u (by rw [h3]; exact hu)
        exact ⟨v, m, y, by rw [← slice_get h1 h2]; exact hv, hy⟩
      · cases hc
    · rename_i k e he
      simp only [Bool.and_eq_true, List.all_eq_true] at hg
      obtain ⟨⟨_, hge⟩, hcov⟩ := hg
      have hc := hcov i (List.mem_range.2 hilt)
      simp only [List.any_eq_true, List.mem_range, Bool.and_eq_true, decide_eq_true_eq] at hc
      obtain ⟨j, hj, ⟨⟨h1, h2⟩, h4⟩, h3⟩ := hc
      obtain ⟨xs, n', _, _, hcl, hxl, hat⟩ := DataW.trod_array he h
      have hxj : xs[j]? = some (xs[j]'(by omega)) := List.getElem?_eq_getElem (by omega)
      have ht := (hat j hj).trans hxj
      have hlen : ((cs.drop (j * P.cellsOf e)).take (P.cellsOf e)).length = P.cellsOf e := by
        rw [List.length_take, List.length_drop]
        omega
      obtain ⟨v, m, y, hv, hy⟩ := leaves n hge hlen ht (i - j * P.cellsOf e) u (by rw [h3]; exact hu)
      exact ⟨v, m, y, by rw [← slice_get h1 h2]; exact hv, hy⟩
    · rename_i hns hna
      have hlv : lv P (n + 1) t = [t] := by
        unfold lv
        split
        · rename_i fs hfs; exact absurd hfs (hns fs)
        · rename_i k e he; exact absurd he (hna k e)
        · rfl
      rw [hlv] at hu
      match i, hu with
      | 0, hu =>
        simp at hu
        subst hu
        rw [beq_iff_eq] at hg
        rw [hg] at hl
        match cs, hl with
        | [v], _ => exact ⟨v, fuel, x, rfl, h⟩
      | i + 1, hu => simp at hu
end

section
variable {H : Type} {enc : TypeId × Value → H} {P : Program} {w : World} {base : Nat} {spare : Nat → Bool} {held : Bool}

/-- What is known of a row of cells of type t. -/
def Cells (enc : TypeId × Value → H) (P : Program) (w : World) (base : Nat) (spare : Nat → Bool) (held : Bool) (ls : List TypeId) (cs : List Value) : Prop :=
  cs.length = ls.length ∧ ∀ (i : Nat) (u : TypeId), ls[i]? = some u → ∃ (v : Value) (m : Nat) (y : DataW H × List MemPlace), cs[i]? = some v ∧ DataW.trod enc P w base spare held m u [v] = some y

/-- A struct that comes by value. -/
theorem open_flat {r : Reach} {b0 : Nat} {t : TypeId} {fs : Array Field} {v : Value} {d : DataW H} {ps : List MemPlace} (n : Nat) (ls : List TypeId) (hs : P.underlying t = some (.struct fs)) (hg : good P n t = true) (hl : lv P n t = ls) (hc : P.cellsOf t = ls.length)
    (hv : Value.okWide P w r b0 t v) (h : DataW.Trod enc P w base spare held t v d ps) : ∃ cs : List Value, v = .agg cs.toArray ∧ Cells enc P w base spare held ls cs := by
  obtain ⟨cs, rfl, hsz⟩ := okWide_struct hs hv
  obtain ⟨fuel, hf⟩ := h
  refine ⟨cs.toList, by simp, by simp [hsz, hc], fun i u hu => ?_⟩
  exact leaves n hg (by simp [hsz]) (by simpa [Value.cells] using hf) i u (by rw [hl]; exact hu)

/-- A slice that comes in: where it lies, and its elements' cells. -/
theorem open_rows0 {r : Reach} {b0 : Nat} {t e : TypeId} {v : Value} {d : DataW H} {ps : List MemPlace} (n : Nat) (ls : List TypeId) (ht : P.underlying t = some (.slice e)) (hg : good P n e = true) (hl : lv P n e = ls) (hc : P.cellsOf e = ls.length)
    (hv : Value.okWide P w r b0 t v) (h : DataW.Trod enc P w base (fun _ => true) held t v d ps) (hlt : ∀ x ∈ ps, x.block < w.heap.size) :
    ∃ (A : Option Addr) (c : Nat) (rows : List (List Value)), v = .slice A rows.length c ∧ rows.length ≤ c ∧ c ≤ maxLen ∧ (∀ cs ∈ rows, Cells enc P w base (fun _ => true) held ls cs) ∧ Me.Seg w w.heap.size A rows.flatten ∧ (A = none → c = 0) ∧
      (∃ es sp : List (DataW H), (d = .slice es sp ∧ es.length = rows.length ∧ es.length + sp.length = c) ∨ (d = .nil ∧ rows = [] ∧ c = 0)) := by
  obtain ⟨fuel, hf⟩ := h
  obtain ⟨a0, len0, cap0, rfl⟩ := okWide_slice ht hv
  rw [show Value.cells (.slice a0 len0 cap0) = #[.slice a0 len0 cap0] from rfl] at hf
  rcases open_slice ht hf with ⟨h0, hx⟩ | ⟨a, len, cap, m, nn, D, Pl, hcs, _, hlc, hcm, hm, hx, hi⟩
  · simp at h0
    obtain ⟨rfl, rfl, rfl⟩ := h0
    simp only [Prod.mk.injEq] at hx
    exact ⟨none, 0, [], rfl, Nat.le_refl _, by simp [maxLen], by simp, .inl rfl, fun _ => rfl, [], [], .inr ⟨hx.1, rfl, rfl⟩⟩
  · simp at hcs
    obtain ⟨rfl, rfl, rfl⟩ := hcs
    simp only [if_true] at hm
    subst hm
    simp only [Prod.mk.injEq] at hx
    obtain ⟨hd, hps⟩ := hx
    have hrow : ∀ i, i < len0 → ∃ cs, w.cells? base (a.add (i * P.cellsOf e)) (P.cellsOf e) = some cs ∧ Cells enc P w base (fun _ => true) held ls cs := by
      intro i hil
      obtain ⟨cs, h1, h2⟩ := hi i (by omega)
      obtain ⟨_, h3, _⟩ := World.cells?_some h1
      exact ⟨cs, h1, by rw [h3, hc], fun j u hu => leaves n hg h3 h2 j u (by rw [hl]; exact hu)⟩
    let R : Nat → List Value := fun i => (w.cells? base (a.add (i * P.cellsOf e)) (P.cellsOf e)).getD []
    have hR : ∀ i, i < len0 → Cells enc P w base (fun _ => true) held ls (R i) ∧ ∀ j, j < P.cellsOf e → w.cell? ((a.add (i * P.cellsOf e)).add j) = (R i)[j]? := by
      intro i hil
      obtain ⟨cs, h1, h2⟩ := hrow i hil
      have e1 : R i = cs := by simp [R, h1]
      rw [e1]
      exact ⟨h2, (World.cells?_some h1).2.2⟩
    have hlen : ∀ i, i < len0 → (R i).length = P.cellsOf e := fun i hil => by rw [hc]; exact (hR i hil).1.1
    refine ⟨some a, m, (List.range len0).map R, by simp, by simpa using hlc, hcm, ?_, ?_, (by intro hh; cases hh), (List.range len0).map D, (List.range (m - len0)).map fun j => D (len0 + j), .inl ⟨hd, by simp, by simp; omega⟩⟩
    · intro cs hcs
      obtain ⟨i, hi', rfl⟩ := List.mem_map.1 hcs
      exact (hR i (List.mem_range.1 hi')).1
    · by_cases hz : ((List.range len0).map R).flatten = []
      · exact .inl hz
      · have hpos : 0 < len0 * P.cellsOf e := by
          rcases Nat.eq_zero_or_pos (len0 * P.cellsOf e) with h1 | h1
          · exfalso
            apply hz
            rw [List.flatten_eq_nil_iff]
            intro l hl'
            obtain ⟨i, hi', rfl⟩ := List.mem_map.1 hl'
            have hil := List.mem_range.1 hi'
            have h2 := hlen i hil
            rcases Nat.mul_eq_zero.1 h1 with h3 | h3
            · omega
            · rw [h3] at h2; exact List.eq_nil_of_length_eq_zero h2
          · exact h1
        have hlen0 : 0 < len0 := Nat.pos_of_mul_pos_right hpos
        have hce : 0 < P.cellsOf e := Nat.pos_of_mul_pos_left hpos
        have hcell0 : ∃ u, w.cell? a = some u := by
          obtain ⟨h1, h2⟩ := hR 0 hlen0
          have h3 := h2 0 hce
          have h4 : (a.add (0 * P.cellsOf e)).add 0 = a := by simp [Addr.add]
          rw [h4] at h3
          refine ⟨_, h3.trans (List.getElem?_eq_getElem (by rw [hlen 0 hlen0]; exact hce))⟩
        obtain ⟨u0, hu0⟩ := hcell0
        have hspot : a.spot = none := World.cell?_spot hu0
        obtain ⟨b, off, sp⟩ := a
        simp only at hspot
        subst hspot
        refine .inr ⟨b, off, rfl, ?_, ?_⟩
        · have hm0 := Nat.mul_le_mul_right (P.cellsOf e) hlc
          have := hlt (.cell b off) (by rw [hps]; exact List.mem_append_left _ (List.mem_map.2 ⟨0, List.mem_range.2 (by omega), rfl⟩))
          exact this
        · intro j u hu
          have hall : ∀ (k : Nat) (l : List Nat), (∀ i ∈ l, i < len0) → ∀ j u, ((l.map R).flatten)[j]? = some u → ∃ i q, l[i]? ≠ none ∧ j = i * P.cellsOf e + q ∧ q < P.cellsOf e ∧ ∃ z, l[i]? = some z ∧ (R z)[q]? = some u := by
            intro k l
            induction l with
            | nil => intro _ j u h; simp at h
            | cons z l ih =>
              intro hl' j u h
              simp only [List.map_cons, List.flatten_cons] at h
              have hz1 := hlen z (hl' z (by simp))
              rcases Nat.lt_or_ge j (P.cellsOf e) with hj | hj
              · rw [List.getElem?_append_left (by omega)] at h
                exact ⟨0, j, by simp, by omega, hj, z, by simp, h⟩
              · rw [List.getElem?_append_right (by omega), hz1] at h
                obtain ⟨i, q, h1, h2, h3, y, h4, h5⟩ := ih (fun i hi' => hl' i (by simp [hi'])) _ _ h
                refine ⟨i + 1, q, by simpa using h1, ?_, h3, y, by simpa using h4, h5⟩
                rw [Nat.add_mul]; omega
          obtain ⟨i, q, _, hj, hq, z, hz1, hz2⟩ := hall 0 (List.range len0) (fun i hi' => List.mem_range.1 hi') j u hu
          have hzi : z = i ∧ i < len0 := by
            have hil : i < len0 := by
              rcases Nat.lt_or_ge i len0 with h1 | h1
              · exact h1
              · rw [List.getElem?_eq_none (by simpa using h1)] at hz1; cases hz1
            rw [List.getElem?_range hil] at hz1
            injection hz1 with hz1
            exact ⟨hz1.symm, hil⟩
          obtain ⟨rfl, hil⟩ := hzi
          have h6 := (hR z hil).2 q hq
          rw [hz2] at h6
          rw [← h6, hj]
          congr 1
          unfold Addr.add
          by_cases h7 : z * P.cellsOf e = 0 <;> by_cases h8 : q = 0 <;> simp [h7, h8, Nat.add_assoc]
theorem open_rows {r : Reach} {b0 : Nat} {t e : TypeId} {v : Value} {d : DataW H} {ps : List MemPlace} (n : Nat) (ls : List TypeId) (ht : P.underlying t = some (.slice e)) (hg : good P n e = true) (hl : lv P n e = ls) (hc : P.cellsOf e = ls.length)
    (hv : Value.okWide P w r b0 t v) (h : DataW.Trod enc P w base (fun _ => true) held t v d ps) (hlt : ∀ x ∈ ps, x.block < w.heap.size) :
    ∃ (A : Option Addr) (c : Nat) (rows : List (List Value)), v = .slice A rows.length c ∧ rows.length ≤ c ∧ c ≤ maxLen ∧ (∀ cs ∈ rows, Cells enc P w base (fun _ => true) held ls cs) ∧ Me.Seg w w.heap.size A rows.flatten ∧
      (∃ es sp : List (DataW H), (d = .slice es sp ∧ es.length = rows.length ∧ es.length + sp.length = c) ∨ (d = .nil ∧ rows = [] ∧ c = 0)) := by
  obtain ⟨A, c, rows, h1, h2, h3, h4, h5, _, h6⟩ := open_rows0 n ls ht hg hl hc hv h hlt
  exact ⟨A, c, rows, h1, h2, h3, h4, h5, h6⟩
end

section
variable {H : Type} {enc : TypeId × Value → H} {P : Program} {w : World} {base : Nat} {spare : Nat → Bool} {held : Bool}
/-- Cells that are all integers of one kind. -/
theorem cells_ints {ti : TypeId} {k : IntKind} (hu : P.underlying ti = some (.int k)) : ∀ {n : Nat} {cs : List Value}, Cells enc P w base spare held (List.replicate n ti) cs →
    ∃ zs : List Int, zs.length = n ∧ cs = zs.map (Value.int k) ∧ ∀ z ∈ zs, (Lit.int k z).wf = true
  | 0, cs, h => ⟨[], rfl, by simpa using h.1, by simp⟩
  | n + 1, cs, h => by
    obtain ⟨hl, hc⟩ := h
    match cs, hl with
    | c :: cs, hl =>
      obtain ⟨v, m, y, hv, hy⟩ := hc 0 ti (by simp [List.replicate_succ])
      simp at hv
      subst hv
      obtain ⟨z, hz, _, hw⟩ := DataW.trod_int hu hy
      simp at hz
      subst hz
      obtain ⟨zs, h1, h2, h3⟩ := cells_ints hu (n := n) (cs := cs) ⟨by simpa [List.replicate_succ] using hl, fun i u hi => by
        obtain ⟨v, m, y, hv, hy⟩ := hc (i + 1) u (by simpa [List.replicate_succ] using hi)
        exact ⟨v, m, y, by simpa using hv, hy⟩⟩
      exact ⟨z :: zs, by simp [h1], by simp [h2], by
        intro x hx
        rcases List.mem_cons.1 hx with rfl | hx
        · exact hw
        · exact h3 x hx⟩
theorem wf_bd {z : Int} (h : (Lit.int .i64 z).wf = true) : -9223372036854775808 ≤ z ∧ z ≤ 9223372036854775807 := by
  simp [Lit.wf, IntKind.min, IntKind.max, IntKind.signed, IntKind.bits] at h
  omega
end
end Go.Proofs.Ytmcekdjhkjhcdaa.Le

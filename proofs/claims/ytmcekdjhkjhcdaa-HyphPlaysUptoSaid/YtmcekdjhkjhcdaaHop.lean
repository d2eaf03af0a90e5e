import Derived.Test.YtmcekdjhkjhcdaaHh
import Derived.Test.YtmcekdjhkjhcdaaLift
import Derived.SliceStrings
import Derived.JoinedCond
/- Texts that come in, under a bound of bulk. Conditions: those that each theorem names. -/
namespace Go.Proofs.Ytmcekdjhkjhcdaa.Hy
open Go.ChangeShapes Go.WideShapes Go.ChangeAt Go.RowKit
open Me
set_option linter.unusedVariables false

theorem part_le {H : Type} {d : DataW H} {l : List (DataW H)} (h : d ∈ l) : Rows.uptoBulk d ≤ Rows.uptoBulkAll l := by
  induction l with
  | nil => cases h
  | cons x r ih =>
    simp only [Rows.uptoBulkAll]
    rcases List.mem_cons.1 h with rfl | e
    · omega
    · have := ih e; omega
theorem one_le {H : Type} (d : DataW H) : 1 ≤ Rows.uptoBulk d := by
  cases d with
  | lit l => cases l <;> simp [Rows.uptoBulk]
  | nil => simp [Rows.uptoBulk]
  | ptr d => simp [Rows.uptoBulk]
  | slice elems spare => simp [Rows.uptoBulk]
  | agg parts => simp [Rows.uptoBulk]
  | iface t d => simp [Rows.uptoBulk]
  | map entries => simp [Rows.uptoBulk]
  | held h => simp [Rows.uptoBulk]
theorem length_le {H : Type} (l : List (DataW H)) : l.length ≤ Rows.uptoBulkAll l := by
  induction l with
  | nil => simp [Rows.uptoBulkAll]
  | cons x r ih => have := one_le x; simp only [Rows.uptoBulkAll, List.length_cons]; omega
theorem text_le {H : Type} {n : Nat} {bytes : List UInt8} (h : Rows.uptoBulk (DataW.lit (H := H) (.string bytes)) ≤ n) : bytes.length ≤ n := by
  simp [Rows.uptoBulk] at h
  omega
set_option maxRecDepth 100000 in
theorem texts_of {H : Type} {enc : TypeId × Value → H} {W : World} {base : Nat} {t e : TypeId} {v : Value} {d : DataW H} {ps : List MemPlace} {r : Reach} {b0 : Nat} (ht : Try.prog.underlying t = some (.slice e)) (he : Try.prog.underlying e = some .string) (hc : Try.prog.cellsOf e = 1)
    (hv : Value.okWide Try.prog W r b0 t v) (h : DataW.Trod enc Try.prog W base (fun _ => true) true t v d ps) {n : Nat} (hn : Rows.uptoBulk d ≤ n) :
    ∃ (A : Option Addr) (ts : List ByteArray) (c : Nat), v = .slice A ts.length c ∧ ts.length ≤ c ∧ ts.length ≤ n ∧ (∀ t ∈ ts, t.size ≤ n) ∧ Seg W W.heap.size A (ts.map sv) ∧ (A = none → c = 0) := by
  obtain ⟨a0, len, cap, rfl⟩ := okWide_slice ht hv
  obtain ⟨fuel, hf⟩ := h
  rw [show Value.cells (.slice a0 len cap) = #[.slice a0 len cap] from rfl] at hf
  rcases open_strings ht he hc hf with ⟨hcs, hx⟩ | ⟨a, len', cap', ss, hcs, _, hl, hm, hz, hx, hcell, hsz⟩
  · simp at hcs
    obtain ⟨rfl, rfl, rfl⟩ := hcs
    exact ⟨none, [], 0, rfl, Nat.le_refl _, Nat.zero_le _, by simp, .inl rfl, fun _ => rfl⟩
  · simp at hcs
    obtain ⟨rfl, rfl, rfl⟩ := hcs
    simp only [if_true] at hz
    simp only [Prod.mk.injEq] at hx
    obtain ⟨hd, _⟩ := hx
    have hlen : (ss.take len).length = len := by rw [List.length_take]; omega
    subst hd
    have hbu : Rows.uptoBulkAll (strs (H := H) (ss.take len)) ≤ n := by
      simp only [Rows.uptoBulk] at hn
      omega
    refine ⟨some a, ss.take len, cap, by rw [hlen], by rw [hlen]; exact hl, ?_, ?_, ?_, by intro e; cases e⟩
    · have := length_le (strs (H := H) (ss.take len))
      rw [strs, List.length_map] at this
      unfold strs at hbu
      omega
    · intro t ht'
      have hmem : (DataW.lit (H := H) (.string t.data.toList)) ∈ strs (ss.take len) := List.mem_map.2 ⟨t, ht', rfl⟩
      have h1 := text_le (Nat.le_trans (part_le hmem) hbu)
      rw [size_list] at h1
      exact h1
    · by_cases h0 : len = 0
      · subst h0
        exact .inl (by simp)
      · have hc0 := hcell 0 (by omega)
        have hadd : a.add 0 = a := by simp [Addr.add]
        rw [hadd] at hc0
        have hspot : a.spot = none := World.cell?_spot hc0
        obtain ⟨b, off, sp⟩ := a
        simp only at hspot
        subst hspot
        refine .inr ⟨b, off, rfl, block_lt_of_cell hc0, fun j u hu => ?_⟩
        rw [List.getElem?_map, Option.map_eq_some_iff] at hu
        obtain ⟨x, hx, rfl⟩ := hu
        rw [List.getElem?_take] at hx
        split at hx
        · have hj := (List.getElem?_eq_some_iff.1 hx).1
          have h1 := hcell j hj
          rw [List.getD_eq_getElem?_getD, hx] at h1
          have h2 : (⟨b, off, none⟩ : Addr).add j = ⟨b, off + j, none⟩ := by unfold Addr.add; split <;> simp_all
          rw [h2] at h1
          exact h1
        · cases hx
end Go.Proofs.Ytmcekdjhkjhcdaa.Hy

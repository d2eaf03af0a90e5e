import Derived.Test.YtmcekdjhkjhcdaaHs
/- The plain law of HyphLiang: a word's values are the greatest of those that its patterns give one by one. Conditions: those that each theorem names. -/
namespace Go.Proofs.Ytmcekdjhkjhcdaa.Hp
set_option linter.unusedVariables false

theorem Pats.single {P : List Pt} (h : Pats P) {p : Pt} (hp : p ∈ P) : Pats [p] := ⟨by simp, by simpa using h.is p hp, by simp⟩
/-- The greatest of those that the patterns give one by one. -/
def bst (Q : List Pt) (w : Nm) (k : Nat) : Int := Q.foldl (fun a p => max a ((vals [p] w).getD k 0)) 0
theorem bst_snoc (Q : List Pt) (p : Pt) (w : Nm) (k : Nat) : bst (Q ++ [p]) w k = max (bst Q w k) ((vals [p] w).getD k 0) := by simp [bst]
def brow (Q : List Pt) (w : Nm) : List Int := (List.range (w.length - 1)).map (bst Q w)
theorem foldp_le (f : Pt → Int) : ∀ (ps : List Pt) (a b : Int), ps.foldl (fun a p => max a (f p)) a ≤ b ↔ a ≤ b ∧ ∀ p ∈ ps, f p ≤ b
  | [], a, b => by simp
  | p :: ps, a, b => by
    simp only [List.foldl_cons, List.mem_cons, forall_eq_or_imp]
    rw [foldp_le f ps]
    constructor
    · rintro ⟨h1, h2⟩; exact ⟨by omega, by omega, h2⟩
    · rintro ⟨h1, h2, h3⟩; exact ⟨by omega, h3⟩
theorem vals_getD (P : List Pt) (w : Nm) {k : Nat} (h : k < w.length - 1) : (vals P w).getD k 0 = mx (ya P (edg w) (w.length + 2)) (k + 2) := by
  rw [List.getD_eq_getElem?_getD, vals_get P w h]
  rfl
theorem liang {P : List Pt} (h : Pats P) (w : Nm) {k : Nat} (hk : k < w.length - 1) : mx (ya P (edg w) (w.length + 2)) (k + 2) = bst P w k := by
  have e : w.length + 2 = (edg w).length := (edg_len w).symm
  have key : ∀ b : Int, mx (ya P (edg w) (w.length + 2)) (k + 2) ≤ b ↔ bst P w k ≤ b := by
    intro b
    unfold bst
    rw [mx_le, foldp_le]
    constructor
    · rintro ⟨h0, h1⟩
      refine ⟨h0, fun p hp => ?_⟩
      rw [vals_getD _ _ hk, mx_le]
      refine ⟨h0, fun y hy => h1 y ?_⟩
      rw [e, mem_ya (h.single hp)] at hy
      obtain ⟨s, hs, h2, h3⟩ := hy
      rw [e, mem_ya h]
      simp only [List.mem_singleton] at hs
      exact ⟨s, hs ▸ hp, h2, h3⟩
    · rintro ⟨h0, h1⟩
      refine ⟨h0, fun y hy => ?_⟩
      rw [e, mem_ya h] at hy
      obtain ⟨s, hs, h2, h3⟩ := hy
      have h4 := h1 _ hs
      rw [vals_getD _ _ hk, mx_le] at h4
      refine h4.2 y ?_
      rw [e, mem_ya (h.single hs)]
      exact ⟨s, by simp, h2, h3⟩
  have h1 := (key _).1 (Int.le_refl _)
  have h2 := (key _).2 (Int.le_refl _)
  omega
theorem vals_best {P : List Pt} (h : Pats P) (w : Nm) : vals P w = brow P w := by
  apply List.ext_getElem?
  intro k
  by_cases hk : k < w.length - 1
  · rw [vals_get P w hk, liang h w hk]
    unfold brow
    rw [List.getElem?_map, List.getElem?_range hk]
    rfl
  · rw [List.getElem?_eq_none (by rw [vals_len]; omega), List.getElem?_eq_none (by simp [brow]; omega)]
theorem brow_nil (w : Nm) : brow [] w = List.replicate (w.length - 1) 0 := by
  apply List.ext_getElem?
  intro k
  by_cases hk : k < w.length - 1
  · rw [List.getElem?_replicate, if_pos hk]
    unfold brow
    rw [List.getElem?_map, List.getElem?_range hk]
    rfl
  · rw [List.getElem?_eq_none (by simp [brow]; omega), List.getElem?_eq_none (by simp; omega)]
/-- While one pattern's values are put in: q of them are. -/
def bq (Q : List Pt) (p : Pt) (w : Nm) (q : Nat) : List Int := (List.range (w.length - 1)).map fun k => if k < q then bst (Q ++ [p]) w k else bst Q w k
theorem bq_zero (Q : List Pt) (p : Pt) (w : Nm) : bq Q p w 0 = brow Q w := by
  unfold bq brow
  exact List.map_congr_left fun k _ => by rw [if_neg (by omega)]
theorem bq_all (Q : List Pt) (p : Pt) (w : Nm) : bq Q p w (w.length - 1) = brow (Q ++ [p]) w := by
  unfold bq brow
  exact List.map_congr_left fun k hk => by rw [if_pos (List.mem_range.1 hk)]
theorem bq_len (Q : List Pt) (p : Pt) (w : Nm) (q : Nat) : (bq Q p w q).length = w.length - 1 := by simp [bq]
theorem brow_len (Q : List Pt) (w : Nm) : (brow Q w).length = w.length - 1 := by simp [brow]
theorem bq_get {Q : List Pt} {p : Pt} {w : Nm} {q k : Nat} (hk : k < w.length - 1) : (bq Q p w q)[k]? = some (if k < q then bst (Q ++ [p]) w k else bst Q w k) := by
  unfold bq
  rw [List.getElem?_map, List.getElem?_range hk]
  rfl
theorem bq_succ {Q : List Pt} {p : Pt} {w : Nm} {q : Nat} (hq : q < w.length - 1) : (bq Q p w q).set q (max (bst Q w q) ((vals [p] w).getD q 0)) = bq Q p w (q + 1) := by
  apply List.ext_getElem?
  intro k
  by_cases hk : k < w.length - 1
  · rw [bq_get hk, List.getElem?_set]
    by_cases he : q = k
    · subst he
      rw [if_pos rfl, if_pos (by rw [bq_len]; exact hq), if_pos (by omega), bst_snoc]
    · rw [if_neg he, bq_get hk]
      by_cases h1 : k < q
      · rw [if_pos h1, if_pos (by omega)]
      · rw [if_neg h1, if_neg (by omega)]
  · rw [List.getElem?_eq_none (by rw [List.length_set, bq_len]; omega), List.getElem?_eq_none (by rw [bq_len]; omega)]
/-- One more text, told. -/
theorem tell_no {P : List Pt} {t : Nm} (h : rd t = none) : tell P t = P := by
  unfold tell
  rw [h]
theorem tell_again {P : List Pt} {t : Nm} {p : Pt} (h : rd t = some p) (hm : p.1 ∈ P.map (·.1)) : tell P t = P := by
  unfold tell
  rw [h]
  have : luk P p.1 ≠ none := by
    intro hn
    obtain ⟨q, hq, e⟩ := List.mem_map.1 hm
    exact (luk_none.1 hn) q hq e
  cases hl : luk P p.1 with
  | none => exact absurd hl this
  | some l => simp [hl]
theorem tell_much {P : List Pt} {t : Nm} {p : Pt} (h : rd t = some p) (h5 : 5000 ≤ P.length) (hP : P.length ≤ 5000) : tell P t = P := by
  unfold tell
  rw [h]
  have : P.length = 5000 := by omega
  simp only [this, if_true]
  split <;> rfl
theorem tell_yes {P : List Pt} {t : Nm} {p : Pt} (h : rd t = some p) (hm : p.1 ∉ P.map (·.1)) (h5 : P.length < 5000) : tell P t = P ++ [p] := by
  unfold tell
  rw [h]
  have hl : luk P p.1 = none := luk_none.2 fun q hq e => hm (List.mem_map.2 ⟨q, hq, e⟩)
  simp only [hl, Option.isSome_none, Bool.false_eq_true, if_false]
  rw [if_neg (by omega)]
theorem told_one {t : Nm} {p : Pt} (h : rd t = some p) : told [t] = [p] := by
  unfold told
  simp only [List.foldl_cons, List.foldl_nil]
  exact tell_yes h (by simp) (by simp)
end Go.Proofs.Ytmcekdjhkjhcdaa.Hp

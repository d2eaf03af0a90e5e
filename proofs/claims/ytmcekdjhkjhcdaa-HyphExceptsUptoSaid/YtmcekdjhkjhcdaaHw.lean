import Derived.Test.YtmcekdjhkjhcdaaHu
/- The plain law of HyphEdges: a piece's values are no more than the whole's, where no pattern has a point. Conditions: those that each theorem names. -/
namespace Go.Proofs.Ytmcekdjhkjhcdaa.Hp
set_option linter.unusedVariables false

theorem edg_get (l : Nm) {j : Nat} {c : UInt8} (h : (edg l)[j]? = some c) (hc : c ≠ 46) : 1 ≤ j ∧ j ≤ l.length ∧ l[j - 1]? = some c := by
  unfold edg at h
  match j, h with
  | 0, h =>
    simp at h
    exact absurd h.symm hc
  | j + 1, h =>
    rw [List.getElem?_cons_succ] at h
    rcases Nat.lt_or_ge j l.length with hj | hj
    · rw [List.getElem?_append_left hj] at h
      exact ⟨by omega, by omega, by simpa using h⟩
    · rw [List.getElem?_append_right hj] at h
      have : j - l.length = 0 := by
        rcases Nat.eq_zero_or_pos (j - l.length) with h0 | h0
        · exact h0
        · rw [List.getElem?_eq_none (by simp; omega)] at h; cases h
      rw [this] at h
      simp at h
      exact absurd h.symm hc
theorem edg_of (l : Nm) {j : Nat} {c : UInt8} (h1 : 1 ≤ j) (h : l[j - 1]? = some c) : (edg l)[j]? = some c := by
  have hj := (List.getElem?_eq_some_iff.1 h).1
  match j, h1 with
  | j + 1, _ =>
    unfold edg
    rw [List.getElem?_cons_succ, List.getElem?_append_left (by simpa using hj)]
    simpa using h
theorem piece {P : List Pt} (h : Pats P) (hd : ∀ p ∈ P, ∀ c ∈ p.1, c ≠ 46) (w : Nm) {a b k : Nat} (hab : b ≤ w.length) (hk : k < (((w.take b).drop a)).length - 1) :
    (vals P ((w.take b).drop a)).getD k 0 ≤ (vals P w).getD (a + k) 0 := by
  obtain ⟨s, hs⟩ : ∃ s, s = (w.take b).drop a := ⟨_, rfl⟩
  rw [← hs] at hk ⊢
  have hsl : s.length = b - a := by rw [hs, List.length_drop, List.length_take]; omega
  have hsg : ∀ j c, s[j]? = some c → w[a + j]? = some c := by
    intro j c hj
    rw [hs, List.getElem?_drop, List.getElem?_take] at hj
    split at hj
    · exact hj
    · cases hj
  rw [vals_getD P s hk, vals_getD P w (by omega), mx_le]
  refine ⟨mx_nonneg _ _, fun y hy => ?_⟩
  have e : s.length + 2 = (edg s).length := (edg_len s).symm
  have e' : w.length + 2 = (edg w).length := (edg_len w).symm
  rw [e, mem_ya h] at hy
  obtain ⟨q, hq, hy1, hy2⟩ := hy
  have hq1 := (h.is _ hq).2.1
  simp only at hq1
  have hql := congrArg List.length hy2
  rw [List.length_take, List.length_drop] at hql
  have hchar : ∀ m, m < q.length → ∃ c, q[m]? = some c ∧ 1 ≤ y.1 + m ∧ y.1 + m ≤ s.length ∧ s[y.1 + m - 1]? = some c := by
    intro m hm
    refine ⟨q[m], List.getElem?_eq_getElem hm, ?_⟩
    have h1 : (edg s)[y.1 + m]? = some q[m] := by
      have h2 : (((edg s).drop y.1).take q.length)[m]? = q[m]? := congrArg (fun z : List UInt8 => z[m]?) hy2
      rwa [List.getElem?_take, if_pos hm, List.getElem?_drop, List.getElem?_eq_getElem hm] at h2
    exact edg_get s h1 (hd _ hq _ (List.getElem_mem hm))
  have hmem : ((a + y.1, y.2) : Yd) ∈ ya P (edg w) (w.length + 2) := by
    rw [e', mem_ya h]
    refine ⟨q, hq, ?_, ?_⟩
    · obtain ⟨_, _, h1, h2, _⟩ := hchar 0 (by omega)
      rw [edg_len]
      simp only
      omega
    · apply List.ext_getElem?
      intro m
      simp only
      rw [List.getElem?_take]
      split
      · rename_i hm
        obtain ⟨c, hc, h1, h2, h3⟩ := hchar m hm
        rw [List.getElem?_drop, hc]
        refine edg_of w (by omega) ?_
        have := hsg _ _ h3
        rwa [show a + y.1 + m - 1 = a + (y.1 + m - 1) by omega]
      · rename_i hm
        rw [List.getElem?_eq_none (by omega)]
  have hcb : cb y (k + 2) = cb (a + y.1, y.2) (a + k + 2) := by
    unfold cb
    by_cases hle : y.1 ≤ k + 2
    · rw [if_pos hle, if_pos (by simp only; omega)]
      simp only
      rw [show a + k + 2 - (a + y.1) = k + 2 - y.1 by omega]
    · rw [if_neg hle, if_neg (by simp only; omega)]
  rw [hcb]
  exact cb_le_mx hmem _
theorem tell_chars {P : List Pt} {t : Nm} (h : ∀ p ∈ P, ∀ c ∈ p.1, c ≠ 46) (ht : ∀ c ∈ t, c ≠ 46) : ∀ p ∈ tell P t, ∀ c ∈ p.1, c ≠ 46 := by
  unfold tell
  split
  · exact h
  · rename_i q hq
    have hi := rd_is hq
    split
    · exact h
    · split
      · exact h
      · intro p hp
        simp only [List.mem_append, List.mem_singleton] at hp
        rcases hp with hp | rfl
        · exact h p hp
        · exact fun c hc => ht c (hi.ok c hc).2
theorem told_chars {l : List Nm} (h : ∀ t ∈ l, ∀ c ∈ t, c ≠ 46) : ∀ p ∈ told l, ∀ c ∈ p.1, c ≠ 46 := by
  have key : ∀ (l : List Nm) (P : List Pt), (∀ t ∈ l, ∀ c ∈ t, c ≠ 46) → (∀ p ∈ P, ∀ c ∈ p.1, c ≠ 46) → ∀ p ∈ l.foldl tell P, ∀ c ∈ p.1, c ≠ 46 := by
    intro l
    induction l with
    | nil => exact fun P _ h => h
    | cons t l ih => exact fun P h1 h2 => ih _ (fun x hx => h1 x (by simp [hx])) (tell_chars h2 (h1 t (by simp)))
  exact key l [] h (by simp)
end Go.Proofs.Ytmcekdjhkjhcdaa.Hp

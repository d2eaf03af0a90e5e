import Derived.Test.YtmcekdjhkjhcdaaGreatDoorNodeIn0
/- 'append' of a slice of nodes, nil let in. Conditions: those that each theorem names. -/
namespace Go.Proofs.YtmcekdjhkjhcdaaGreatDoor.No
open Go.ChangeShapes Go.WideShapes Go.ChangeAt Go.RowKit
open Me Np
set_option linter.unusedVariables false
set_option linter.unusedSimpArgs false

/-- A slice (A: where it begins; its capacity) reads as these nodes; or it is nil. -/
def Src (w : World) (A : Option Addr) (c : Nat) (l : List Nd) : Prop :=
  (∃ b off : Nat, A = some ⟨b, off, none⟩ ∧ (l = [] ∨ b < w.heap.size) ∧ ∀ j u, (l.flatMap ncs)[j]? = some u → w.cell? ⟨b, off + j, none⟩ = some u) ∨ (A = none ∧ c = 0 ∧ l = []) ∨ (∃ ad, A = some ad ∧ l = [])
theorem Src.seg {w : World} {A : Option Addr} {c : Nat} {l : List Nd} (h : Src w A c l) : Seg w w.heap.size A (l.flatMap ncs) := by
  rcases h with ⟨b, off, rfl, hb, hc⟩ | ⟨rfl, rfl, rfl⟩ | ⟨ad, rfl, rfl⟩
  · rcases hb with rfl | hb
    · exact .inl rfl
    · exact .inr ⟨b, off, rfl, hb, hc⟩
  · exact .inl rfl
  · exact .inl rfl
/-- Whatever comes in. -/
theorem src_in {w : World} {A : Option Addr} {c : Nat} {l : List Nd} (h : Seg w w.heap.size A (l.flatMap ncs)) (hA : A = none → c = 0) : Src w A c l := by
  by_cases hl : l = []
  · subst hl
    cases A with
    | none => exact .inr (.inl ⟨rfl, hA rfl, rfl⟩)
    | some ad => exact .inr (.inr ⟨ad, rfl, rfl⟩)
  · rcases h with h | ⟨b, off, rfl, hb, hc⟩
    · have h2 := congrArg List.length h
      rw [flat_length ncs_length] at h2
      exact absurd (List.eq_nil_of_length_eq_zero (by simp at h2; omega)) hl
    · exact .inl ⟨b, off, rfl, .inr hb, hc⟩
theorem Src.below {w w' : World} {A : Option Addr} {c : Nat} {l : List Nd} (h : Src w A c l) (hb : Below w.heap.size w w') : Src w' A c l := by
  rcases h with ⟨b, off, rfl, h1, hc⟩ | h
  · refine .inl ⟨b, off, rfl, ?_, fun j u hu => ?_⟩
    · rcases h1 with h1 | h1
      · exact .inl h1
      · exact .inr (Nat.lt_of_lt_of_le h1 hb.size)
    · rcases h1 with rfl | h1
      · simp at hu
      · rw [hb.cell (p := ⟨b, off + j, none⟩) h1]
        exact hc j u hu
  · exact .inr h
theorem Src.own {w : World} {base : Nat} {n : Nat} {v : Value} {l : List Nd} (h : w.ownsRow base 36 19 v n (l.flatMap ncs)) : ∃ A c, v = .slice A l.length c ∧ l.length ≤ c ∧ c ≤ maxLen ∧ Src w A c l := by
  have hn : n = l.length := by
    have := h.1
    rw [flat_length ncs_length] at this
    omega
  subst hn
  rcases id h.2 with ⟨rfl, h0⟩ | ⟨g, cap, cur, rfl, hb, hg, hnc, hcm, hcs, htake⟩
  · have hl := List.eq_nil_of_length_eq_zero h0
    subst hl
    exact ⟨none, 0, rfl, Nat.le_refl _, by simp [maxLen], .inr (.inl ⟨rfl, rfl, rfl⟩)⟩
  · refine ⟨_, _, rfl, hnc, hcm, .inl ⟨g, 0, rfl, .inr (Array.getElem?_eq_some_iff.1 hg).1, fun j u hu => ?_⟩⟩
    have := h.cells (g := g) rfl j u hu
    have hadd : (⟨g, 0, none⟩ : Addr).add j = ⟨g, 0 + j, none⟩ := by unfold Addr.add; split <;> simp_all
    rwa [hadd] at this
theorem run_append_nodes {w : World} (ty : TypeId) (base : Nat) (hbase : base ≤ w.heap.size) (v : Value) (n : Nat) (xs : List Value) (hown : w.ownsRow base 36 19 v n xs) (A : Option Addr) (c : Nat) (l : List Nd) (hs : Src w A c l) (hn : n + l.length ≤ 100000) :
    ∃ v' w', (Builtin.append_ #[22, 22] ty #[v, .slice A l.length c]).run Tryz.prog w = .ok v' w' ∧ w'.ownsRow base 36 19 v' (n + l.length) (xs ++ l.flatMap ncs) ∧ w.grownBy w' v.ownBlock := by
  obtain ⟨i, hi, hz, hsi, hbi⟩ := info_parts node_row
  rcases hs with ⟨b, off, rfl, hb, hc⟩ | ⟨rfl, rfl, rfl⟩ | ⟨ad, rfl, rfl⟩
  · obtain ⟨v', w', hr, h2, h3, _⟩ := run_append_own (P := Tryz.prog) w base 22 ty 36 i _ 19 160 Tryz.underlying22 hi hz hsi hbi rfl (by decide) v n xs hown ⟨b, off, none⟩ l.length c (l.flatMap ncs) (flat_length ncs_length l) (fun j u hu => by
      have hadd : (⟨b, off, none⟩ : Addr).add j = ⟨b, off + j, none⟩ := by unfold Addr.add; split <;> simp_all
      rw [hadd]
      exact hc j u hu) (ncs_one l) (by simp only [maxLen]; omega) (by omega) hbase
    exact ⟨v', w', hr, h2, h3⟩
  · refine ⟨v, w, run_append_owned_none w base 22 ty 36 i 19 Tryz.underlying22 hi v n xs hown, by simpa using hown, ?_⟩
    exact ⟨rfl, rfl, rfl, Nat.le_refl _, fun k _ _ => rfl⟩
  · obtain ⟨v', w', hr, h2, h3, _⟩ := run_append_own (P := Tryz.prog) w base 22 ty 36 i _ 19 160 Tryz.underlying22 hi hz hsi hbi rfl (by decide) v n xs hown ad 0 c [] rfl (fun j u hu => by simp at hu) (by simp) (by simp only [maxLen]; omega) (by omega) hbase
    exact ⟨v', w', by simpa using hr, by simpa using h2, h3⟩
theorem wpList_append_nodes {ops : Array Oper} {rest : List Oper} {o : Oper} {a : Act} {w : World} {Q : Exit → Act → World → Prop} (hgd : o.guard = none) (s x : Operand) (ho : o.op = .call { callee := .builtin .append, args := #[s, x], argTypes := #[22, 22] })
    (base : Nat) (hbase : base ≤ w.heap.size) (v : Value) (n : Nat) (xs : List Value) (hs : a.eval s = v) (hown : w.ownsRow base 36 19 v n xs) (A : Option Addr) (c : Nat) (l : List Nd) (hx : a.eval x = .slice A l.length c) (hsrc : Src w A c l) (hn : n + l.length ≤ 100000)
    (h : ∀ v' w', w'.ownsRow base 36 19 v' (n + l.length) (xs ++ l.flatMap ncs) → w.grownBy w' v.ownBlock → wpList Tryz.prog ops Q rest (a.put o.dst v') w') : wpList Tryz.prog ops Q (o :: rest) a w :=
  wpList_plain hgd fun K hK => by
    obtain ⟨v', w', hr, h2, h3⟩ := run_append_nodes o.type base hbase v n xs hown A c l hsrc hn
    unfold Oper.wp execOp
    simp only [ho, resolve, invoke, builtin, Sem.run_bind, Sem.run_pure, Result.andThen_ok, List.map_toArray, List.map_cons, List.map_nil, hs, hx, hr]
    exact hK _ _ (h v' w' h2 h3)
theorem step_append_nodes {ops : Array Oper} {o : Oper} {a : Act} {w : World} {K : Act → World → Prop} {Q : Exit → Act → World → Prop} {E : Prop} (hgd : o.guard = none) (s x : Operand) (ho : o.op = .call { callee := .builtin .append, args := #[s, x], argTypes := #[22, 22] })
    (base : Nat) (hbase : base ≤ w.heap.size) (v : Value) (n : Nat) (xs : List Value) (hs : a.eval s = v) (hown : w.ownsRow base 36 19 v n xs) (A : Option Addr) (c : Nat) (l : List Nd) (hx : a.eval x = .slice A l.length c) (hsrc : Src w A c l) (hn : n + l.length ≤ 100000)
    (h : ∀ v' w', w'.ownsRow base 36 19 v' (n + l.length) (xs ++ l.flatMap ncs) → w.grownBy w' v.ownBlock → K (a.put o.dst v') w') :
    if Region.wanted o (yielded ops a.tmps) = true then Oper.wp Tryz.prog o a w K Q else E := by
  have hw : Region.wanted o (yielded ops a.tmps) = true := by simp [Region.wanted, hgd]
  rw [if_pos hw]
  obtain ⟨v', w', hr, h2, h3⟩ := run_append_nodes o.type base hbase v n xs hown A c l hsrc hn
  unfold Oper.wp execOp
  simp only [ho, resolve, invoke, builtin, Sem.run_bind, Sem.run_pure, Result.andThen_ok, List.map_toArray, List.map_cons, List.map_nil, hs, hx, hr]
  exact h v' w' h2 h3
end Go.Proofs.YtmcekdjhkjhcdaaGreatDoor.No

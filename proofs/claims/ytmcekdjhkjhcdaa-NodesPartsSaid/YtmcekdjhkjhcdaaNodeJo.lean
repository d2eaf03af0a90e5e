import Derived.Test.YtmcekdjhkjhcdaaNodeTe
import Derived.BigQuiet
/- NodesJoined's walk. Conditions: those that each theorem names. -/
namespace Go.Proofs.Ytmcekdjhkjhcdaa.No
open Go.ChangeShapes Go.WideShapes Go.ChangeAt Go.RowKit
open Me Np
set_option linter.unusedVariables false
set_option linter.unusedSimpArgs false

theorem run_append_seg {w : World} (ty : TypeId) (base : Nat) (hbase : base ≤ w.heap.size) (v : Value) (n : Nat) (xs : List Value) (hown : w.ownsRow base 31 19 v n xs) (B : Nat) (A : Option Addr) (c : Nat) (l : List Nd) (hs : Seg w B A (l.flatMap ncs)) (hA : A = none → c = 0) (hn : n + l.length ≤ 100000) :
    ∃ v' w', (Builtin.append_ #[22, 22] ty #[v, .slice A l.length c]).run Try.prog w = .ok v' w' ∧ w'.ownsRow base 31 19 v' (n + l.length) (xs ++ l.flatMap ncs) ∧ w.grownBy w' v.ownBlock := by
  obtain ⟨i, hi, hz, hsi, hbi⟩ := info_parts node_row
  have hl0 : l.flatMap ncs = [] → l = [] := fun h => by
    have := flat_length ncs_length l
    rw [h] at this
    simp only [List.length_nil] at this
    exact List.eq_nil_of_length_eq_zero (by omega)
  cases A with
  | none =>
    obtain rfl := hA rfl
    have hl : l = [] := by
      rcases hs with h | ⟨b, off, e, _⟩
      · exact hl0 h
      · cases e
    subst hl
    exact ⟨v, w, run_append_owned_none w base 22 ty 31 i 19 Try.underlying22 hi v n xs hown, by simpa using hown, rfl, rfl, rfl, Nat.le_refl _, fun k _ _ => rfl⟩
  | some ad =>
    have hc : ∀ j u, (l.flatMap ncs)[j]? = some u → w.cell? (ad.add j) = some u := by
      rcases hs with h | ⟨b, off, e, _, h⟩
      · intro j u hu
        rw [h] at hu
        simp at hu
      · injection e with e
        subst e
        intro j u hu
        have hadd : (⟨b, off, none⟩ : Addr).add j = ⟨b, off + j, none⟩ := by unfold Addr.add; split <;> simp_all
        rw [hadd]
        exact h j u hu
    obtain ⟨v', w', hr, h2, h3, _⟩ := run_append_own (P := Try.prog) w base 22 ty 31 i _ 19 160 Try.underlying22 hi hz hsi hbi rfl (by decide) v n xs hown ad l.length c (l.flatMap ncs) (flat_length ncs_length l) hc (ncs_one l) (by simp only [maxLen]; omega) (by omega) hbase
    exact ⟨v', w', hr, h2, h3⟩
theorem wpList_append_seg {ops : Array Oper} {rest : List Oper} {o : Oper} {a : Act} {w : World} {Q : Exit → Act → World → Prop} (hgd : o.guard = none) (s x : Operand) (ho : o.op = .call { callee := .builtin .append, args := #[s, x], argTypes := #[22, 22] })
    (base : Nat) (hbase : base ≤ w.heap.size) (v : Value) (n : Nat) (xs : List Value) (hs : a.eval s = v) (hown : w.ownsRow base 31 19 v n xs) (B : Nat) (A : Option Addr) (c len : Nat) (l : List Nd) (hx : a.eval x = .slice A len c) (hlen : len = l.length) (hseg : Seg w B A (l.flatMap ncs)) (hA : A = none → c = 0) (hn : n + l.length ≤ 100000)
    (h : ∀ v' w', w'.ownsRow base 31 19 v' (n + l.length) (xs ++ l.flatMap ncs) → w.grownBy w' v.ownBlock → wpList Try.prog ops Q rest (a.put o.dst v') w') : wpList Try.prog ops Q (o :: rest) a w :=
  wpList_plain hgd fun K hK => by
    subst hlen
    obtain ⟨v', w', hr, h2, h3⟩ := run_append_seg o.type base hbase v n xs hown B A c l hseg hA hn
    unfold Oper.wp execOp
    simp only [ho, resolve, invoke, builtin, Sem.run_bind, Sem.run_pure, Result.andThen_ok, List.map_toArray, List.map_cons, List.map_nil, hs, hx, hr]
    exact hK _ _ (h v' w' h2 h3)

end Go.Proofs.Ytmcekdjhkjhcdaa.No

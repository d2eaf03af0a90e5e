import Derived.Test.YtmcekdjhkjhcdaaHf
import Derived.OrdersHeld
import Derived.Deep.RegionHeld
import Derived.OrdersIn
/- A region that draws its order, in a round of a range over a function: walked as outside. Conditions: those that each theorem names. -/
namespace Go.Proofs.Ytmcekdjhkjhcdaa.Hy
open Go.RowKit
set_option linter.unusedVariables false

/-- A post that a region's end alone meets. -/
def only (K : Act → World → Prop) : Exit → Act → World → Prop
  | .normal, a, w => K a w
  | _, _, _ => False
section
variable {P : Program} {ops : Array Oper} {K0 : Act → World → Prop} {md : Region.Mode} {n l : Nat}
theorem wpIn_of_wp (o : Oper) (hd : ∀ c, o.op ≠ .defer c) {a : Act} {w : World} {K : Act → World → Prop} (h : o.wp P a w K (only K0)) : o.wpIn (Fence.wide.inRound l) n P a w K (only K0) := by
  refine ⟨fun _ _ => trivial, ?_⟩
  have e : Oper.semAt (Fence.wide.inRound l).round a.eval o = execOp a.eval o := Oper.semAt_some l a.eval o hd
  rw [e]
  unfold Oper.wp at h
  generalize (execOp a.eval o).run P w = r at h ⊢
  cases r with
  | ok x w' =>
    cases x with
    | value v => exact h
    | skip => exact h
    | defer d => exact h
    | enter f args =>
      refine ⟨fun hh => absurd (show (none : Option Nat).isSome = true from hh) (by simp), ?_⟩
      exact CallsIn.inRound l (callsIn_wide.2 h)
    | row row args =>
      refine ⟨fun hh => absurd (show (none : Option Nat).isSome = true from hh) (by simp), ?_⟩
      intro c cs _
      obtain ⟨v, w'', hr, hs⟩ := h c cs
      exact ⟨v, w'', hr, stepsIn_wide.2 hs⟩
    | _ => exact h.elim
  | halt x w' =>
    cases x <;> exact h
theorem wpAnyIn_of_wpAny (hd : ∀ (i : Nat) (o : Oper), ops[i]? = some o → ∀ c, o.op ≠ .defer c) : ∀ (fuel : Nat) (listed : Array Bool) (a : Act) (w : World), wpAny P md ops (only K0) fuel listed a w → wpAnyIn (Fence.wide.inRound l) n P md ops (only K0) fuel listed a w
  | 0, listed, a, w, h => h
  | fuel + 1, listed, a, w, h => by
    refine ⟨h.1, fun i hi => ?_⟩
    have h2 := h.2 i hi
    unfold wpOp at h2
    unfold wpOpIn
    split
    · rename_i ho
      rw [ho] at h2
      exact wpAnyIn_of_wpAny hd fuel _ _ _ h2
    · rename_i o ho
      rw [ho] at h2
      simp only at h2
      split
      · rename_i hw
        rw [if_pos hw] at h2
        rcases h2 with h2 | ⟨_, a0, w0, h3⟩
        · exact Oper.wpIn_mono (fun a w => wpAnyIn_of_wpAny hd fuel _ a w) (wpIn_of_wp o (hd i o ho) h2)
        · exact h3.elim
      · rename_i hw
        rw [if_neg hw] at h2
        exact ⟨fun _ _ => trivial, wpAnyIn_of_wpAny hd fuel _ _ _ h2⟩
theorem wpIn_region_round {id : Nat} {a : Act} {w : World} {S : World → Prop} {Q : Exit → Act → World → Prop} (hm : P.follows .mixedOrders = true) (hd : ops.all (fun o => match o.op with | .defer _ => false | _ => true) = true)
    (hK : ∀ a w, K0 a w → Q .normal a w) (h : wpAnyH P .any ops (only K0) S ops.size (Array.replicate ops.size false) a w.drew) : (Code.region id ops true).wpIn (Fence.wide.inRound l) n P Q a w := by
  have hd' : ∀ (i : Nat) (o : Oper), ops[i]? = some o → ∀ c, o.op ≠ .defer c := by
    intro i o ho c e
    rw [Array.all_eq_true] at hd
    obtain ⟨hi, rfl⟩ := Array.getElem?_eq_some_iff.1 ho
    have := hd i hi
    rw [e] at this
    cases this
  refine Go.wpIn_mono (wpIn_region_any hm (wpAnyIn_of_wpAny hd' _ _ _ _ (wpAny_of_held _ _ _ _ h))) ?_
  intro e a w hq
  cases e with
  | normal => exact hK _ _ hq
  | _ => exact hq.elim
end
theorem yields_load {P : Program} {ops : Array Oper} {S : World → Prop} {o : Oper} {v : Value} {a : Act} (hw : Region.wanted o (yielded ops a.tmps) = true) (t : TypeId) (x : Operand) (ho : o.op = .load t x) (p : Addr) (hx : a.eval x = .pointer (some p))
    (h : ∀ w, S w → (loadVar t p).run P w = .ok v w) : YieldsIf P ops S o v a := by
  refine .inl ⟨hw, fun w hS => ?_⟩
  unfold execOp
  simp only [ho, hx, Instr.loadAt, Instr.sureAddr, Sem.run_bind, Sem.run_pure, Result.andThen_ok, h w hS]
theorem take_lit {P : Program} {md : Region.Mode} {ops : Array Oper} {Q : Exit → Act → World → Prop} {S : World → Prop} {i : Nat} {v : Value} {fuel : Nat} {listed : Array Bool} {a : Act} {w : World} (hi : (ops[i]?).isSome = true)
    (hs : Region.noSelect ops = true) (hf : Region.free md ops listed i = true) (hr : (Region.ready md ops listed).contains i = true) (hQ : ∀ (d : Tmp) c a w, Q (.panic c) (a.put (some d) v) w → Q (.panic c) a w) (hS : S w)
    (h : ∀ oi, ops[i]? = some oi → YieldsIf P ops S oi v a ∧ wpAnyH P md ops Q S fuel (listed.setIfInBounds i true) (a.put oi.dst v) w) : wpAnyH P md ops Q S (fuel + 1) listed a w := by
  obtain ⟨oi, ho⟩ := Option.isSome_iff_exists.1 hi
  obtain ⟨h1, h2⟩ := h oi ho
  refine wpAnyH_take ho hs hf hr (fun c a w => ?_) h1 hS h2
  cases oi.dst with
  | none => exact fun h => h
  | some d => exact hQ d c a w
theorem run_loadVar_one {P : Program} {w : World} {t : TypeId} {p : Addr} {v : Value} (ht : (isAgg t).run P w = .ok false w) (hc : w.cell? p = some v) : (loadVar t p).run P w = .ok v w := by
  simp [loadVar, Sem.run_bind, ht, run_load, hc]
end Go.Proofs.Ytmcekdjhkjhcdaa.Hy

import Derived.Test.YtmcekdjhkjhcdaaGreatDoorNv
/- The document's check of nodes is the program's, in plain Lean. No Go in sight. Conditions: those that each theorem names. -/
namespace Go.Proofs.YtmcekdjhkjhcdaaGreatDoor.Np

def three3 (n : Nd) : Bool := dimB n.wd && (dimB n.ht && dimB n.dp)
def bareR (n : Nd) : Nd := { n with wd := 0, ht := 0, dp := 0 }
def boxR (n : Nd) : Bool :=
  if (three3 n && dimB n.shift) = true then
    if n.sign = 0 then eqB (bareR n) { nz n.kind with shift := n.shift }
    else if (winB n.sign 1 2 && winB n.order 0 3 && winB n.num 1 1152921504606846976 && winB n.den 1 1152921504606846976 && !(n.sign == 2 && n.order == 0 && decide (n.den < n.num))) = true then
      eqB (bareR n) { nz n.kind with shift := n.shift, sign := n.sign, order := n.order, num := n.num, den := n.den }
    else false
  else false
def ruleR (n : Nd) : Bool :=
  if (three3 n && winB n.sub 0 3 && (n.sub == 0 || n.sub == 2 || n.wd == 0) && (n.sub == 0 || n.sub == 1 || (n.ht == 0 && n.dp == 0))) = true then eqB (bareR n) { nz 3 with sub := n.sub } else false
def glyphR (n : Nd) : Bool :=
  if (three3 n && winB n.font 0 63 && (if n.kind = 1 then n.text.size == 0 else winB n.text.size 1 63)) = true then eqB (bareR n) { nz n.kind with font := n.font, char := n.char, text := n.text } else false
/-- The document's Good. -/
def goodR (n : Nd) : Bool :=
  if n.kind = 1 ∨ n.kind = 2 then glyphR n
  else if n.kind = 3 then ruleR n
  else if n.kind = 4 ∨ n.kind = 5 then boxR n
  else if n.kind = 7 then glB n && (winB n.sub 0 20 && eqB n { nz n.kind with gn := n.gn, gs := n.gs, gh := n.gh, ga := n.ga, gb := n.gb, sub := n.sub })
  else if n.kind = 8 then dimB n.wd && (winB n.sub 0 2 && eqB n { nz n.kind with wd := n.wd, sub := n.sub })
  else if n.kind = 9 then winB n.pen (-2147483647) 2147483647 && eqB n { nz n.kind with pen := n.pen }
  else if n.kind = 12 ∨ n.kind = 14 then decide ((n.text.size : Int) ≤ 1000) && eqB n { nz n.kind with text := n.text }
  else if n.kind = 13 then dimB n.ht && (dimB n.dp && (winB n.sub 0 254 && (winB n.pen (-2147483647) 2147483647 && (glB n && eqB n { nz n.kind with sub := n.sub, ht := n.ht, dp := n.dp, pen := n.pen, gn := n.gn, gs := n.gs, gh := n.gh, ga := n.ga, gb := n.gb }))))
  else if n.kind = 15 ∨ n.kind = 16 then dimB n.wd && eqB n { nz n.kind with wd := n.wd }
  else if n.kind = 6 ∨ n.kind = 10 ∨ n.kind = 11 ∨ n.kind = 17 then eqB n (nz n.kind)
  else false
theorem text_none {t : ByteArray} : t = ⟨#[]⟩ ↔ t.size = 0 := by
  constructor
  · rintro rfl; rfl
  · intro h
    obtain ⟨d⟩ := t
    have : d.size = 0 := h
    rw [Array.size_eq_zero_iff.1 this]
theorem kind_win {n : Nd} : winB n.kind 1 17 = true ↔ (n.kind = 1 ∨ n.kind = 2 ∨ n.kind = 3 ∨ n.kind = 4 ∨ n.kind = 5 ∨ n.kind = 6 ∨ n.kind = 7 ∨ n.kind = 8 ∨ n.kind = 9 ∨ n.kind = 10 ∨ n.kind = 11 ∨ n.kind = 12 ∨ n.kind = 13 ∨ n.kind = 14 ∨ n.kind = 15 ∨ n.kind = 16 ∨ n.kind = 17) := by
  simp only [winB, decide_eq_true_eq]
  omega
theorem goodR_right (n : Nd) : goodR n = right n := by
  rw [Bool.eq_iff_iff]
  by_cases hk : winB n.kind 1 17 = true
  · have hk' := kind_win.1 hk
    obtain ⟨kind, font, char, wd, ht, dp, shift, gn, gs, gh, ga, gb, sign, order, num, den, pen, sub, text⟩ := n
    simp only at hk'
    rcases hk' with rfl | rfl | rfl | rfl | rfl | rfl | rfl | rfl | rfl | rfl | rfl | rfl | rfl | rfl | rfl | rfl | rfl <;>
      simp only [goodR, right, hk, goodK, restK, Int.reduceToNat, Bool.true_and, Bool.and_eq_true, eqB_iff, nz, bareR, glyphR, boxR, ruleR, gGlyph, gBox, gRule, gIns, rChar, rText, rWide, rBox, three3, glB, Nd.mk.injEq] <;>
      simp [text_none, eqB_iff] <;> first | done | (constructor <;> intro h <;> simp_all; done) | (intros; constructor <;> intro h <;> simp_all; done) | (clear hk; by_cases hs : sign = 0 <;> simp only [hs, if_true, if_false, true_and, false_and] <;> constructor <;> intro h <;> simp_all; done) | skip
  · have : right n = false := by simp [right, hk]
    rw [this]
    simp only [winB, decide_eq_true_eq] at hk
    simp only [Bool.false_eq_true, iff_false]
    unfold goodR
    simp only [show ¬ n.kind = 1 by omega, show ¬ n.kind = 2 by omega, show ¬ n.kind = 3 by omega, show ¬ n.kind = 4 by omega, show ¬ n.kind = 5 by omega, show ¬ n.kind = 6 by omega, show ¬ n.kind = 7 by omega, show ¬ n.kind = 8 by omega, show ¬ n.kind = 9 by omega, show ¬ n.kind = 10 by omega, show ¬ n.kind = 11 by omega, show ¬ n.kind = 12 by omega, show ¬ n.kind = 13 by omega, show ¬ n.kind = 14 by omega, show ¬ n.kind = 15 by omega, show ¬ n.kind = 16 by omega, show ¬ n.kind = 17 by omega, if_false, or_false]
    simp
end Go.Proofs.YtmcekdjhkjhcdaaGreatDoor.Np

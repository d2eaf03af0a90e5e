import Derived.Test.YtoboecenlangmaaPka
import Derived.Test.YtoboecenlangmaaNodeE
import Derived.Test.YtoboecenlangmaaScBp
import Derived.Lib.MinMax
import Derived.Handy
/- The maker of boxes in memory; the contracts of badness, loose, tight. Conditions: those that each theorem names. -/
namespace Go.Proofs.Ytoboecenlangmaa.Pk
open Go.ChangeShapes Go.WideShapes Go.ChangeAt Go.RowKit
open Me Np No
set_option linter.unusedVariables false
set_option linter.unusedSimpArgs false

/-- A maker's cells: a node; totals; is it empty? how bad, by how much too full, what went wrong. -/
def mkc (n : Nd) (x a b c d p q r s : Int) (em : Bool) (bad ov wr : Int) : Array Value := #[.int .i64 n.kind, .int .i64 n.font, .int .u8 n.char, .int .i64 n.wd, .int .i64 n.ht, .int .i64 n.dp, .int .i64 n.shift, .int .i64 n.gn, .int .i64 n.gs, .int .i64 n.gh, .int .i64 n.ga, .int .i64 n.gb, .int .i64 n.sign, .int .i64 n.order, .int .i64 n.num, .int .i64 n.den, .int .i64 n.pen, .int .i64 n.sub, .string n.text,
  .int .i64 x, .int .i64 a, .int .i64 b, .int .i64 c, .int .i64 d, .int .i64 p, .int .i64 q, .int .i64 r, .int .i64 s, .bool em, .int .i64 bad, .int .i64 ov, .int .i64 wr]
theorem held_min {t : Int} (h : 0 ≤ t) : min t 2147483647 = held t := by
  unfold held
  rw [if_neg (by omega)]
  split <;> omega
theorem held_max {a : Int} : min (max 0 a) 2147483647 = held a := by
  unfold held
  split
  · omega
  · split <;> omega
theorem held_held (a : Int) : held (max 0 a) = held a := by
  unfold held
  split
  · omega
  · split
    · split
      · omega
      · split <;> omega
    · split
      · omega
      · split <;> omega
open Sc in
set_option maxRecDepth 100000 in
theorem badness_any (t s : Int) (w : World) (ht : 0 ≤ t) (hs : 0 ≤ s) : Calls Try.prog 118 #[.int .i64 t, .int .i64 s] w fun e w' => e = .returned (.int .i64 (bdV (held t) (held s))) ∧ Below w.heap.size w w' := by
  have HS := Lib.hid (held_min hs)
  by_cases h : 2147483647 < t
  · have hh : held t = 2147483647 := by unfold held; rw [if_neg (by omega), if_pos h]
    rw [hh]
    go_enter Try.func118, Try.ntmps118
    go_wp2_with (first | (go_at_call 122; refine (Ss.bad_any _ _ _).mono ?_; rintro e w' ⟨rfl, hb⟩))
    go_ret
    exact ⟨by rw [HS.out]; rfl, hb⟩
  · have hh : held t = t := by unfold held; rw [if_neg (by omega), if_neg h]
    rw [hh]
    go_enter Try.func118, Try.ntmps118
    go_wp2_with (first | (go_at_call 122; refine (Ss.bad_any _ _ _).mono ?_; rintro e w' ⟨rfl, hb⟩))
    go_ret
    exact ⟨by rw [HS.out]; rfl, hb⟩
theorem grown_blk {w w' : World} {g : Nat} {r : Option Nat} (hb : Below w.heap.size w w') : w.grownBy w' r := ⟨hb.os, hb.tape, hb.output, hb.size, fun k hk _ => hb.block k hk⟩
theorem grown_trans {w a b : World} {r : Option Nat} (h : w.grownBy a r) (k : a.grownBy b r) : w.grownBy b r :=
  ⟨k.os.trans h.os, k.tape.trans h.tape, k.output.trans h.output, Nat.le_trans h.size k.size, fun q hq hne => (k.block q (by have := h.size; omega) hne).trans (h.block q hq hne)⟩
theorem grown_set (w : World) (g j : Nat) (u : Value) : w.grownBy (w.setCell ⟨g, j, none⟩ u) (some g) := ⟨rfl, rfl, rfl, by simp, fun k _ hk => heap_setCell_other w ⟨g, j, none⟩ k u (fun e => hk (by simp [e]))⟩
/-- A maker in memory. -/
def Mk (w : World) (g : Nat) (n : Nd) (x a b c d p q r s : Int) (em : Bool) (bad ov wr : Int) : Prop := Blk w g 97 (mkc n x a b c d p q r s em bad ov wr)
theorem Mk.below {w w' : World} {g : Nat} {n : Nd} {x a b c d p q r s : Int} {em : Bool} {bad ov wr : Int} (h : Mk w g n x a b c d p q r s em bad ov wr) (hb : Below w.heap.size w w') : Mk w' g n x a b c d p q r s em bad ov wr := Blk.below h hb h.lt
theorem Mk.bad {w : World} {g : Nat} {n : Nd} {x a b c d p q r s : Int} {em : Bool} {bad ov wr : Int} (h : Mk w g n x a b c d p q r s em bad ov wr) (z : Int) : Mk (w.setCell ⟨g, 29, none⟩ (.int .i64 z)) g n x a b c d p q r s em z ov wr := Blk.set h 29 (.int .i64 z)
theorem Mk.ov {w : World} {g : Nat} {n : Nd} {x a b c d p q r s : Int} {em : Bool} {bad ov wr : Int} (h : Mk w g n x a b c d p q r s em bad ov wr) (z : Int) : Mk (w.setCell ⟨g, 30, none⟩ (.int .i64 z)) g n x a b c d p q r s em bad z wr := Blk.set h 30 (.int .i64 z)
/-- How bad, where it is stretched. -/
def looseV (n : Nd) (a t bad : Int) : Int := if n.sign = 1 ∧ 0 < n.order then bad else Sc.bdV (held t) (held a)
set_option maxRecDepth 100000 in
set_option maxHeartbeats 1000000 in
theorem loose_any (g : Nat) (n : Nd) (x a b c d p q r s : Int) (em : Bool) (bad ov wr t : Int) (w : World) (hg : Mk w g n x a b c d p q r s em bad ov wr) (ht : 0 ≤ t) :
    Calls Try.prog 75 #[.pointer (some ⟨g, 0, none⟩), .int .i64 t] w fun e w' => e = .returned (.tuple #[]) ∧ Mk w' g n x a b c d p q r s em (looseV n a t bad) ov wr ∧ w.grownBy w' (some g) := by
  have hc12 : w.cell? ⟨g, 12, none⟩ = some (.int .i64 n.sign) := Blk.cell hg 12
  have hc13 : w.cell? ⟨g, 13, none⟩ = some (.int .i64 n.order) := Blk.cell hg 13
  have hc20 : w.cell? ⟨g, 20, none⟩ = some (.int .i64 a) := Blk.cell hg 20
  have HG := Lib.hid hg
  by_cases h1 : n.sign = 1
  · by_cases h2 : 0 < n.order
    · have HE := Lib.hid (show looseV n a t bad = bad from if_pos ⟨h1, h2⟩)
      clear hg
      go_enter Try.func75, Try.ntmps75
      go_wp2_with fail
      go_returns
      exact ⟨rfl, by rw [HE.out]; exact HG.out, grown_blk (g := g) (Below.refl _ _)⟩
    · have HE := Lib.hid (show looseV n a t bad = Sc.bdV (held t) (held a) from if_neg (fun hh => h2 hh.2))
      clear hg
      go_enter Try.func75, Try.ntmps75
      go_wp2_with (first | (go_at_call 118; refine (badness_any _ _ _ ht (by omega)).mono ?_; rintro e w2 ⟨rfl, hb2⟩; have HB2 := Lib.hid hb2; have hm2 := HG.out.below hb2; have hf2 := Blk.free hm2 29; have hd2 : w2.cell? ⟨g, 29, none⟩ = some (.int .i64 bad) := Blk.cell hm2 29; have HM2 := Lib.hid hm2; clear hm2 hb2))
      go_end0
      exact ⟨rfl, by rw [HE.out, ← held_held a]; exact HM2.out.bad _, grown_trans (grown_blk (g := g) HB2.out) (grown_set _ _ _ _)⟩
  · have HE := Lib.hid (show looseV n a t bad = Sc.bdV (held t) (held a) from if_neg (fun hh => h1 hh.1))
    clear hg
    go_enter Try.func75, Try.ntmps75
    go_wp2_with (first | (go_at_call 118; refine (badness_any _ _ _ ht (by omega)).mono ?_; rintro e w2 ⟨rfl, hb2⟩; have HB2 := Lib.hid hb2; have hm2 := HG.out.below hb2; have hf2 := Blk.free hm2 29; have hd2 : w2.cell? ⟨g, 29, none⟩ = some (.int .i64 bad) := Blk.cell hm2 29; have HM2 := Lib.hid hm2; clear hm2 hb2))
    go_end0
    exact ⟨rfl, by rw [HE.out, ← held_held a]; exact HM2.out.bad _, grown_trans (grown_blk (g := g) HB2.out) (grown_set _ _ _ _)⟩
/-- How bad, and by how much too full, where it is shrunk. -/
def tightV (n : Nd) (p t : Int) (z : Int × Int) : Int × Int := if n.sign = 2 ∧ 0 < n.order then z else if max 0 p < t then (1000000, t - max 0 p) else (Sc.bdV (held t) (held p), z.2)
set_option maxRecDepth 100000 in
set_option maxHeartbeats 1000000 in
theorem tight_any (g : Nat) (n : Nd) (x a b c d p q r s : Int) (em : Bool) (bad ov wr t : Int) (w : World) (hg : Mk w g n x a b c d p q r s em bad ov wr) (ht : 0 ≤ t) (ht2 : t ≤ 9223372036854775807) :
    Calls Try.prog 76 #[.pointer (some ⟨g, 0, none⟩), .int .i64 t] w fun e w' => e = .returned (.tuple #[]) ∧ Mk w' g n x a b c d p q r s em (tightV n p t (bad, ov)).1 (tightV n p t (bad, ov)).2 wr ∧ w.grownBy w' (some g) := by
  have hc12 : w.cell? ⟨g, 12, none⟩ = some (.int .i64 n.sign) := Blk.cell hg 12
  have hc13 : w.cell? ⟨g, 13, none⟩ = some (.int .i64 n.order) := Blk.cell hg 13
  have hc24 : w.cell? ⟨g, 24, none⟩ = some (.int .i64 p) := Blk.cell hg 24
  have hc29 : w.cell? ⟨g, 29, none⟩ = some (.int .i64 bad) := Blk.cell hg 29
  have hc30 : w.cell? ⟨g, 30, none⟩ = some (.int .i64 ov) := Blk.cell hg 30
  have hf29 := Blk.free hg 29
  have hf30 := Blk.free hg 30
  have HG := Lib.hid hg
  have HP := Lib.hid (held_held p)
  by_cases hso : n.sign = 2 ∧ 0 < n.order
  · obtain ⟨h1, h2⟩ := hso
    have HE := Lib.hid (show tightV n p t (bad, ov) = (bad, ov) from if_pos ⟨h1, h2⟩)
    clear hg
    go_enter Try.func76, Try.ntmps76
    go_wp2_with fail
    go_returns
    exact ⟨rfl, by rw [HE.out]; exact HG.out, grown_blk (g := g) (Below.refl _ _)⟩
  · have hb1 : ((n.sign == 2) && decide (0 < n.order)) = false := by
      cases e : (n.sign == 2) && decide (0 < n.order)
      · rfl
      · simp only [Bool.and_eq_true, beq_iff_eq, decide_eq_true_eq] at e
        exact absurd e hso
    have HSO := Lib.hid hso
    have h12 : ¬ n.sign = 2 ∨ (n.sign = 2 ∧ n.order ≤ 0) := by
      by_cases h1 : n.sign = 2
      · exact .inr ⟨h1, by have : ¬ 0 < n.order := fun h => hso ⟨h1, h⟩; omega⟩
      · exact .inl h1
    clear hso hb1
    by_cases hlt : max 0 p < t
    · have HE := Lib.hid (show tightV n p t (bad, ov) = (1000000, t - max 0 p) by unfold tightV; rw [if_neg HSO.out, if_pos hlt])
      have hmx : 0 ≤ max 0 p := by omega
      clear hg
      rcases h12 with h1 | ⟨h1, h2⟩
      all_goals
        go_enter Try.func76, Try.ntmps76
        go_wp2_with fail
        go_returns
        exact ⟨rfl, by rw [HE.out]; exact (HG.out.bad _).ov _, grown_trans (grown_set _ _ _ _) (grown_set _ _ _ _)⟩
    · have HE := Lib.hid (show tightV n p t (bad, ov) = (Sc.bdV (held t) (held p), ov) by unfold tightV; rw [if_neg HSO.out, if_neg hlt])
      have hmx : 0 ≤ max 0 p := by omega
      clear hg
      rcases h12 with h1 | ⟨h1, h2⟩
      all_goals
        go_enter Try.func76, Try.ntmps76
        go_wp2_with (first | (go_at_call 118; refine (badness_any _ _ _ ht hmx).mono ?_; rintro e w2 ⟨rfl, hb2⟩; have HB2 := Lib.hid hb2; have hm2 := HG.out.below hb2; have hf2 := Blk.free hm2 29; have hd2 : w2.cell? ⟨g, 29, none⟩ = some (.int .i64 bad) := Blk.cell hm2 29; have HM2 := Lib.hid hm2; clear hm2 hb2))
        go_end0
        exact ⟨rfl, by rw [HE.out, ← HP.out]; exact HM2.out.bad _, grown_trans (grown_blk (g := g) HB2.out) (grown_set _ _ _ _)⟩
end Go.Proofs.Ytoboecenlangmaa.Pk

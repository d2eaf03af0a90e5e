import Derived.Test.YtoboecenlangmaaGreatNy
import Derived.Test.YtoboecenlangmaaGreatGlueD
import Derived.Test.YtoboecenlangmaaGreatNx
import Derived.WalkKit
import Derived.Lib.ItoaNum
import Derived.Test.YtoboecenlangmaaGreatRows
import Derived.Test.YtoboecenlangmaaGreatProg
import Derived.Test.YtoboecenlangmaaGreatBlk
import Derived.ProofKit
import Derived.WalkSpells
import Derived.WalkLawsBesides
import Derived.Handy
import Derived.Outline
import Derived.Lib.Hide
import Derived.BigQuiet
import Derived.RegionTactic
import Derived.Deep.QuietTactic
import Derived.Test.YtoboecenlangmaaGreatNodeE
import Derived.Lib.MinMax
import Derived.Test.YtoboecenlangmaaGreatShelf
import Derived.OpenShut
import Derived.Deep.DeepCutAuto
import Derived.Test.YtoboecenlangmaaGreatMem
import Derived.BigRegion
import Derived.ChangeAlike
import Derived.Test.YtoboecenlangmaaGreatNodeRt
import Derived.Test.YtoboecenlangmaaGreatNodeTe
import Derived.Test.YtoboecenlangmaaGreatNodeTb
import Derived.Test.YtoboecenlangmaaGreatNodeTh
import Derived.Test.YtoboecenlangmaaGreatNodeG
import Derived.Test.YtoboecenlangmaaGreatNodeKb
import Derived.Deep.RegionWith
import Derived.Deep.MidRow
import Derived.Test.YtoboecenlangmaaGreatNodeJ
import Derived.StillTailTactics
import Derived.IntWalk
/- Merged texts. Conditions: those that each theorem names. -/
section
namespace Go.Proofs.YtoboecenlangmaaGreat.Np
set_option linter.unusedVariables false

/-- A node's height and depth in a row; no Disc. -/
def rowP (n : Nd) : Int × Int :=
  if n.kind = 1 ∨ n.kind = 2 ∨ n.kind = 3 then (n.ht, n.dp)
  else if n.kind = 4 ∨ n.kind = 5 then (n.ht - n.shift, n.dp + n.shift)
  else (0, 0)
def rstep (s v : Int × Int) : Int × Int := (max s.1 v.1, max s.2 v.2)
def rfold (ra : Nat → Int × Int) : List Nat → Int × Int → Int × Int
  | [], s => s
  | x :: xs, s => rfold ra xs (rstep s (ra x))
/-- No greater than this, and no less than 0. -/
def RB (s : Int × Int) : Prop := 0 ≤ s.1 ∧ s.1 ≤ 2147483646 ∧ 0 ≤ s.2 ∧ s.2 ≤ 2147483646
def RV (v : Int × Int) : Prop := -2147483646 ≤ v.1 ∧ v.1 ≤ 2147483646 ∧ -2147483646 ≤ v.2 ∧ v.2 ≤ 2147483646
theorem RB.step {s v : Int × Int} (h : RB s) (g : RV v) : RB (rstep s v) := by
  unfold RB RV at *
  unfold rstep
  simp only
  omega
theorem RB.rv {s : Int × Int} (h : RB s) : RV s := by unfold RB RV at *; omega
theorem rfold_rb {ra : Nat → Int × Int} : ∀ {xs : List Nat} {s : Int × Int}, RB s → (∀ x ∈ xs, RV (ra x)) → RB (rfold ra xs s)
  | [], s, h, g => h
  | x :: xs, s, h, g => by
    simp only [rfold]
    exact rfold_rb (h.step (g x (by simp))) (fun y hy => g y (by simp [hy]))
theorem rowP_rv {n : Nd} (h : right n = true) : RV (rowP n) := by
  unfold rowP RV
  by_cases h3 : n.kind = 1 ∨ n.kind = 2 ∨ n.kind = 3
  · have hd := right_hd h (by omega)
    unfold dm at hd
    rw [if_pos h3]
    simp only
    omega
  · rw [if_neg h3]
    by_cases h4 : n.kind = 4 ∨ n.kind = 5
    · have hd := right_hd h (by omega)
      unfold dm at hd
      have hs : dimB n.shift = true := by
        rcases h4 with h4 | h4
        · have := right_kind (k := 4) h h4
          simp only [goodK, gBox, Bool.and_eq_true] at this
          exact this.1.2.2.2
        · have := right_kind (k := 5) h h4
          simp only [goodK, gBox, Bool.and_eq_true] at this
          exact this.1.2.2.2
      have hs2 := dm_of hs
      unfold dm at hs2
      rw [if_pos h4]
      simp only
      omega
    · rw [if_neg h4]
      simp only
      omega
def ra0 (l : List Nd) (x : Nat) : Int × Int := match l[x]? with
  | none => (0, 0)
  | some n => rowP n
theorem ra0_rv {l : List Nd} (hr : ∀ x ∈ l, right x = true) (x : Nat) : RV (ra0 l x) := by
  unfold ra0
  split
  · unfold RV; simp only; omega
  · rename_i n hn
    exact rowP_rv (hr n (List.mem_of_getElem? hn))
/-- How high and how deep the item at a place is. -/
def RoV (ns : List Nd) (x : Nat) (v : Int × Int) : Prop :=
  ∃ n, ns[x]? = some n ∧ (if n.kind = 10 then
    ∃ ss m xs, D3 ss (ns.drop (x + 1)) 0 m ∧ Its xs (thr ss (ns.drop (x + 1)) 0 2) 0 ∧ v = rfold (ra0 (thr ss (ns.drop (x + 1)) 0 2)) xs (0, 0)
  else v = rowP n)
theorem RoV.unique {ns : List Nd} {x : Nat} {v u : Int × Int} (h : RoV ns x v) (k : RoV ns x u) : v = u := by
  obtain ⟨n, hn, h⟩ := h
  obtain ⟨n', hn', k⟩ := k
  rw [hn] at hn'
  injection hn' with e
  subst e
  split at h
  · rename_i hc
    rw [if_pos hc] at k
    obtain ⟨ss, m, xs, h1, h2, h3⟩ := h
    obtain ⟨tt, q, ys, k1, k2, k3⟩ := k
    have e1 := D3.unique h1 k1
    subst e1
    have e2 := Its.unique h2 k2
    subst e2
    rw [h3, k3]
  · rename_i hc
    rw [if_neg hc] at k
    rw [h, k]
open Classical in
noncomputable def roD (ns : List Nd) (x : Nat) : Int × Int := if h : ∃ v, RoV ns x v then h.choose else (0, 0)
theorem roD_of {ns : List Nd} {x : Nat} {v : Int × Int} (h : RoV ns x v) : roD ns x = v := by
  have hx : ∃ v, RoV ns x v := ⟨v, h⟩
  unfold roD
  rw [dif_pos hx]
  exact RoV.unique hx.choose_spec h
theorem RoV.rv {ns : List Nd} (hr : ∀ x ∈ ns, right x = true) {x : Nat} {v : Int × Int} (h : RoV ns x v) : RV v := by
  obtain ⟨n, hn, h⟩ := h
  split at h
  · obtain ⟨ss, m, xs, h1, h2, rfl⟩ := h
    refine (rfold_rb (by unfold RB; simp only; omega) fun y _ => ra0_rv (fun z hz => hr z (List.mem_of_mem_drop (thr_mem z hz))) y).rv
  · rw [h]
    exact rowP_rv (hr n (List.mem_of_getElem? hn))
theorem roD_rv {ns : List Nd} (hr : ∀ x ∈ ns, right x = true) (x : Nat) : RV (roD ns x) := by
  unfold roD
  split
  · rename_i h
    exact h.choose_spec.rv hr
  · unfold RV; simp only; omega
/-- One item more, down a column. -/
def cstep (s : Int × Int) (n : Nd) : Int × Int :=
  if n.kind = 3 then (max s.1 n.wd, n.dp)
  else if n.kind = 4 ∨ n.kind = 5 then (max s.1 (n.wd + n.shift), n.dp)
  else (s.1, 0)
def cfold (ns : List Nd) : List Nat → Int × Int → Int × Int
  | [], s => s
  | x :: xs, s => match ns[x]? with
    | none => cfold ns xs s
    | some n => cfold ns xs (cstep s n)
end Go.Proofs.YtoboecenlangmaaGreat.Np
end
section
namespace Go.Proofs.YtoboecenlangmaaGreat.Gl

structure G where
  n : Int
  s : Int
  h : Int
  a : Int
  b : Int

def G.ok (g : G) : Bool := glueB g.n g.s g.h g.a g.b
def G.chk (g : G) : Int := Gl.chk g.n g.s g.h g.a g.b
theorem G.chk_ok {g : G} (h : g.ok = true) : g.chk = 0 := chk_yes h
theorem G.chk_bad {g : G} (h : g.ok = false) : g.chk = 30 := chk_no h
def rowE (l : List G) : Int := if 2000 < l.length then 6 else if l.all G.ok = true then 0 else 30
theorem rowE_long {l : List G} (h : 2000 < l.length) : rowE l = 6 := if_pos h
theorem rowE_ok {l : List G} (h : l.length ≤ 2000) (hg : l.all G.ok = true) : rowE l = 0 := by unfold rowE; rw [if_neg (by omega), if_pos hg]
theorem rowE_bad {l : List G} (h : l.length ≤ 2000) {k : Nat} {g : G} (hk : l[k]? = some g) (hg : g.ok = false) : rowE l = 30 := by
  unfold rowE
  rw [if_neg (by omega), if_neg]
  intro ha
  rw [List.all_eq_true] at ha
  rw [ha g (List.mem_of_getElem? hk)] at hg
  cases hg
theorem rowE_zero {l : List G} (h : rowE l = 0) : l.length ≤ 2000 ∧ l.all G.ok = true := by
  unfold rowE at h
  by_cases h1 : 2000 < l.length
  · rw [if_pos h1] at h; omega
  · rw [if_neg h1] at h
    by_cases h2 : l.all G.ok = true
    · exact ⟨by omega, h2⟩
    · rw [if_neg h2] at h; omega
theorem take_all {l : List G} {k : Nat} {g : G} (hk : l[k]? = some g) (h : (l.take k).all G.ok = true) (hg : g.ok = true) : (l.take (k + 1)).all G.ok = true := by
  rw [List.take_add_one, hk, List.all_append, h]
  simp [hg]
theorem rowE_cases (l : List G) : rowE l = 0 ∨ rowE l = 6 ∨ rowE l = 30 := by
  unfold rowE; split
  · exact .inr (.inl rfl)
  · split
    · exact .inl rfl
    · exact .inr (.inr rfl)
end Go.Proofs.YtoboecenlangmaaGreat.Gl
end
section
namespace Go.Proofs.YtoboecenlangmaaGreat.Gl

theorem psV_bd (s n d : Int) : -70368744177664 ≤ psV s n d ∧ psV s n d ≤ 70368744177664 := by
  by_cases h : psE s n d = 0
  · have hok : shOk s n d = true := by
      cases h1 : shOk s n d
      · rw [psE_range h1] at h; omega
      · rfl
    have hp : pOk (mag n * mag s) d = true := by
      cases h1 : pOk (mag n * mag s) d
      · rw [psE_far hok h1] at h; omega
      · rfl
    have hd := (shOk_iff.1 hok).1
    have hm : 0 ≤ mag n * mag s := Int.mul_nonneg (mag_nonneg n) (mag_nonneg s)
    rw [psV_ok h]
    unfold pOk at hp
    simp only [Bool.and_eq_true, decide_eq_true_eq] at hp
    have h0 : 0 ≤ pq (mag n * mag s) d := by
      have h0 : 0 ≤ mag n * mag s / d := Int.ediv_nonneg hm (by omega)
      unfold pq
      split
      · exact Int.emod_nonneg _ (by rw [W64_eq]; omega)
      · exact h0
    rcases sgn_cases s n with h1 | h1 <;> rw [h1] <;> omega
  · rw [psV_err h]; omega
theorem psE_in {s n d : Int} (h : shOk s n d = true) : psE s n d = 0 ∨ psE s n d = 20 := by
  cases h1 : pOk (mag n * mag s) d
  · exact .inr (psE_far h h1)
  · exact .inl (psE_ok h h1)

/-- What is known ahead of a piece: the sum of those that stretch (or shrink), the share told last, the sizes so far. -/
structure Sz where
  S : Int
  L : Int
  o : List Int

/-- One piece more; none: its share is too great. -/
def step (sign order N D : Int) (z : Sz) (g : G) : Option Sz :=
  if sign = 1 ∧ g.a = order then (if psE (z.S + g.s) N D = 0 then some ⟨z.S + g.s, psV (z.S + g.s) N D, z.o ++ [g.n + (psV (z.S + g.s) N D - z.L)]⟩ else none)
  else if sign = 2 ∧ g.b = order then (if psE (z.S + g.h) N D = 0 then some ⟨z.S + g.h, psV (z.S + g.h) N D, z.o ++ [g.n - (psV (z.S + g.h) N D - z.L)]⟩ else none)
  else some ⟨z.S, z.L, z.o ++ [g.n]⟩

def run (sign order N D : Int) (l : List G) : Option Sz := l.foldl (fun z g => z.bind fun z => step sign order N D z g) (some ⟨0, 0, []⟩)

theorem run_nil (sign order N D : Int) : run sign order N D [] = some ⟨0, 0, []⟩ := rfl
theorem run_snoc {sign order N D : Int} {l : List G} {k : Nat} {g : G} {z : Sz} (hk : l[k]? = some g) (h : run sign order N D (l.take k) = some z) :
    run sign order N D (l.take (k + 1)) = step sign order N D z g := by
  unfold run at h ⊢
  rw [List.take_add_one, hk, List.foldl_append, h]
  rfl
theorem fold_none {sign order N D : Int} (l : List G) : l.foldl (fun z g => z.bind fun z => step sign order N D z g) none = none := by
  induction l with
  | nil => rfl
  | cons g l ih => simpa using ih
theorem run_stop {sign order N D : Int} {l : List G} {k : Nat} {g : G} {z : Sz} (hk : l[k]? = some g) (h : run sign order N D (l.take k) = some z) (hs : step sign order N D z g = none) :
    run sign order N D l = none := by
  have h1 := run_snoc hk h
  rw [hs] at h1
  have e : l = l.take (k + 1) ++ l.drop (k + 1) := (List.take_append_drop _ _).symm
  unfold run at h1 ⊢
  rw [e, List.foldl_append, h1, fold_none]

/-- The bounds that hold ahead of the k-th piece. -/
def Sz.In (z : Sz) (k : Nat) : Prop := -(k * 1073741823 : Int) ≤ z.S ∧ z.S ≤ k * 1073741823 ∧ (-70368744177664 ≤ z.L ∧ z.L ≤ 70368744177664) ∧ z.o.length = k
theorem Sz.In.zero : Sz.In ⟨0, 0, []⟩ 0 := ⟨by simp, by simp, by simp, rfl⟩
theorem step_in {sign order N D : Int} {z z' : Sz} {g : G} {k : Nat} (h : z.In k) (hg : g.ok = true) (hs : step sign order N D z g = some z') : z'.In (k + 1) := by
  obtain ⟨h1, h2, h3, h4⟩ := h
  obtain ⟨_, ⟨s0, s1⟩, ⟨t0, t1⟩, _, _⟩ := glueB_iff.1 hg
  unfold step at hs
  split at hs
  · split at hs
    · simp only [Option.some.injEq] at hs
      subst hs
      refine ⟨?_, ?_, psV_bd _ _ _, by simp [h4]⟩ <;> simp only <;> push_cast <;> omega
    · cases hs
  · split at hs
    · split at hs
      · simp only [Option.some.injEq] at hs
        subst hs
        refine ⟨?_, ?_, psV_bd _ _ _, by simp [h4]⟩ <;> simp only <;> push_cast <;> omega
      · cases hs
    · simp only [Option.some.injEq] at hs
      subst hs
      refine ⟨?_, ?_, h3, by simp [h4]⟩ <;> simp only <;> push_cast <;> omega

def argOk (sign order : Int) : Bool := decide (0 ≤ sign ∧ sign ≤ 2 ∧ 0 ≤ order ∧ order ≤ 3)
def rngOk (sign N D : Int) : Bool := nearB N && nearB D && decide (sign = 0 ∨ 1 ≤ D)
/-- The error of Sizes. -/
def szE (l : List G) (sign order N D : Int) : Int :=
  if rowE l ≠ 0 then rowE l else if argOk sign order = true then (if rngOk sign N D = true then (if (run sign order N D l).isSome = true then 0 else 20) else 11) else 1
def szL (l : List G) (sign order N D : Int) : List Int := ((run sign order N D l).map Sz.o).getD []
theorem szE_row {l : List G} {sign order N D : Int} (h : rowE l ≠ 0) : szE l sign order N D = rowE l := if_pos h
theorem szE_arg {l : List G} {sign order N D : Int} (h : rowE l = 0) (ha : argOk sign order = false) : szE l sign order N D = 1 := by simp [szE, h, ha]
theorem szE_rng {l : List G} {sign order N D : Int} (h : rowE l = 0) (ha : argOk sign order = true) (hr : rngOk sign N D = false) : szE l sign order N D = 11 := by simp [szE, h, ha, hr]
theorem szE_none {l : List G} {sign order N D : Int} (h : rowE l = 0) (ha : argOk sign order = true) (hr : rngOk sign N D = true) (hz : run sign order N D l = none) : szE l sign order N D = 20 := by simp [szE, h, ha, hr, hz]
theorem szE_some {l : List G} {sign order N D : Int} {z : Sz} (h : rowE l = 0) (ha : argOk sign order = true) (hr : rngOk sign N D = true) (hz : run sign order N D l = some z) :
    szE l sign order N D = 0 ∧ szL l sign order N D = z.o := by simp [szE, szL, h, ha, hr, hz]
theorem szE_zero {l : List G} {sign order N D : Int} (h : szE l sign order N D = 0) : rowE l = 0 ∧ argOk sign order = true ∧ rngOk sign N D = true ∧ ∃ z, run sign order N D l = some z := by
  unfold szE at h
  by_cases h1 : rowE l = 0
  · rw [if_neg (by simp [h1])] at h
    by_cases h2 : argOk sign order = true
    · rw [if_pos h2] at h
      by_cases h3 : rngOk sign N D = true
      · rw [if_pos h3] at h
        cases h4 : run sign order N D l with
        | none => simp [h4] at h
        | some z => exact ⟨h1, h2, h3, z, rfl⟩
      · rw [if_neg h3] at h; omega
    · rw [if_neg h2] at h; omega
  · rw [if_pos h1] at h; exact absurd h h1
theorem rngOk_iff {sign N D : Int} : rngOk sign N D = true ↔ (-70368744177664 ≤ N ∧ N ≤ 70368744177664) ∧ (-70368744177664 ≤ D ∧ D ≤ 70368744177664) ∧ (sign = 0 ∨ 1 ≤ D) := by
  simp [rngOk, nearB_iff, and_assoc]
theorem argOk_iff {sign order : Int} : argOk sign order = true ↔ 0 ≤ sign ∧ sign ≤ 2 ∧ 0 ≤ order ∧ order ≤ 3 := decide_eq_true_iff
/-- Within a row the shares are in range. -/
theorem share_ok {sign N D S : Int} {k : Nat} (hr : rngOk sign N D = true) (hs : sign ≠ 0) (hk : k ≤ 2000) (h0 : -(k * 1073741823 : Int) ≤ S) (h1 : S ≤ k * 1073741823) : shOk S N D = true := by
  obtain ⟨a, b, c⟩ := rngOk_iff.1 hr
  exact shOk_iff.2 ⟨by omega, by omega, a, b⟩
end Go.Proofs.YtoboecenlangmaaGreat.Gl
end
section
namespace Go.Proofs.YtoboecenlangmaaGreat.Gl

def great (a b c d : Int) : Int := if 0 < d then 3 else if 0 < c then 2 else if 0 < b then 1 else if 0 < a then 0 else -1
def pick4 (a b c d o : Int) : Int := if o = 3 then d else if o = 2 then c else if o = 1 then b else a
theorem great_cases (a b c d : Int) : (great a b c d = -1 ∧ a ≤ 0 ∧ b ≤ 0 ∧ c ≤ 0 ∧ d ≤ 0) ∨ (great a b c d = 0 ∧ 0 < a ∧ b ≤ 0 ∧ c ≤ 0 ∧ d ≤ 0) ∨ (great a b c d = 1 ∧ 0 < b ∧ c ≤ 0 ∧ d ≤ 0) ∨ (great a b c d = 2 ∧ 0 < c ∧ d ≤ 0) ∨ (great a b c d = 3 ∧ 0 < d) := by
  unfold great
  split
  · simp; omega
  · split
    · simp; omega
    · split
      · simp; omega
      · split
        · simp; omega
        · simp; omega
theorem great_pos {a b c d : Int} (h : 0 ≤ great a b c d) : great a b c d ≤ 3 ∧ 0 < pick4 a b c d (great a b c d) := by
  rcases great_cases a b c d with ⟨e, h1⟩ | ⟨e, h1⟩ | ⟨e, h1⟩ | ⟨e, h1⟩ | ⟨e, h1⟩
  · omega
  all_goals rw [e]; simp [pick4]; omega

/-- Sign, order, numerator, denominator of a row whose totals are in range. -/
def fit (a b c d p q r s ex : Int) : Int × Int × Int × Int :=
  if 0 < ex then (if great a b c d < 0 then (0, 0, 0, 0) else (1, great a b c d, ex, pick4 a b c d (great a b c d)))
  else if ex < 0 then (if great p q r s < 0 then (0, 0, 0, 0) else (2, great p q r s, if great p q r s = 0 then min (-ex) (pick4 p q r s (great p q r s)) else -ex, pick4 p q r s (great p q r s)))
  else (0, 0, 0, 0)
end Go.Proofs.YtoboecenlangmaaGreat.Gl
end
section
namespace Go.Proofs.YtoboecenlangmaaGreat.Pk
open Np
set_option linter.unusedVariables false

/-- What stands within an item that opens. -/
def inn (ns : List Nd) (a m : Nat) : List Nd := (ns.drop (a + 1)).take (m - 2)
/-- An item stays, or leaves. -/
def pstep (ns : List Nd) (s : List Nd × List Nd) (a : Nat) : List Nd × List Nd := match ns[a]?, endc (ns.drop a) 0 with
  | some x, some m => if x.kind = 13 ∨ x.kind = 12 then (s.1, s.2 ++ (ns.drop a).take m) else if x.kind = 17 then (s.1, s.2 ++ inn ns a m) else (s.1 ++ (ns.drop a).take m, s.2)
  | _, _ => s
theorem pstep_out {ns : List Nd} {s : List Nd × List Nd} {a m : Nat} {x : Nd} (hx : ns[a]? = some x) (hm : endc (ns.drop a) 0 = some m) (hk : x.kind = 13 ∨ x.kind = 12) : pstep ns s a = (s.1, s.2 ++ (ns.drop a).take m) := by
  unfold pstep; rw [hx, hm]; simp only; rw [if_pos hk]
theorem pstep_in {ns : List Nd} {s : List Nd × List Nd} {a m : Nat} {x : Nd} (hx : ns[a]? = some x) (hm : endc (ns.drop a) 0 = some m) (hk : x.kind = 17) : pstep ns s a = (s.1, s.2 ++ inn ns a m) := by
  unfold pstep; rw [hx, hm]; simp only; rw [if_neg (by omega), if_pos hk]
theorem pstep_stay {ns : List Nd} {s : List Nd × List Nd} {a m : Nat} {x : Nd} (hx : ns[a]? = some x) (hm : endc (ns.drop a) 0 = some m) (h1 : ¬ x.kind = 13) (h2 : ¬ x.kind = 12) (h3 : ¬ x.kind = 17) : pstep ns s a = (s.1 ++ (ns.drop a).take m, s.2) := by
  unfold pstep; rw [hx, hm]; simp only; rw [if_neg (by omega), if_neg h3]
def partF (ns : List Nd) (xs : List Nat) (s : List Nd × List Nd) : List Nd × List Nd := xs.foldl (pstep ns) s
theorem partF_cons (ns : List Nd) (a : Nat) (xs : List Nat) (s : List Nd × List Nd) : partF ns (a :: xs) s = partF ns xs (pstep ns s a) := rfl
/-- Where a list's items begin. -/
noncomputable def itsD (ns : List Nd) : List Nat := Classical.epsilon (fun xs => Its xs ns 0)
theorem itsD_of {ns : List Nd} {xs : List Nat} (h : Its xs ns 0) : itsD ns = xs := Its.unique (Classical.epsilon_spec (p := fun xs => Its xs ns 0) ⟨xs, h⟩) h
theorem itsD_is {ns : List Nd} (h : chk ns = 0) : Its (itsD ns) ns 0 := by
  obtain ⟨xs, hx⟩ := its_of_chk h
  rw [itsD_of hx]; exact hx
noncomputable def partD (ns : List Nd) : List Nd × List Nd := partF ns (itsD ns) ([], [])
/-- A number within what the badness takes, not below 0. -/
def held (x : Int) : Int := if x < 0 then 0 else if 2147483647 < x then 2147483647 else x
theorem held_bd (x : Int) : 0 ≤ held x ∧ held x ≤ 2147483647 := by
  unfold held
  split
  · omega
  · split <;> omega
def fitT (T : Tot) (ex : Int) : Int × Int × Int × Int := Gl.fit (T.st.getD 0 0) (T.st.getD 1 0) (T.st.getD 2 0) (T.st.getD 3 0) (T.sh.getD 0 0) (T.sh.getD 1 0) (T.sh.getD 2 0) (T.sh.getD 3 0) ex
end Go.Proofs.YtoboecenlangmaaGreat.Pk
end
section
namespace Go.Proofs.YtoboecenlangmaaGreat.Sc
set_option linter.unusedVariables false

def farB (x : Int) : Bool := decide (x < -2147483647 ∨ 2147483647 < x)
theorem farB_no {x : Int} (h : farB x = false) : -2147483647 ≤ x ∧ x ≤ 2147483647 := by
  have h1 := of_decide_eq_false h
  omega
theorem farB_yes {x : Int} (h : farB x = true) : x < -2147483647 ∨ 2147483647 < x := of_decide_eq_true h
theorem farB_in {x : Int} (h : -2147483647 ≤ x) (k : x ≤ 2147483647) : farB x = false := decide_eq_false (by omega)
def bigB (x : Int) : Bool := decide (x < -1073741823 ∨ 1073741823 < x)
theorem bigB_no {x : Int} (h : bigB x = false) : -1073741823 ≤ x ∧ x ≤ 1073741823 := by
  have h1 := of_decide_eq_false h
  omega
theorem bigB_yes {x : Int} (h : bigB x = true) : x < -1073741823 ∨ 1073741823 < x := of_decide_eq_true h
theorem bigB_in {x : Int} (h : -1073741823 ≤ x) (k : x ≤ 1073741823) : bigB x = false := decide_eq_false (by omega)
theorem bigB_out {x : Int} (h : x < -1073741823 ∨ 1073741823 < x) : bigB x = true := decide_eq_true h
/-- A dimension, or that it is too great. -/
def dimV (x : Int) : Int := if bigB x = true then 0 else x
def dimE (x : Int) : Int := if bigB x = true then 20 else 0
def addV (a b : Int) : Int := if farB a = true ∨ farB b = true then 0 else dimV (a + b)
def addE (a b : Int) : Int := if farB a = true ∨ farB b = true then 11 else dimE (a + b)
def timV (n x y : Int) : Int := if farB n = true ∨ farB x = true ∨ farB y = true then 0 else dimV (n * x + y)
def timE (n x y : Int) : Int := if farB n = true ∨ farB x = true ∨ farB y = true then 11 else dimE (n * x + y)
def ovQ (x n : Int) : Int := if farB x = true ∨ farB n = true then 0 else if n = 0 then 0 else x.tdiv n
def ovR (x n : Int) : Int := if farB x = true ∨ farB n = true then 0 else if n = 0 then 0 else x.tmod n
def ovE (x n : Int) : Int := if farB x = true ∨ farB n = true then 11 else if n = 0 then 20 else 0
def frQ (x n d : Int) : Int := if farB x = true ∨ farB n = true ∨ farB d = true then 0 else if n < 0 ∨ d < 1 then 0 else if bigB ((x * n).tdiv d) = true then 0 else (x * n).tdiv d
def frR (x n d : Int) : Int := if farB x = true ∨ farB n = true ∨ farB d = true then 0 else if n < 0 ∨ d < 1 then 0 else if bigB ((x * n).tdiv d) = true then 0 else (x * n).tmod d
def frE (x n d : Int) : Int := if farB x = true ∨ farB n = true ∨ farB d = true then 11 else if n < 0 ∨ d < 1 then 1 else if bigB ((x * n).tdiv d) = true then 20 else 0

/-- A product's bounds. -/
theorem mul_bd {a b m n : Int} (ha : -m ≤ a ∧ a ≤ m) (hb : -n ≤ b ∧ b ≤ n) : -(m * n) ≤ a * b ∧ a * b ≤ m * n := by
  have h1 : (a * b).natAbs ≤ (m * n).natAbs := by
    rw [Int.natAbs_mul, Int.natAbs_mul]
    exact Nat.mul_le_mul (by omega) (by omega)
  have h2 : 0 ≤ m * n := Int.mul_nonneg (by omega) (by omega)
  omega

theorem tdiv_bd {a d m : Int} (h : -m ≤ a ∧ a ≤ m) : -m ≤ a.tdiv d ∧ a.tdiv d ≤ m := by
  have h1 : (a.tdiv d).natAbs ≤ a.natAbs := by
    rw [Int.natAbs_tdiv]
    exact Nat.div_le_self _ _
  omega

/-- Rounded: p / d, for p, d from 0 on. -/
def rnd (p d : Nat) : Nat := if d ≤ 2 * (p % d) then p / d + 1 else p / d
def paOk (n d : Int) : Bool := decide (0 ≤ n ∧ n ≤ d ∧ 1 ≤ d ∧ d ≤ 1152921504606846976)
def paV (x n d : Int) : Int := if farB x = true then 0 else if paOk n d = false then 0 else if x < 0 then -(rnd (x.natAbs * n.toNat) d.toNat : Int) else (rnd (x.natAbs * n.toNat) d.toNat : Int)
def paE (x n d : Int) : Int := if farB x = true then 11 else if paOk n d = false then 1 else 0

/-- Badness: the quotient. -/
def bdR (t s : Int) : Int := if t ≤ 7230584 then (297 * t).tdiv s else if 1663497 ≤ s then t.tdiv (s.tdiv 297) else t
def bdV (t s : Int) : Int := if farB t = true ∨ farB s = true then 0 else if t < 0 then 0 else if t = 0 then 0 else if s < 1 then 10000 else if 1290 < bdR t s then 10000 else (bdR t s * bdR t s * bdR t s + 131072) / 262144
def bdE (t s : Int) : Int := if farB t = true ∨ farB s = true then 11 else if t < 0 then 1 else 0
theorem bdR_nonneg {t s : Int} (ht : 0 < t) (hs : 1 ≤ s) : 0 ≤ bdR t s := by
  unfold bdR
  split
  · exact Int.tdiv_nonneg (by omega) (by omega)
  · split
    · exact Int.tdiv_nonneg (by omega) (Int.tdiv_nonneg (by omega) (by omega))
    · omega

/-! ### Texts -/
def digB (c : UInt8) : Bool := decide (48 ≤ c.toNat ∧ c.toNat ≤ 57)
theorem digB_yes {c : UInt8} (h : digB c = true) : 48 ≤ c.toNat ∧ c.toNat ≤ 57 := of_decide_eq_true h
theorem digB_no {c : UInt8} (h : digB c = false) : c.toNat < 48 ∨ 57 < c.toNat := by
  have h1 := of_decide_eq_false h
  omega
def decA : List UInt8 → Int
  | [] => 0
  | c :: l => (decA l + 131072 * ((c.toNat : Int) - 48)) / 10
def decs (l : List UInt8) : Int := (decA (l.take 17) + 1) / 2
theorem decA_bd : ∀ l : List UInt8, l.all digB = true → 0 ≤ decA l ∧ decA l ≤ 131071
  | [], _ => by simp [decA]
  | c :: l, h => by
    simp only [List.all_cons, Bool.and_eq_true] at h
    have h1 := digB_yes h.1
    have h2 := decA_bd l h.2
    simp only [decA]
    omega
theorem all_take {l : List UInt8} {f : UInt8 → Bool} (h : l.all f = true) (n : Nat) : (l.take n).all f = true := by
  rw [List.all_eq_true] at h ⊢
  exact fun x hx => h x (List.mem_of_mem_take hx)
theorem all_drop {l : List UInt8} {f : UInt8 → Bool} (h : l.all f = true) (n : Nat) : (l.drop n).all f = true := by
  rw [List.all_eq_true] at h ⊢
  exact fun x hx => h x (List.mem_of_mem_drop hx)
theorem decs_bd {l : List UInt8} (h : l.all digB = true) : 0 ≤ decs l ∧ decs l ≤ 65536 := by
  have h1 := decA_bd (l.take 17) (all_take h 17)
  unfold decs
  omega
def dcV (l : List UInt8) : Int := if l.all digB = true then decs l else 0
def dcE (l : List UInt8) : Int := if l.all digB = true then 0 else 21
/-- The whole part, held. -/
def whl : List UInt8 → Int → Int
  | [], i => i
  | c :: l, i => whl l (min (10 * i + ((c.toNat : Int) - 48)) 1099511627776)
theorem whl_bd : ∀ (l : List UInt8) (i : Int), l.all digB = true → 0 ≤ i → i ≤ 1099511627776 → 0 ≤ whl l i ∧ whl l i ≤ 1099511627776
  | [], i, _, h0, h1 => ⟨h0, h1⟩
  | c :: l, i, h, h0, h1 => by
    simp only [List.all_cons, Bool.and_eq_true] at h
    have h2 := digB_yes h.1
    exact whl_bd l _ h.2 (by omega) (by omega)
theorem whl_snoc : ∀ (l : List UInt8) (c : UInt8) (i : Int), whl (l ++ [c]) i = min (10 * whl l i + ((c.toNat : Int) - 48)) 1099511627776
  | [], c, i => rfl
  | d :: l, c, i => whl_snoc l c _
def minusB : List UInt8 → Bool
  | 45 :: _ => true
  | _ => false
def bare : List UInt8 → List UInt8
  | 45 :: l => l
  | l => l
def run (l : List UInt8) : List UInt8 := l.takeWhile digB
def rest (l : List UInt8) : List UInt8 := l.dropWhile digB
def pointB : List UInt8 → Bool
  | 46 :: _ => true
  | _ => false
def unpoint : List UInt8 → List UInt8
  | 46 :: l => l
  | l => l
def behind (l : List UInt8) : List UInt8 := if pointB (rest l) = true then run (unpoint (rest l)) else []
def left (l : List UInt8) : List UInt8 := if pointB (rest l) = true then rest (unpoint (rest l)) else rest l
def numOk (l : List UInt8) : Bool := !(run l).isEmpty || !(behind l).isEmpty
def numI (l : List UInt8) : Int := whl (run l) 0
def numF (l : List UInt8) : Int := decs (behind l)
theorem run_all (l : List UInt8) : (run l).all digB = true := by
  rw [List.all_eq_true]
  intro x hx
  exact List.all_eq_true.1 (List.all_takeWhile (l := l) (p := digB)) x hx
theorem behind_all (l : List UInt8) : (behind l).all digB = true := by
  unfold behind
  split
  · exact run_all _
  · rfl
theorem numI_bd (l : List UInt8) : 0 ≤ numI l ∧ numI l ≤ 1099511627776 := whl_bd _ _ (run_all l) (by omega) (by omega)
theorem numF_bd (l : List UInt8) : 0 ≤ numF l ∧ numF l ≤ 65536 := decs_bd (behind_all l)
theorem run_rest (l : List UInt8) : run l ++ rest l = l := List.takeWhile_append_dropWhile
def turn (m : Bool) (x : Int) : Int := if m = true then -x else x
def parV (t : List UInt8) : Int := if numOk (bare t) = true ∧ left (bare t) = [] then turn (minusB t) (dimV (numI (bare t) * 65536 + numF (bare t))) else 0
def parE (t : List UInt8) : Int := if numOk (bare t) = true ∧ left (bare t) = [] then dimE (numI (bare t) * 65536 + numF (bare t)) else 21
/-- Units: their numbers. -/
def unit (l : List UInt8) : Option (Int × Int) :=
  if l = [112, 116] then some (1, 1) else if l = [105, 110] then some (7227, 100) else if l = [112, 99] then some (12, 1) else if l = [99, 109] then some (7227, 254)
  else if l = [109, 109] then some (7227, 2540) else if l = [98, 112] then some (7227, 7200) else if l = [100, 100] then some (1238, 1157) else if l = [99, 99] then some (14856, 1157) else none
/-- A number in a unit. -/
def mea (i f n d : Int) : Int := 65536 * (i * n / d + (n * f + 65536 * (i * n % d)) / d / 65536) + (n * f + 65536 * (i * n % d)) / d % 65536
def diV (t : List UInt8) : Int :=
  if numOk (bare t) = true then
    if left (bare t) = [115, 112] then turn (minusB t) (dimV (numI (bare t)))
    else match unit (left (bare t)) with
      | none => 0
      | some (n, d) => if 2147483647 < numI (bare t) then 0 else turn (minusB t) (dimV (mea (numI (bare t)) (numF (bare t)) n d))
  else 0
def diE (t : List UInt8) : Int :=
  if numOk (bare t) = true then
    if left (bare t) = [115, 112] then dimE (numI (bare t))
    else match unit (left (bare t)) with
      | none => 21
      | some (n, d) => if 2147483647 < numI (bare t) then 20 else dimE (mea (numI (bare t)) (numF (bare t)) n d)
  else 21

/-! ### Print and Roman -/
def dig1 (k : Nat) : UInt8 := UInt8.ofNat (48 + k)
/-- The digits behind the point: so many rounds at most. -/
def frac : Nat → Nat → Nat → List UInt8
  | 0, _, _ => []
  | k + 1, x, delta =>
    let y := if 65536 < delta then x - 17232 else x
    dig1 (y / 65536) :: (if 10 * (y % 65536) ≤ 10 * delta then [] else frac k (10 * (y % 65536)) (10 * delta))
def prA (n : Nat) : List UInt8 := Lib.decDigits (n / 65536) ++ 46 :: frac 5 (10 * (n % 65536) + 5) 10
def prT (s : Int) : List UInt8 := if farB s = true then [] else if s < 0 then 45 :: prA s.natAbs else prA s.natAbs
/-- One place of a numeral. -/
def plc (k : Nat) (a b c : UInt8) : List UInt8 :=
  if k = 9 then [a, c] else if 5 ≤ k then b :: List.replicate (k - 5) a else if k = 4 then [a, b] else List.replicate k a
def roA (n : Nat) : List UInt8 := List.replicate (n / 1000) 109 ++ plc (n / 100 % 10) 99 100 109 ++ plc (n / 10 % 10) 120 108 99 ++ plc (n % 10) 105 118 120
def roT (n : Int) : List UInt8 := if n < 1 ∨ 20000 < n then [] else roA n.toNat
end Go.Proofs.YtoboecenlangmaaGreat.Sc
end
section
namespace Go.Proofs.YtoboecenlangmaaGreat.Ss
open Go.ChangeShapes Go.WideShapes Go.ChangeAt Go.RowKit
open Me Sc
set_option linter.unusedVariables false
set_option linter.unusedSimpArgs false

theorem ret_bool {a b : Bool} (h : a = b) : Ending.returned (.bool a) = .returned (.bool b) := by rw [h]
theorem ret_int {k : IntKind} {a b : Int} (h : a = b) : Ending.returned (.int k a) = .returned (.int k b) := by rw [h]
theorem ret_ints {a b c d : Int} (h : a = c) (k : b = d) : Ending.returned (.tuple #[.int .i64 a, .int .i64 b]) = .returned (.tuple #[.int .i64 c, .int .i64 d]) := by rw [h, k]
theorem ret_ints3 {a b c d e f : Int} (h : a = d) (k : b = e) (l : c = f) : Ending.returned (.tuple #[.int .i64 a, .int .i64 b, .int .i64 c]) = .returned (.tuple #[.int .i64 d, .int .i64 e, .int .i64 f]) := by rw [h, k, l]
theorem far_any (x : Int) (w : World) : Calls Tryz.prog 192 #[.int .i64 x] w fun e w' => e = .returned (.bool (farB x)) ∧ w = w' := by
  by_cases h0 : x < -2147483647
  · go_enter Tryz.func192, Tryz.ntmps192
    go_wp2
    go_ret
    exact ⟨ret_bool (decide_eq_true (.inl h0)).symm, rfl⟩
  · by_cases h1 : 2147483647 < x
    · go_enter Tryz.func192, Tryz.ntmps192
      go_wp2
      go_ret
      exact ⟨ret_bool (decide_eq_true (.inr h1)).symm, rfl⟩
    · go_enter Tryz.func192, Tryz.ntmps192
      go_wp2
      go_ret
      exact ⟨ret_bool (decide_eq_false (by omega)).symm, rfl⟩
end Go.Proofs.YtoboecenlangmaaGreat.Ss
end
section
namespace Go.Proofs.YtoboecenlangmaaGreat.Ss
open Go.ChangeShapes Go.WideShapes Go.ChangeAt Go.RowKit
open Me Sc
set_option linter.unusedVariables false
set_option linter.unusedSimpArgs false

/-- A slice of integers reads as a list. -/
def Ns (w : World) (A : Option Addr) (xs : List Int) : Prop := ∀ k x, xs[k]? = some x → ∃ b off : Nat, A = some ⟨b, off, none⟩ ∧ w.cell? ⟨b, off + k, none⟩ = some (.int .i64 x)
theorem any_snoc {xs : List Int} {k : Nat} {x : Int} (f : Int → Bool) (h : xs[k]? = some x) : (xs.take (k + 1)).any f = ((xs.take k).any f || f x) := by
  rw [List.take_add_one, h]; simp
theorem any_yes {xs : List Int} {k : Nat} {x : Int} {f : Int → Bool} (h : xs[k]? = some x) (hf : f x = true) : xs.any f = true := by
  rw [List.any_eq_true]
  exact ⟨x, List.mem_of_getElem? h, hf⟩
theorem anyFar_any (A : Option Addr) (xs : List Int) (c : Nat) (w : World) (hl : xs.length ≤ 9223372036854775807) (hx : Ns w A xs) :
    Calls Tryz.prog 189 #[.slice A xs.length c] w fun e w' => e = .returned (.bool (xs.any farB)) ∧ w = w' := by
  have HX := Lib.hid hx
  clear hx
  generalize hn : xs.length = n at *
  have HN := Lib.hid hn
  clear hn
  go_enter Tryz.func189, Tryz.ntmps189
  go_wp2_with fail
  go_loop [7] (fun i => ∃ k : Nat, k ≤ n ∧ i = .int .i64 k ∧ (xs.take k).any farB = false) (fun i => n - (intOf i).toNat)
  case atStart => exact ⟨0, Nat.zero_le _, rfl, by simp⟩
  case round =>
    obtain ⟨k, hk, rfl, hs⟩ := hrel
    by_cases hlt : k < n
    · obtain ⟨x, hxk⟩ : ∃ x, xs[k]? = some x := ⟨_, List.getElem?_eq_getElem (by rw [HN.out]; exact hlt)⟩
      obtain ⟨b, off, rfl, cx⟩ := HX.out k x hxk
      have HS := Lib.hid hs
      have HK := Lib.hid hxk
      clear hs hxk
      cases hf : farB x
      · go_wp2_with (go_at_call 192; refine (far_any _ _).mono ?_; rintro e w' ⟨rfl, rfl⟩)
        go_round
        case rel => exact ⟨k + 1, by omega, by go_num, by rw [any_snoc _ HK.out, HS.out, hf]; rfl⟩
        case measure => simp [intOf]; omega
      · go_wp2_with (go_at_call 192; refine (far_any _ _).mono ?_; rintro e w' ⟨rfl, rfl⟩)
        go_ret
        exact ⟨ret_bool (any_yes HK.out hf).symm, rfl⟩
    · obtain rfl : k = n := by omega
      have HS := Lib.hid hs
      clear hs
      go_wp2_with fail
      go_ret
      have hz := HS.out
      rw [List.take_of_length_le (by rw [HN.out]; exact Nat.le_refl _)] at hz
      exact ⟨ret_bool hz.symm, rfl⟩
theorem anyFar2 (b : Nat) (x y : Int) (w : World) (c0 : w.cell? ⟨b, 0, none⟩ = some (.int .i64 x)) (c1 : w.cell? ⟨b, 1, none⟩ = some (.int .i64 y)) :
    Calls Tryz.prog 189 #[.slice (some ⟨b, 0, none⟩) 2 2] w fun e w' => e = .returned (.bool (farB x || farB y)) ∧ w = w' := by
  refine (anyFar_any (some ⟨b, 0, none⟩) [x, y] 2 w (by simp) ?_).mono ?_
  · intro k u hk
    refine ⟨b, 0, rfl, ?_⟩
    match k, hk with
    | 0, hk => simp at hk; subst hk; simpa using c0
    | 1, hk => simp at hk; subst hk; simpa using c1
  · rintro e w' ⟨rfl, rfl⟩
    exact ⟨ret_bool (by simp), rfl⟩
theorem anyFar3 (b : Nat) (x y z : Int) (w : World) (c0 : w.cell? ⟨b, 0, none⟩ = some (.int .i64 x)) (c1 : w.cell? ⟨b, 1, none⟩ = some (.int .i64 y)) (c2 : w.cell? ⟨b, 2, none⟩ = some (.int .i64 z)) :
    Calls Tryz.prog 189 #[.slice (some ⟨b, 0, none⟩) 3 3] w fun e w' => e = .returned (.bool (farB x || (farB y || farB z))) ∧ w = w' := by
  refine (anyFar_any (some ⟨b, 0, none⟩) [x, y, z] 3 w (by simp) ?_).mono ?_
  · intro k u hk
    refine ⟨b, 0, rfl, ?_⟩
    match k, hk with
    | 0, hk => simp at hk; subst hk; simpa using c0
    | 1, hk => simp at hk; subst hk; simpa using c1
    | 2, hk => simp at hk; subst hk; simpa using c2
  · rintro e w' ⟨rfl, rfl⟩
    exact ⟨ret_bool (by simp), rfl⟩
theorem shr18 (a : Int) : a / 2 ^ 18 = a / 262144 := rfl
theorem bd_far {t s : Int} (h : farB t = true ∨ farB s = true) : bdV t s = 0 ∧ bdE t s = 11 := by unfold bdV bdE; rw [if_pos h, if_pos h]; exact ⟨rfl, rfl⟩
theorem bd_neg {t s : Int} (ht : farB t = false) (hs : farB s = false) (h : t < 0) : bdV t s = 0 ∧ bdE t s = 1 := by simp [bdV, bdE, ht, hs, h]
theorem bd_zero {t s : Int} (ht : farB t = false) (hs : farB s = false) (h : t = 0) : bdV t s = 0 ∧ bdE t s = 0 := by subst h; simp [bdV, bdE, ht, hs]
theorem bd_none {t s : Int} (ht : farB t = false) (hs : farB s = false) (h : 0 < t) (h1 : s < 1) : bdV t s = 10000 ∧ bdE t s = 0 := by
  have a : ¬ t < 0 := by omega
  have b : ¬ t = 0 := by omega
  simp [bdV, bdE, ht, hs, a, b, h1]
theorem bd_inf {t s r : Int} (ht : farB t = false) (hs : farB s = false) (h : 0 < t) (h1 : 1 ≤ s) (hr : bdR t s = r) (h2 : 1290 < r) : bdV t s = 10000 ∧ bdE t s = 0 := by
  have a : ¬ t < 0 := by omega
  have b : ¬ t = 0 := by omega
  have c : ¬ s < 1 := by omega
  simp [bdV, bdE, ht, hs, a, b, c, hr, h2]
theorem bd_fin {t s r : Int} (ht : farB t = false) (hs : farB s = false) (h : 0 < t) (h1 : 1 ≤ s) (hr : bdR t s = r) (h2 : r ≤ 1290) : bdV t s = (r * r * r + 131072) / 262144 ∧ bdE t s = 0 := by
  have a : ¬ t < 0 := by omega
  have b : ¬ t = 0 := by omega
  have c : ¬ s < 1 := by omega
  have d : ¬ 1290 < r := by omega
  simp [bdV, bdE, ht, hs, a, b, c, hr, d]
theorem bdR_a {t s : Int} (h : 0 < t) (h1 : 1 ≤ s) (h2 : t ≤ 7230584) : bdR t s = 297 * t / s := by
  unfold bdR
  rw [if_pos h2, Int.tdiv_eq_ediv_of_nonneg (by omega)]
theorem bdR_b {t s : Int} (h : 0 < t) (h2 : 7230584 < t) (h3 : 1663497 ≤ s) : bdR t s = t / (s / 297) := by
  unfold bdR
  rw [if_neg (by omega), if_pos h3, Int.tdiv_eq_ediv_of_nonneg (by omega), Int.tdiv_eq_ediv_of_nonneg (by omega)]
theorem bdR_c {t s : Int} (h2 : 7230584 < t) (h3 : s < 1663497) : bdR t s = t := by
  unfold bdR
  rw [if_neg (by omega), if_neg (by omega)]
theorem cube_bd {r : Int} (h0 : 0 ≤ r) (h1 : r ≤ 1290) : 0 ≤ r * r ∧ r * r ≤ 1664100 ∧ 0 ≤ r * r * r ∧ r * r * r ≤ 2146689000 := by
  have a := Int.mul_nonneg h0 h0
  have b : r * r ≤ 1290 * 1290 := Int.mul_le_mul h1 h1 h0 (by omega)
  have c := Int.mul_nonneg a h0
  have d : r * r * r ≤ 1664100 * 1290 := Int.mul_le_mul (by omega) h1 h0 (by omega)
  exact ⟨a, by omega, c, by omega⟩
set_option maxHeartbeats 1000000 in
theorem bad_any (t s : Int) (w : World) : Calls Tryz.prog 181 #[.int .i64 t, .int .i64 s] w fun e w' => e = .returned (.tuple #[.int .i64 (bdV t s), .int .i64 (bdE t s)]) ∧ Below w.heap.size w w' := by
  cases ht : farB t
  · obtain ⟨t0, t1⟩ := farB_no ht
    have HT := Lib.hid ht
    cases hs : farB s
    · obtain ⟨s0, s1⟩ := farB_no hs
      have HS := Lib.hid hs
      by_cases n0 : t < 0
      · go_enter Tryz.func181, Tryz.ntmps181
        go_wp2_with (first | (go_at_call 189; refine (anyFar2 _ t s _ ((Blk.new' rfl).cell 0) ((Blk.new' rfl).cell 1)).mono ?_; rintro e w' ⟨rfl, rfl⟩))
        go_ret2
        exact ⟨ret_ints (by rw [(bd_neg HT.out HS.out n0).1]) (by rw [(bd_neg HT.out HS.out n0).2]), (by repeat (first | exact Below.refl _ _ | assumption | apply below_drewN | apply andAlloc))⟩
      · by_cases n1 : t = 0
        · have e1 : (t == 0) = true := by simpa using n1
          have N1 := Lib.hid n1
          clear n1
          go_enter Tryz.func181, Tryz.ntmps181
          go_wp2_with (first | (go_at_call 189; refine (anyFar2 _ t s _ ((Blk.new' rfl).cell 0) ((Blk.new' rfl).cell 1)).mono ?_; rintro e w' ⟨rfl, rfl⟩))
          go_ret2
          exact ⟨ret_ints (by rw [(bd_zero HT.out HS.out N1.out).1]) (by rw [(bd_zero HT.out HS.out N1.out).2]), (by repeat (first | exact Below.refl _ _ | assumption | apply below_drewN | apply andAlloc))⟩
        · have hp : 0 < t := by omega
          have e1 : (t == 0) = false := by simpa using n1
          clear n1
          by_cases n2 : s < 1
          · go_enter Tryz.func181, Tryz.ntmps181
            go_wp2_with (first | (go_at_call 189; refine (anyFar2 _ t s _ ((Blk.new' rfl).cell 0) ((Blk.new' rfl).cell 1)).mono ?_; rintro e w' ⟨rfl, rfl⟩))
            go_ret2
            exact ⟨ret_ints (by rw [(bd_none HT.out HS.out hp n2).1]) (by rw [(bd_none HT.out HS.out hp n2).2]), (by repeat (first | exact Below.refl _ _ | assumption | apply below_drewN | apply andAlloc))⟩
          · have hs1 : 1 ≤ s := by omega
            by_cases c1 : t ≤ 7230584
            · have v0 : 0 ≤ t * 297 / s := Int.ediv_nonneg (by omega) (by omega)
              have v1 : t * 297 / s ≤ t * 297 := Int.ediv_le_self _ (by omega)
              by_cases big : 1290 < t * 297 / s
              · go_enter Tryz.func181, Tryz.ntmps181
                go_wp2_with (first | (go_at_call 189; refine (anyFar2 _ t s _ ((Blk.new' rfl).cell 0) ((Blk.new' rfl).cell 1)).mono ?_; rintro e w' ⟨rfl, rfl⟩))
                go_ret2
                exact ⟨ret_ints (by rw [(bd_inf HT.out HS.out hp hs1 (show bdR t s = t * 297 / s by rw [bdR_a hp hs1 c1, Int.mul_comm]) big).1]) (by rw [(bd_inf HT.out HS.out hp hs1 (show bdR t s = t * 297 / s by rw [bdR_a hp hs1 c1, Int.mul_comm]) big).2]), (by repeat (first | exact Below.refl _ _ | assumption | apply below_drewN | apply andAlloc))⟩
              · obtain ⟨u0, u1, u2, u3⟩ := cube_bd (r := t * 297 / s) (by omega) (by omega)
                go_enter Tryz.func181, Tryz.ntmps181
                go_wp2_with (first | (go_at_call 189; refine (anyFar2 _ t s _ ((Blk.new' rfl).cell 0) ((Blk.new' rfl).cell 1)).mono ?_; rintro e w' ⟨rfl, rfl⟩))
                go_ret2
                exact ⟨ret_ints (by rw [(bd_fin HT.out HS.out hp hs1 (show bdR t s = t * 297 / s by rw [bdR_a hp hs1 c1, Int.mul_comm]) (by omega)).1]) (by rw [(bd_fin HT.out HS.out hp hs1 (show bdR t s = t * 297 / s by rw [bdR_a hp hs1 c1, Int.mul_comm]) (by omega)).2]), (by repeat (first | exact Below.refl _ _ | assumption | apply below_drewN | apply andAlloc))⟩
            · by_cases c2 : 1663497 ≤ s
              · have v0 : 0 ≤ t / (s / 297) := Int.ediv_nonneg (by omega) (by omega)
                have v1 : t / (s / 297) ≤ t := Int.ediv_le_self _ (by omega)
                have v2 : 1 ≤ s / 297 := by omega
                by_cases big : 1290 < t / (s / 297)
                · go_enter Tryz.func181, Tryz.ntmps181
                  go_wp2_with (first | (go_at_call 189; refine (anyFar2 _ t s _ ((Blk.new' rfl).cell 0) ((Blk.new' rfl).cell 1)).mono ?_; rintro e w' ⟨rfl, rfl⟩))
                  go_ret2
                  exact ⟨ret_ints (by rw [(bd_inf HT.out HS.out hp hs1 (bdR_b hp (by omega) c2) big).1]) (by rw [(bd_inf HT.out HS.out hp hs1 (bdR_b hp (by omega) c2) big).2]), (by repeat (first | exact Below.refl _ _ | assumption | apply below_drewN | apply andAlloc))⟩
                · obtain ⟨u0, u1, u2, u3⟩ := cube_bd (r := t / (s / 297)) (by omega) (by omega)
                  go_enter Tryz.func181, Tryz.ntmps181
                  go_wp2_with (first | (go_at_call 189; refine (anyFar2 _ t s _ ((Blk.new' rfl).cell 0) ((Blk.new' rfl).cell 1)).mono ?_; rintro e w' ⟨rfl, rfl⟩))
                  go_ret2
                  exact ⟨ret_ints (by rw [(bd_fin HT.out HS.out hp hs1 (bdR_b hp (by omega) c2) (by omega)).1]) (by rw [(bd_fin HT.out HS.out hp hs1 (bdR_b hp (by omega) c2) (by omega)).2]), (by repeat (first | exact Below.refl _ _ | assumption | apply below_drewN | apply andAlloc))⟩
              · have c3 : 1290 < t := by omega
                go_enter Tryz.func181, Tryz.ntmps181
                go_wp2_with (first | (go_at_call 189; refine (anyFar2 _ t s _ ((Blk.new' rfl).cell 0) ((Blk.new' rfl).cell 1)).mono ?_; rintro e w' ⟨rfl, rfl⟩))
                go_ret2
                exact ⟨ret_ints (by rw [(bd_inf HT.out HS.out hp hs1 (bdR_c (by omega) (by omega)) c3).1]) (by rw [(bd_inf HT.out HS.out hp hs1 (bdR_c (by omega) (by omega)) c3).2]), (by repeat (first | exact Below.refl _ _ | assumption | apply below_drewN | apply andAlloc))⟩
    · have HS := Lib.hid hs
      go_enter Tryz.func181, Tryz.ntmps181
      go_wp2_with (first | (go_at_call 189; refine (anyFar2 _ t s _ ((Blk.new' rfl).cell 0) ((Blk.new' rfl).cell 1)).mono ?_; rintro e w' ⟨rfl, rfl⟩))
      go_ret2
      exact ⟨ret_ints (by rw [(bd_far (.inr HS.out)).1]) (by rw [(bd_far (.inr HS.out)).2]), (by repeat (first | exact Below.refl _ _ | assumption | apply below_drewN | apply andAlloc))⟩
  · have HT := Lib.hid ht
    go_enter Tryz.func181, Tryz.ntmps181
    go_wp2_with (first | (go_at_call 189; refine (anyFar2 _ t s _ ((Blk.new' rfl).cell 0) ((Blk.new' rfl).cell 1)).mono ?_; rintro e w' ⟨rfl, rfl⟩))
    go_ret2
    exact ⟨ret_ints (by rw [(bd_far (.inl HT.out)).1]) (by rw [(bd_far (.inl HT.out)).2]), (by repeat (first | exact Below.refl _ _ | assumption | apply below_drewN | apply andAlloc))⟩
end Go.Proofs.YtoboecenlangmaaGreat.Ss
end
section
namespace Go.Proofs.YtoboecenlangmaaGreat.Pk
open Go.ChangeShapes Go.WideShapes Go.ChangeAt Go.RowKit
open Me Np No
set_option linter.unusedVariables false
set_option linter.unusedSimpArgs false

/-- A maker's cells: a node; totals; is it empty? how bad, by how much too full, what went wrong. -/
def mkc (n : Nd) (x a b c d p q r s : Int) (em : Bool) (bad ov wr : Int) : Array Value := #[.int .i64 n.kind, .int .i64 n.font, .int .u8 n.char, .int .i64 n.wd, .int .i64 n.ht, .int .i64 n.dp, .int .i64 n.shift, .int .i64 n.gn, .int .i64 n.gs, .int .i64 n.gh, .int .i64 n.ga, .int .i64 n.gb, .int .i64 n.sign, .int .i64 n.order, .int .i64 n.num, .int .i64 n.den, .int .i64 n.pen, .int .i64 n.sub, .string n.text,
  .int .i64 x, .int .i64 a, .int .i64 b, .int .i64 c, .int .i64 d, .int .i64 p, .int .i64 q, .int .i64 r, .int .i64 s, .bool em, .int .i64 bad, .int .i64 ov, .int .i64 wr]
theorem held_min {t : Int} (h : 0 ≤ t) : min t 2147483647 = held t := by
  unfold held
  rw [if_neg (by omega)]
  split <;> omega
theorem held_max {a : Int} : min (max 0 a) 2147483647 = held a := by
  unfold held
  split
  · omega
  · split <;> omega
theorem held_held (a : Int) : held (max 0 a) = held a := by
  unfold held
  split
  · omega
  · split
    · split
      · omega
      · split <;> omega
    · split
      · omega
      · split <;> omega
open Sc in
set_option maxRecDepth 100000 in
theorem badness_any (t s : Int) (w : World) (ht : 0 ≤ t) (hs : 0 ≤ s) : Calls Tryz.prog 152 #[.int .i64 t, .int .i64 s] w fun e w' => e = .returned (.int .i64 (bdV (held t) (held s))) ∧ Below w.heap.size w w' := by
  have HS := Lib.hid (held_min hs)
  by_cases h : 2147483647 < t
  · have hh : held t = 2147483647 := by unfold held; rw [if_neg (by omega), if_pos h]
    rw [hh]
    go_enter Tryz.func152, Tryz.ntmps152
    go_wp2_with (first | (go_at_call 181; refine (Ss.bad_any _ _ _).mono ?_; rintro e w' ⟨rfl, hb⟩))
    go_ret
    exact ⟨by rw [HS.out]; rfl, hb⟩
  · have hh : held t = t := by unfold held; rw [if_neg (by omega), if_neg h]
    rw [hh]
    go_enter Tryz.func152, Tryz.ntmps152
    go_wp2_with (first | (go_at_call 181; refine (Ss.bad_any _ _ _).mono ?_; rintro e w' ⟨rfl, hb⟩))
    go_ret
    exact ⟨by rw [HS.out]; rfl, hb⟩
theorem grown_blk {w w' : World} {g : Nat} {r : Option Nat} (hb : Below w.heap.size w w') : w.grownBy w' r := ⟨hb.os, hb.tape, hb.output, hb.size, fun k hk _ => hb.block k hk⟩
theorem grown_trans {w a b : World} {r : Option Nat} (h : w.grownBy a r) (k : a.grownBy b r) : w.grownBy b r :=
  ⟨k.os.trans h.os, k.tape.trans h.tape, k.output.trans h.output, Nat.le_trans h.size k.size, fun q hq hne => (k.block q (by have := h.size; omega) hne).trans (h.block q hq hne)⟩
theorem grown_set (w : World) (g j : Nat) (u : Value) : w.grownBy (w.setCell ⟨g, j, none⟩ u) (some g) := ⟨rfl, rfl, rfl, by simp, fun k _ hk => heap_setCell_other w ⟨g, j, none⟩ k u (fun e => hk (by simp [e]))⟩
/-- A maker in memory. -/
def Mk (w : World) (g : Nat) (n : Nd) (x a b c d p q r s : Int) (em : Bool) (bad ov wr : Int) : Prop := Blk w g 111 (mkc n x a b c d p q r s em bad ov wr)
theorem Mk.below {w w' : World} {g : Nat} {n : Nd} {x a b c d p q r s : Int} {em : Bool} {bad ov wr : Int} (h : Mk w g n x a b c d p q r s em bad ov wr) (hb : Below w.heap.size w w') : Mk w' g n x a b c d p q r s em bad ov wr := Blk.below h hb h.lt
theorem Mk.bad {w : World} {g : Nat} {n : Nd} {x a b c d p q r s : Int} {em : Bool} {bad ov wr : Int} (h : Mk w g n x a b c d p q r s em bad ov wr) (z : Int) : Mk (w.setCell ⟨g, 29, none⟩ (.int .i64 z)) g n x a b c d p q r s em z ov wr := Blk.set h 29 (.int .i64 z)
theorem Mk.ov {w : World} {g : Nat} {n : Nd} {x a b c d p q r s : Int} {em : Bool} {bad ov wr : Int} (h : Mk w g n x a b c d p q r s em bad ov wr) (z : Int) : Mk (w.setCell ⟨g, 30, none⟩ (.int .i64 z)) g n x a b c d p q r s em bad z wr := Blk.set h 30 (.int .i64 z)
/-- How bad, where it is stretched. -/
def looseV (n : Nd) (a t bad : Int) : Int := if n.sign = 1 ∧ 0 < n.order then bad else Sc.bdV (held t) (held a)
set_option maxRecDepth 100000 in
set_option maxHeartbeats 1000000 in
theorem loose_any (g : Nat) (n : Nd) (x a b c d p q r s : Int) (em : Bool) (bad ov wr t : Int) (w : World) (hg : Mk w g n x a b c d p q r s em bad ov wr) (ht : 0 ≤ t) :
    Calls Tryz.prog 82 #[.pointer (some ⟨g, 0, none⟩), .int .i64 t] w fun e w' => e = .returned (.tuple #[]) ∧ Mk w' g n x a b c d p q r s em (looseV n a t bad) ov wr ∧ w.grownBy w' (some g) := by
  have hc12 : w.cell? ⟨g, 12, none⟩ = some (.int .i64 n.sign) := Blk.cell hg 12
  have hc13 : w.cell? ⟨g, 13, none⟩ = some (.int .i64 n.order) := Blk.cell hg 13
  have hc20 : w.cell? ⟨g, 20, none⟩ = some (.int .i64 a) := Blk.cell hg 20
  have HG := Lib.hid hg
  by_cases h1 : n.sign = 1
  · by_cases h2 : 0 < n.order
    · have HE := Lib.hid (show looseV n a t bad = bad from if_pos ⟨h1, h2⟩)
      clear hg
      go_enter Tryz.func82, Tryz.ntmps82
      go_wp2_with fail
      go_returns
      exact ⟨rfl, by rw [HE.out]; exact HG.out, grown_blk (g := g) (Below.refl _ _)⟩
    · have HE := Lib.hid (show looseV n a t bad = Sc.bdV (held t) (held a) from if_neg (fun hh => h2 hh.2))
      clear hg
      go_enter Tryz.func82, Tryz.ntmps82
      go_wp2_with (first | (go_at_call 152; refine (badness_any _ _ _ ht (by omega)).mono ?_; rintro e w2 ⟨rfl, hb2⟩; have HB2 := Lib.hid hb2; have hm2 := HG.out.below hb2; have hf2 := Blk.free hm2 29; have hd2 : w2.cell? ⟨g, 29, none⟩ = some (.int .i64 bad) := Blk.cell hm2 29; have HM2 := Lib.hid hm2; clear hm2 hb2))
      go_end0
      exact ⟨rfl, by rw [HE.out, ← held_held a]; exact HM2.out.bad _, grown_trans (grown_blk (g := g) HB2.out) (grown_set _ _ _ _)⟩
  · have HE := Lib.hid (show looseV n a t bad = Sc.bdV (held t) (held a) from if_neg (fun hh => h1 hh.1))
    clear hg
    go_enter Tryz.func82, Tryz.ntmps82
    go_wp2_with (first | (go_at_call 152; refine (badness_any _ _ _ ht (by omega)).mono ?_; rintro e w2 ⟨rfl, hb2⟩; have HB2 := Lib.hid hb2; have hm2 := HG.out.below hb2; have hf2 := Blk.free hm2 29; have hd2 : w2.cell? ⟨g, 29, none⟩ = some (.int .i64 bad) := Blk.cell hm2 29; have HM2 := Lib.hid hm2; clear hm2 hb2))
    go_end0
    exact ⟨rfl, by rw [HE.out, ← held_held a]; exact HM2.out.bad _, grown_trans (grown_blk (g := g) HB2.out) (grown_set _ _ _ _)⟩
/-- How bad, and by how much too full, where it is shrunk. -/
def tightV (n : Nd) (p t : Int) (z : Int × Int) : Int × Int := if n.sign = 2 ∧ 0 < n.order then z else if max 0 p < t then (1000000, t - max 0 p) else (Sc.bdV (held t) (held p), z.2)
set_option maxRecDepth 100000 in
set_option maxHeartbeats 1000000 in
theorem tight_any (g : Nat) (n : Nd) (x a b c d p q r s : Int) (em : Bool) (bad ov wr t : Int) (w : World) (hg : Mk w g n x a b c d p q r s em bad ov wr) (ht : 0 ≤ t) (ht2 : t ≤ 9223372036854775807) :
    Calls Tryz.prog 83 #[.pointer (some ⟨g, 0, none⟩), .int .i64 t] w fun e w' => e = .returned (.tuple #[]) ∧ Mk w' g n x a b c d p q r s em (tightV n p t (bad, ov)).1 (tightV n p t (bad, ov)).2 wr ∧ w.grownBy w' (some g) := by
  have hc12 : w.cell? ⟨g, 12, none⟩ = some (.int .i64 n.sign) := Blk.cell hg 12
  have hc13 : w.cell? ⟨g, 13, none⟩ = some (.int .i64 n.order) := Blk.cell hg 13
  have hc24 : w.cell? ⟨g, 24, none⟩ = some (.int .i64 p) := Blk.cell hg 24
  have hc29 : w.cell? ⟨g, 29, none⟩ = some (.int .i64 bad) := Blk.cell hg 29
  have hc30 : w.cell? ⟨g, 30, none⟩ = some (.int .i64 ov) := Blk.cell hg 30
  have hf29 := Blk.free hg 29
  have hf30 := Blk.free hg 30
  have HG := Lib.hid hg
  have HP := Lib.hid (held_held p)
  by_cases hso : n.sign = 2 ∧ 0 < n.order
  · obtain ⟨h1, h2⟩ := hso
    have HE := Lib.hid (show tightV n p t (bad, ov) = (bad, ov) from if_pos ⟨h1, h2⟩)
    clear hg
    go_enter Tryz.func83, Tryz.ntmps83
    go_wp2_with fail
    go_returns
    exact ⟨rfl, by rw [HE.out]; exact HG.out, grown_blk (g := g) (Below.refl _ _)⟩
  · have hb1 : ((n.sign == 2) && decide (0 < n.order)) = false := by
      cases e : (n.sign == 2) && decide (0 < n.order)
      · rfl
      · simp only [Bool.and_eq_true, beq_iff_eq, decide_eq_true_eq] at e
        exact absurd e hso
    have HSO := Lib.hid hso
    have h12 : ¬ n.sign = 2 ∨ (n.sign = 2 ∧ n.order ≤ 0) := by
      by_cases h1 : n.sign = 2
      · exact .inr ⟨h1, by have : ¬ 0 < n.order := fun h => hso ⟨h1, h⟩; omega⟩
      · exact .inl h1
    clear hso hb1
    by_cases hlt : max 0 p < t
    · have HE := Lib.hid (show tightV n p t (bad, ov) = (1000000, t - max 0 p) by unfold tightV; rw [if_neg HSO.out, if_pos hlt])
      have hmx : 0 ≤ max 0 p := by omega
      clear hg
      rcases h12 with h1 | ⟨h1, h2⟩
      all_goals
        go_enter Tryz.func83, Tryz.ntmps83
        go_wp2_with fail
        go_returns
        exact ⟨rfl, by rw [HE.out]; exact (HG.out.bad _).ov _, grown_trans (grown_set _ _ _ _) (grown_set _ _ _ _)⟩
    · have HE := Lib.hid (show tightV n p t (bad, ov) = (Sc.bdV (held t) (held p), ov) by unfold tightV; rw [if_neg HSO.out, if_neg hlt])
      have hmx : 0 ≤ max 0 p := by omega
      clear hg
      rcases h12 with h1 | ⟨h1, h2⟩
      all_goals
        go_enter Tryz.func83, Tryz.ntmps83
        go_wp2_with (first | (go_at_call 152; refine (badness_any _ _ _ ht hmx).mono ?_; rintro e w2 ⟨rfl, hb2⟩; have HB2 := Lib.hid hb2; have hm2 := HG.out.below hb2; have hf2 := Blk.free hm2 29; have hd2 : w2.cell? ⟨g, 29, none⟩ = some (.int .i64 bad) := Blk.cell hm2 29; have HM2 := Lib.hid hm2; clear hm2 hb2))
        go_end0
        exact ⟨rfl, by rw [HE.out, ← HP.out]; exact HM2.out.bad _, grown_trans (grown_blk (g := g) HB2.out) (grown_set _ _ _ _)⟩
end Go.Proofs.YtoboecenlangmaaGreat.Pk
end
section
namespace Go.Proofs.YtoboecenlangmaaGreat.Gl
open Go.ChangeShapes Go.WideShapes Go.ChangeAt Go.RowKit

theorem ret_bool {a b : Bool} (h : a = b) : Ending.returned (.bool a) = .returned (.bool b) := by rw [h]
theorem ret_int {k : IntKind} {a b : Int} (h : a = b) : Ending.returned (.int k a) = .returned (.int k b) := by rw [h]
theorem ret_two {k l : IntKind} {a b c d : Int} (h : a = b) (h' : c = d) : Ending.returned (.tuple #[.int k a, .int l c]) = .returned (.tuple #[.int k b, .int l d]) := by rw [h, h']
theorem ret_intbool {k : IntKind} {a b : Int} {c d : Bool} (h : a = b) (h' : c = d) : Ending.returned (.tuple #[.int k a, .bool c]) = .returned (.tuple #[.int k b, .bool d]) := by rw [h, h']
theorem and_one_i64 (x : Int) (h0 : 0 ≤ x) (h1 : x ≤ 9223372036854775807) : bits .and .i64 x 1 = x % 2 := by
  obtain ⟨a, rfl⟩ := Int.eq_ofNat_of_zero_le h0
  have ha : (BitVec.ofInt 64 (a : Int)).toNat = a := by
    rw [BitVec.ofInt_natCast, BitVec.toNat_ofNat]; exact Nat.mod_eq_of_lt (by omega)
  show IntKind.i64.wrap ((BitVec.ofInt 64 (a : Int) &&& BitVec.ofInt 64 1).toNat : Int) = _
  rw [BitVec.toNat_and, ha, show (BitVec.ofInt 64 1).toNat = 1 from rfl, Nat.and_one_is_mod, IntKind.wrap_i64]
  omega
theorem near_any (x : Int) (w : World) :
    Calls Tryz.prog 150 #[.int .i64 x] w fun e w' => e = .returned (.bool (nearB x)) ∧ w = w' := by
  by_cases h0 : -70368744177664 ≤ x
  · by_cases h1 : x ≤ 70368744177664
    · go_enter Tryz.func150, Tryz.ntmps150
      go_wp2
      go_ret
      exact ⟨ret_bool (nearB_yes h0 h1).symm, rfl⟩
    · go_enter Tryz.func150, Tryz.ntmps150
      go_wp2
      go_ret
      exact ⟨ret_bool (nearB_no (by omega)).symm, rfl⟩
  · go_enter Tryz.func150, Tryz.ntmps150
    go_wp2
    go_ret
    exact ⟨ret_bool (nearB_no (by omega)).symm, rfl⟩
end Go.Proofs.YtoboecenlangmaaGreat.Gl
end
section
namespace Go.Proofs.YtoboecenlangmaaGreat.Gl
open Go.ChangeShapes Go.WideShapes Go.ChangeAt Go.RowKit
open Me
set_option linter.unusedVariables false

theorem great_any (a b c d : Int) (w : World) :
    Calls Tryz.prog 151 #[.agg #[.int .i64 a, .int .i64 b, .int .i64 c, .int .i64 d]] w fun e w' =>
      e = .returned (.int .i64 (great a b c d)) ∧ w.alloc (.cells #[.int .i64 a, .int .i64 b, .int .i64 c, .int .i64 d] 107) = w' := by
  rcases great_cases a b c d with ⟨e, h⟩ | ⟨e, h⟩ | ⟨e, h⟩ | ⟨e, h⟩ | ⟨e, h⟩
  all_goals
    rw [e]
    go_enter Tryz.func151, Tryz.ntmps151
    go_wp2_with fail
    go_rounds 5
    go_ret
    exact ⟨rfl, rfl⟩

theorem fit_bad0 (n a b c d p q r s ex : Int) (w : World) (e0 : nearB ex = false) : Calls Tryz.prog 81 #[.agg #[.int .i64 n, .int .i64 a, .int .i64 b, .int .i64 c, .int .i64 d, .int .i64 p, .int .i64 q, .int .i64 r, .int .i64 s], .int .i64 ex] w fun e w' => e = .returned (.tuple #[.int .i64 0, .int .i64 0, .int .i64 0, .int .i64 0, .int .i64 11]) ∧ Below w.heap.size w w' := by
  go_enter Tryz.func81, Tryz.ntmps81
  go_wp2_with (go_at_call 150; refine (near_any _ _).mono ?_; rintro e w' ⟨rfl, rfl⟩)
  refine bodyPost_ret (v := .tuple #[.int .i64 (0), .int .i64 (0), .int .i64 (0), .int .i64 (0), .int .i64 (11)]) (by simp [results, Tryz.results81, go_sem]) rfl ⟨rfl, (by repeat (first | exact Below.refl _ _ | refine Below.drew ?_ | refine below_drewN ?_ _ | refine Below.alloc ?_ (by first | exact Nat.le_refl _ | (simp; done) | (simp; omega)) _ | refine Below.setCell ?_ (by first | exact Nat.le_refl _ | (simp; done) | (simp; omega)) _))⟩

theorem fit_bad1 (n a b c d p q r s ex : Int) (w : World) (e0 : nearB ex = true) (e1 : nearB a = false) : Calls Tryz.prog 81 #[.agg #[.int .i64 n, .int .i64 a, .int .i64 b, .int .i64 c, .int .i64 d, .int .i64 p, .int .i64 q, .int .i64 r, .int .i64 s], .int .i64 ex] w fun e w' => e = .returned (.tuple #[.int .i64 0, .int .i64 0, .int .i64 0, .int .i64 0, .int .i64 11]) ∧ Below w.heap.size w w' := by
  go_enter Tryz.func81, Tryz.ntmps81
  go_wp2_with (go_at_call 150; refine (near_any _ _).mono ?_; rintro e w' ⟨rfl, rfl⟩)
  refine wp_loop_rounds 5 ?_
  repeat any_goals (rw [rounds_succ]; go_wp2_with (go_at_call 150; refine (near_any _ _).mono ?_; rintro e w' ⟨rfl, rfl⟩))
  refine bodyPost_ret (v := .tuple #[.int .i64 (0), .int .i64 (0), .int .i64 (0), .int .i64 (0), .int .i64 (11)]) (by simp [results, Tryz.results81, go_sem]) rfl ⟨rfl, (by repeat (first | exact Below.refl _ _ | refine Below.drew ?_ | refine below_drewN ?_ _ | refine Below.alloc ?_ (by first | exact Nat.le_refl _ | (simp; done) | (simp; omega)) _ | refine Below.setCell ?_ (by first | exact Nat.le_refl _ | (simp; done) | (simp; omega)) _))⟩

theorem fit_bad2 (n a b c d p q r s ex : Int) (w : World) (e0 : nearB ex = true) (e1 : nearB a = true) (e2 : nearB p = false) : Calls Tryz.prog 81 #[.agg #[.int .i64 n, .int .i64 a, .int .i64 b, .int .i64 c, .int .i64 d, .int .i64 p, .int .i64 q, .int .i64 r, .int .i64 s], .int .i64 ex] w fun e w' => e = .returned (.tuple #[.int .i64 0, .int .i64 0, .int .i64 0, .int .i64 0, .int .i64 11]) ∧ Below w.heap.size w w' := by
  go_enter Tryz.func81, Tryz.ntmps81
  go_wp2_with (go_at_call 150; refine (near_any _ _).mono ?_; rintro e w' ⟨rfl, rfl⟩)
  refine wp_loop_rounds 5 ?_
  repeat any_goals (rw [rounds_succ]; go_wp2_with (go_at_call 150; refine (near_any _ _).mono ?_; rintro e w' ⟨rfl, rfl⟩))
  refine bodyPost_ret (v := .tuple #[.int .i64 (0), .int .i64 (0), .int .i64 (0), .int .i64 (0), .int .i64 (11)]) (by simp [results, Tryz.results81, go_sem]) rfl ⟨rfl, (by repeat (first | exact Below.refl _ _ | refine Below.drew ?_ | refine below_drewN ?_ _ | refine Below.alloc ?_ (by first | exact Nat.le_refl _ | (simp; done) | (simp; omega)) _ | refine Below.setCell ?_ (by first | exact Nat.le_refl _ | (simp; done) | (simp; omega)) _))⟩

theorem fit_bad3 (n a b c d p q r s ex : Int) (w : World) (e0 : nearB ex = true) (e1 : nearB a = true) (e2 : nearB p = true) (e3 : nearB b = false) : Calls Tryz.prog 81 #[.agg #[.int .i64 n, .int .i64 a, .int .i64 b, .int .i64 c, .int .i64 d, .int .i64 p, .int .i64 q, .int .i64 r, .int .i64 s], .int .i64 ex] w fun e w' => e = .returned (.tuple #[.int .i64 0, .int .i64 0, .int .i64 0, .int .i64 0, .int .i64 11]) ∧ Below w.heap.size w w' := by
  go_enter Tryz.func81, Tryz.ntmps81
  go_wp2_with (go_at_call 150; refine (near_any _ _).mono ?_; rintro e w' ⟨rfl, rfl⟩)
  refine wp_loop_rounds 5 ?_
  repeat any_goals (rw [rounds_succ]; go_wp2_with (go_at_call 150; refine (near_any _ _).mono ?_; rintro e w' ⟨rfl, rfl⟩))
  refine bodyPost_ret (v := .tuple #[.int .i64 (0), .int .i64 (0), .int .i64 (0), .int .i64 (0), .int .i64 (11)]) (by simp [results, Tryz.results81, go_sem]) rfl ⟨rfl, (by repeat (first | exact Below.refl _ _ | refine Below.drew ?_ | refine below_drewN ?_ _ | refine Below.alloc ?_ (by first | exact Nat.le_refl _ | (simp; done) | (simp; omega)) _ | refine Below.setCell ?_ (by first | exact Nat.le_refl _ | (simp; done) | (simp; omega)) _))⟩

theorem fit_bad4 (n a b c d p q r s ex : Int) (w : World) (e0 : nearB ex = true) (e1 : nearB a = true) (e2 : nearB p = true) (e3 : nearB b = true) (e4 : nearB q = false) : Calls Tryz.prog 81 #[.agg #[.int .i64 n, .int .i64 a, .int .i64 b, .int .i64 c, .int .i64 d, .int .i64 p, .int .i64 q, .int .i64 r, .int .i64 s], .int .i64 ex] w fun e w' => e = .returned (.tuple #[.int .i64 0, .int .i64 0, .int .i64 0, .int .i64 0, .int .i64 11]) ∧ Below w.heap.size w w' := by
  go_enter Tryz.func81, Tryz.ntmps81
  go_wp2_with (go_at_call 150; refine (near_any _ _).mono ?_; rintro e w' ⟨rfl, rfl⟩)
  refine wp_loop_rounds 5 ?_
  repeat any_goals (rw [rounds_succ]; go_wp2_with (go_at_call 150; refine (near_any _ _).mono ?_; rintro e w' ⟨rfl, rfl⟩))
  refine bodyPost_ret (v := .tuple #[.int .i64 (0), .int .i64 (0), .int .i64 (0), .int .i64 (0), .int .i64 (11)]) (by simp [results, Tryz.results81, go_sem]) rfl ⟨rfl, (by repeat (first | exact Below.refl _ _ | refine Below.drew ?_ | refine below_drewN ?_ _ | refine Below.alloc ?_ (by first | exact Nat.le_refl _ | (simp; done) | (simp; omega)) _ | refine Below.setCell ?_ (by first | exact Nat.le_refl _ | (simp; done) | (simp; omega)) _))⟩

theorem fit_bad5 (n a b c d p q r s ex : Int) (w : World) (e0 : nearB ex = true) (e1 : nearB a = true) (e2 : nearB p = true) (e3 : nearB b = true) (e4 : nearB q = true) (e5 : nearB c = false) : Calls Tryz.prog 81 #[.agg #[.int .i64 n, .int .i64 a, .int .i64 b, .int .i64 c, .int .i64 d, .int .i64 p, .int .i64 q, .int .i64 r, .int .i64 s], .int .i64 ex] w fun e w' => e = .returned (.tuple #[.int .i64 0, .int .i64 0, .int .i64 0, .int .i64 0, .int .i64 11]) ∧ Below w.heap.size w w' := by
  go_enter Tryz.func81, Tryz.ntmps81
  go_wp2_with (go_at_call 150; refine (near_any _ _).mono ?_; rintro e w' ⟨rfl, rfl⟩)
  refine wp_loop_rounds 5 ?_
  repeat any_goals (rw [rounds_succ]; go_wp2_with (go_at_call 150; refine (near_any _ _).mono ?_; rintro e w' ⟨rfl, rfl⟩))
  refine bodyPost_ret (v := .tuple #[.int .i64 (0), .int .i64 (0), .int .i64 (0), .int .i64 (0), .int .i64 (11)]) (by simp [results, Tryz.results81, go_sem]) rfl ⟨rfl, (by repeat (first | exact Below.refl _ _ | refine Below.drew ?_ | refine below_drewN ?_ _ | refine Below.alloc ?_ (by first | exact Nat.le_refl _ | (simp; done) | (simp; omega)) _ | refine Below.setCell ?_ (by first | exact Nat.le_refl _ | (simp; done) | (simp; omega)) _))⟩

theorem fit_bad6 (n a b c d p q r s ex : Int) (w : World) (e0 : nearB ex = true) (e1 : nearB a = true) (e2 : nearB p = true) (e3 : nearB b = true) (e4 : nearB q = true) (e5 : nearB c = true) (e6 : nearB r = false) : Calls Tryz.prog 81 #[.agg #[.int .i64 n, .int .i64 a, .int .i64 b, .int .i64 c, .int .i64 d, .int .i64 p, .int .i64 q, .int .i64 r, .int .i64 s], .int .i64 ex] w fun e w' => e = .returned (.tuple #[.int .i64 0, .int .i64 0, .int .i64 0, .int .i64 0, .int .i64 11]) ∧ Below w.heap.size w w' := by
  go_enter Tryz.func81, Tryz.ntmps81
  go_wp2_with (go_at_call 150; refine (near_any _ _).mono ?_; rintro e w' ⟨rfl, rfl⟩)
  refine wp_loop_rounds 5 ?_
  repeat any_goals (rw [rounds_succ]; go_wp2_with (go_at_call 150; refine (near_any _ _).mono ?_; rintro e w' ⟨rfl, rfl⟩))
  refine bodyPost_ret (v := .tuple #[.int .i64 (0), .int .i64 (0), .int .i64 (0), .int .i64 (0), .int .i64 (11)]) (by simp [results, Tryz.results81, go_sem]) rfl ⟨rfl, (by repeat (first | exact Below.refl _ _ | refine Below.drew ?_ | refine below_drewN ?_ _ | refine Below.alloc ?_ (by first | exact Nat.le_refl _ | (simp; done) | (simp; omega)) _ | refine Below.setCell ?_ (by first | exact Nat.le_refl _ | (simp; done) | (simp; omega)) _))⟩

theorem fit_bad7 (n a b c d p q r s ex : Int) (w : World) (e0 : nearB ex = true) (e1 : nearB a = true) (e2 : nearB p = true) (e3 : nearB b = true) (e4 : nearB q = true) (e5 : nearB c = true) (e6 : nearB r = true) (e7 : nearB d = false) : Calls Tryz.prog 81 #[.agg #[.int .i64 n, .int .i64 a, .int .i64 b, .int .i64 c, .int .i64 d, .int .i64 p, .int .i64 q, .int .i64 r, .int .i64 s], .int .i64 ex] w fun e w' => e = .returned (.tuple #[.int .i64 0, .int .i64 0, .int .i64 0, .int .i64 0, .int .i64 11]) ∧ Below w.heap.size w w' := by
  go_enter Tryz.func81, Tryz.ntmps81
  go_wp2_with (go_at_call 150; refine (near_any _ _).mono ?_; rintro e w' ⟨rfl, rfl⟩)
  refine wp_loop_rounds 5 ?_
  repeat any_goals (rw [rounds_succ]; go_wp2_with (go_at_call 150; refine (near_any _ _).mono ?_; rintro e w' ⟨rfl, rfl⟩))
  refine bodyPost_ret (v := .tuple #[.int .i64 (0), .int .i64 (0), .int .i64 (0), .int .i64 (0), .int .i64 (11)]) (by simp [results, Tryz.results81, go_sem]) rfl ⟨rfl, (by repeat (first | exact Below.refl _ _ | refine Below.drew ?_ | refine below_drewN ?_ _ | refine Below.alloc ?_ (by first | exact Nat.le_refl _ | (simp; done) | (simp; omega)) _ | refine Below.setCell ?_ (by first | exact Nat.le_refl _ | (simp; done) | (simp; omega)) _))⟩

theorem fit_bad8 (n a b c d p q r s ex : Int) (w : World) (e0 : nearB ex = true) (e1 : nearB a = true) (e2 : nearB p = true) (e3 : nearB b = true) (e4 : nearB q = true) (e5 : nearB c = true) (e6 : nearB r = true) (e7 : nearB d = true) (e8 : nearB s = false) : Calls Tryz.prog 81 #[.agg #[.int .i64 n, .int .i64 a, .int .i64 b, .int .i64 c, .int .i64 d, .int .i64 p, .int .i64 q, .int .i64 r, .int .i64 s], .int .i64 ex] w fun e w' => e = .returned (.tuple #[.int .i64 0, .int .i64 0, .int .i64 0, .int .i64 0, .int .i64 11]) ∧ Below w.heap.size w w' := by
  go_enter Tryz.func81, Tryz.ntmps81
  go_wp2_with (go_at_call 150; refine (near_any _ _).mono ?_; rintro e w' ⟨rfl, rfl⟩)
  refine wp_loop_rounds 5 ?_
  repeat any_goals (rw [rounds_succ]; go_wp2_with (go_at_call 150; refine (near_any _ _).mono ?_; rintro e w' ⟨rfl, rfl⟩))
  refine bodyPost_ret (v := .tuple #[.int .i64 (0), .int .i64 (0), .int .i64 (0), .int .i64 (0), .int .i64 (11)]) (by simp [results, Tryz.results81, go_sem]) rfl ⟨rfl, (by repeat (first | exact Below.refl _ _ | refine Below.drew ?_ | refine below_drewN ?_ _ | refine Below.alloc ?_ (by first | exact Nat.le_refl _ | (simp; done) | (simp; omega)) _ | refine Below.setCell ?_ (by first | exact Nat.le_refl _ | (simp; done) | (simp; omega)) _))⟩

theorem fit_zero (n a b c d p q r s : Int) (w : World) (e0 : nearB 0 = true) (e1 : nearB a = true) (e2 : nearB p = true) (e3 : nearB b = true) (e4 : nearB q = true) (e5 : nearB c = true) (e6 : nearB r = true) (e7 : nearB d = true) (e8 : nearB s = true) : Calls Tryz.prog 81 #[.agg #[.int .i64 n, .int .i64 a, .int .i64 b, .int .i64 c, .int .i64 d, .int .i64 p, .int .i64 q, .int .i64 r, .int .i64 s], .int .i64 0] w fun e w' => e = .returned (.tuple #[.int .i64 0, .int .i64 0, .int .i64 0, .int .i64 0, .int .i64 0]) ∧ Below w.heap.size w w' := by
  go_enter Tryz.func81, Tryz.ntmps81
  go_wp2_with (go_at_call 150; refine (near_any _ _).mono ?_; rintro e w' ⟨rfl, rfl⟩)
  refine wp_loop_rounds 5 ?_
  repeat any_goals (rw [rounds_succ]; go_wp2_with (go_at_call 150; refine (near_any _ _).mono ?_; rintro e w' ⟨rfl, rfl⟩))
  go_region
  go_wp2_with (go_at_call 151; refine (great_any _ _ _ _ _).mono ?_; rintro e w' ⟨rfl, rfl⟩)
  refine bodyPost_ret (v := .tuple #[.int .i64 (0), .int .i64 (0), .int .i64 (0), .int .i64 (0), .int .i64 (0)]) (by simp [results, Tryz.results81, go_sem]) rfl ⟨rfl, (by repeat (first | exact Below.refl _ _ | refine Below.drew ?_ | refine below_drewN ?_ _ | refine Below.alloc ?_ (by first | exact Nat.le_refl _ | (simp; done) | (simp; omega)) _ | refine Below.setCell ?_ (by first | exact Nat.le_refl _ | (simp; done) | (simp; omega)) _))⟩

theorem fit_upm (n a b c d p q r s ex : Int) (w : World) (e0 : nearB ex = true) (e1 : nearB a = true) (e2 : nearB p = true) (e3 : nearB b = true) (e4 : nearB q = true) (e5 : nearB c = true) (e6 : nearB r = true) (e7 : nearB d = true) (e8 : nearB s = true) (hx0 : -70368744177664 ≤ ex) (hx : 0 < ex) (hg : great a b c d = -1) : Calls Tryz.prog 81 #[.agg #[.int .i64 n, .int .i64 a, .int .i64 b, .int .i64 c, .int .i64 d, .int .i64 p, .int .i64 q, .int .i64 r, .int .i64 s], .int .i64 ex] w fun e w' => e = .returned (.tuple #[.int .i64 (fit a b c d p q r s ex).1, .int .i64 (fit a b c d p q r s ex).2.1, .int .i64 (fit a b c d p q r s ex).2.2.1, .int .i64 (fit a b c d p q r s ex).2.2.2, .int .i64 0]) ∧ Below w.heap.size w w' := by
  have hf : fit a b c d p q r s ex = (0, 0, 0, 0) := by simp [fit, hx, hg]
  rw [hf]
  clear hf
  go_enter Tryz.func81, Tryz.ntmps81
  go_wp2_with (go_at_call 150; refine (near_any _ _).mono ?_; rintro e w' ⟨rfl, rfl⟩)
  refine wp_loop_rounds 5 ?_
  repeat any_goals (rw [rounds_succ]; go_wp2_with (go_at_call 150; refine (near_any _ _).mono ?_; rintro e w' ⟨rfl, rfl⟩))
  go_region
  go_wp2_with fail
  go_wp2_with (go_at_call 151; refine (great_any _ _ _ _ _).mono ?_; rintro e w' ⟨rfl, rfl⟩)
  refine bodyPost_ret (v := .tuple #[.int .i64 (0), .int .i64 (0), .int .i64 (0), .int .i64 (0), .int .i64 (0)]) (by simp [results, Tryz.results81, go_sem]) rfl ⟨rfl, (by repeat (first | exact Below.refl _ _ | refine Below.drew ?_ | refine below_drewN ?_ _ | refine Below.alloc ?_ (by first | exact Nat.le_refl _ | (simp; done) | (simp; omega)) _ | refine Below.setCell ?_ (by first | exact Nat.le_refl _ | (simp; done) | (simp; omega)) _))⟩

theorem fit_downm (n a b c d p q r s ex : Int) (w : World) (e0 : nearB ex = true) (e1 : nearB a = true) (e2 : nearB p = true) (e3 : nearB b = true) (e4 : nearB q = true) (e5 : nearB c = true) (e6 : nearB r = true) (e7 : nearB d = true) (e8 : nearB s = true) (hx0 : -70368744177664 ≤ ex) (hx : ex < 0) (hg : great p q r s = -1) : Calls Tryz.prog 81 #[.agg #[.int .i64 n, .int .i64 a, .int .i64 b, .int .i64 c, .int .i64 d, .int .i64 p, .int .i64 q, .int .i64 r, .int .i64 s], .int .i64 ex] w fun e w' => e = .returned (.tuple #[.int .i64 (fit a b c d p q r s ex).1, .int .i64 (fit a b c d p q r s ex).2.1, .int .i64 (fit a b c d p q r s ex).2.2.1, .int .i64 (fit a b c d p q r s ex).2.2.2, .int .i64 0]) ∧ Below w.heap.size w w' := by
  have hf : fit a b c d p q r s ex = (0, 0, 0, 0) := by simp [fit, hx, hg, show ¬ 0 < ex by omega]
  rw [hf]
  clear hf
  go_enter Tryz.func81, Tryz.ntmps81
  go_wp2_with (go_at_call 150; refine (near_any _ _).mono ?_; rintro e w' ⟨rfl, rfl⟩)
  refine wp_loop_rounds 5 ?_
  repeat any_goals (rw [rounds_succ]; go_wp2_with (go_at_call 150; refine (near_any _ _).mono ?_; rintro e w' ⟨rfl, rfl⟩))
  go_region
  go_wp2_with fail
  go_region
  go_wp2_with (go_at_call 151; refine (great_any _ _ _ _ _).mono ?_; rintro e w' ⟨rfl, rfl⟩)
  refine bodyPost_ret (v := .tuple #[.int .i64 (0), .int .i64 (0), .int .i64 (0), .int .i64 (0), .int .i64 (0)]) (by simp [results, Tryz.results81, go_sem]) rfl ⟨rfl, (by repeat (first | exact Below.refl _ _ | refine Below.drew ?_ | refine below_drewN ?_ _ | refine Below.alloc ?_ (by first | exact Nat.le_refl _ | (simp; done) | (simp; omega)) _ | refine Below.setCell ?_ (by first | exact Nat.le_refl _ | (simp; done) | (simp; omega)) _))⟩

theorem fit_up0 (n a b c d p q r s ex : Int) (w : World) (e0 : nearB ex = true) (e1 : nearB a = true) (e2 : nearB p = true) (e3 : nearB b = true) (e4 : nearB q = true) (e5 : nearB c = true) (e6 : nearB r = true) (e7 : nearB d = true) (e8 : nearB s = true) (hx0 : -70368744177664 ≤ ex) (hx : 0 < ex) (hg : great a b c d = 0) : Calls Tryz.prog 81 #[.agg #[.int .i64 n, .int .i64 a, .int .i64 b, .int .i64 c, .int .i64 d, .int .i64 p, .int .i64 q, .int .i64 r, .int .i64 s], .int .i64 ex] w fun e w' => e = .returned (.tuple #[.int .i64 (fit a b c d p q r s ex).1, .int .i64 (fit a b c d p q r s ex).2.1, .int .i64 (fit a b c d p q r s ex).2.2.1, .int .i64 (fit a b c d p q r s ex).2.2.2, .int .i64 0]) ∧ Below w.heap.size w w' := by
  have hf : fit a b c d p q r s ex = (1, 0, ex, a) := by simp [fit, hx, hg, pick4]
  rw [hf]
  clear hf
  go_enter Tryz.func81, Tryz.ntmps81
  go_wp2_with (go_at_call 150; refine (near_any _ _).mono ?_; rintro e w' ⟨rfl, rfl⟩)
  refine wp_loop_rounds 5 ?_
  repeat any_goals (rw [rounds_succ]; go_wp2_with (go_at_call 150; refine (near_any _ _).mono ?_; rintro e w' ⟨rfl, rfl⟩))
  go_region
  go_wp2_with fail
  go_wp2_with (go_at_call 151; refine (great_any _ _ _ _ _).mono ?_; rintro e w' ⟨rfl, rfl⟩)
  refine bodyPost_ret (v := .tuple #[.int .i64 (1), .int .i64 (0), .int .i64 (ex), .int .i64 (a), .int .i64 (0)]) (by simp [results, Tryz.results81, go_sem]) rfl ⟨rfl, (by repeat (first | exact Below.refl _ _ | refine Below.drew ?_ | refine below_drewN ?_ _ | refine Below.alloc ?_ (by first | exact Nat.le_refl _ | (simp; done) | (simp; omega)) _ | refine Below.setCell ?_ (by first | exact Nat.le_refl _ | (simp; done) | (simp; omega)) _))⟩

theorem fit_down0 (n a b c d p q r s ex : Int) (w : World) (e0 : nearB ex = true) (e1 : nearB a = true) (e2 : nearB p = true) (e3 : nearB b = true) (e4 : nearB q = true) (e5 : nearB c = true) (e6 : nearB r = true) (e7 : nearB d = true) (e8 : nearB s = true) (hx0 : -70368744177664 ≤ ex) (hx : ex < 0) (hg : great p q r s = 0) : Calls Tryz.prog 81 #[.agg #[.int .i64 n, .int .i64 a, .int .i64 b, .int .i64 c, .int .i64 d, .int .i64 p, .int .i64 q, .int .i64 r, .int .i64 s], .int .i64 ex] w fun e w' => e = .returned (.tuple #[.int .i64 (fit a b c d p q r s ex).1, .int .i64 (fit a b c d p q r s ex).2.1, .int .i64 (fit a b c d p q r s ex).2.2.1, .int .i64 (fit a b c d p q r s ex).2.2.2, .int .i64 0]) ∧ Below w.heap.size w w' := by
  have hf : fit a b c d p q r s ex = (2, 0, min (-ex) p, p) := by simp [fit, hx, hg, pick4, show ¬ 0 < ex by omega]
  rw [hf]
  clear hf
  go_enter Tryz.func81, Tryz.ntmps81
  go_wp2_with (go_at_call 150; refine (near_any _ _).mono ?_; rintro e w' ⟨rfl, rfl⟩)
  refine wp_loop_rounds 5 ?_
  repeat any_goals (rw [rounds_succ]; go_wp2_with (go_at_call 150; refine (near_any _ _).mono ?_; rintro e w' ⟨rfl, rfl⟩))
  go_region
  go_wp2_with fail
  go_region
  go_wp2_with (go_at_call 151; refine (great_any _ _ _ _ _).mono ?_; rintro e w' ⟨rfl, rfl⟩)
  refine bodyPost_ret (v := .tuple #[.int .i64 (2), .int .i64 (0), .int .i64 (min (-ex) p), .int .i64 (p), .int .i64 (0)]) (by simp [results, Tryz.results81, go_sem]) rfl ⟨rfl, (by repeat (first | exact Below.refl _ _ | refine Below.drew ?_ | refine below_drewN ?_ _ | refine Below.alloc ?_ (by first | exact Nat.le_refl _ | (simp; done) | (simp; omega)) _ | refine Below.setCell ?_ (by first | exact Nat.le_refl _ | (simp; done) | (simp; omega)) _))⟩

theorem fit_up1 (n a b c d p q r s ex : Int) (w : World) (e0 : nearB ex = true) (e1 : nearB a = true) (e2 : nearB p = true) (e3 : nearB b = true) (e4 : nearB q = true) (e5 : nearB c = true) (e6 : nearB r = true) (e7 : nearB d = true) (e8 : nearB s = true) (hx0 : -70368744177664 ≤ ex) (hx : 0 < ex) (hg : great a b c d = 1) : Calls Tryz.prog 81 #[.agg #[.int .i64 n, .int .i64 a, .int .i64 b, .int .i64 c, .int .i64 d, .int .i64 p, .int .i64 q, .int .i64 r, .int .i64 s], .int .i64 ex] w fun e w' => e = .returned (.tuple #[.int .i64 (fit a b c d p q r s ex).1, .int .i64 (fit a b c d p q r s ex).2.1, .int .i64 (fit a b c d p q r s ex).2.2.1, .int .i64 (fit a b c d p q r s ex).2.2.2, .int .i64 0]) ∧ Below w.heap.size w w' := by
  have hf : fit a b c d p q r s ex = (1, 1, ex, b) := by simp [fit, hx, hg, pick4]
  rw [hf]
  clear hf
  go_enter Tryz.func81, Tryz.ntmps81
  go_wp2_with (go_at_call 150; refine (near_any _ _).mono ?_; rintro e w' ⟨rfl, rfl⟩)
  refine wp_loop_rounds 5 ?_
  repeat any_goals (rw [rounds_succ]; go_wp2_with (go_at_call 150; refine (near_any _ _).mono ?_; rintro e w' ⟨rfl, rfl⟩))
  go_region
  go_wp2_with fail
  go_wp2_with (go_at_call 151; refine (great_any _ _ _ _ _).mono ?_; rintro e w' ⟨rfl, rfl⟩)
  refine bodyPost_ret (v := .tuple #[.int .i64 (1), .int .i64 (1), .int .i64 (ex), .int .i64 (b), .int .i64 (0)]) (by simp [results, Tryz.results81, go_sem]) rfl ⟨rfl, (by repeat (first | exact Below.refl _ _ | refine Below.drew ?_ | refine below_drewN ?_ _ | refine Below.alloc ?_ (by first | exact Nat.le_refl _ | (simp; done) | (simp; omega)) _ | refine Below.setCell ?_ (by first | exact Nat.le_refl _ | (simp; done) | (simp; omega)) _))⟩

theorem fit_down1 (n a b c d p q r s ex : Int) (w : World) (e0 : nearB ex = true) (e1 : nearB a = true) (e2 : nearB p = true) (e3 : nearB b = true) (e4 : nearB q = true) (e5 : nearB c = true) (e6 : nearB r = true) (e7 : nearB d = true) (e8 : nearB s = true) (hx0 : -70368744177664 ≤ ex) (hx : ex < 0) (hg : great p q r s = 1) : Calls Tryz.prog 81 #[.agg #[.int .i64 n, .int .i64 a, .int .i64 b, .int .i64 c, .int .i64 d, .int .i64 p, .int .i64 q, .int .i64 r, .int .i64 s], .int .i64 ex] w fun e w' => e = .returned (.tuple #[.int .i64 (fit a b c d p q r s ex).1, .int .i64 (fit a b c d p q r s ex).2.1, .int .i64 (fit a b c d p q r s ex).2.2.1, .int .i64 (fit a b c d p q r s ex).2.2.2, .int .i64 0]) ∧ Below w.heap.size w w' := by
  have hf : fit a b c d p q r s ex = (2, 1, -ex, q) := by simp [fit, hx, hg, pick4, show ¬ 0 < ex by omega]
  rw [hf]
  clear hf
  go_enter Tryz.func81, Tryz.ntmps81
  go_wp2_with (go_at_call 150; refine (near_any _ _).mono ?_; rintro e w' ⟨rfl, rfl⟩)
  refine wp_loop_rounds 5 ?_
  repeat any_goals (rw [rounds_succ]; go_wp2_with (go_at_call 150; refine (near_any _ _).mono ?_; rintro e w' ⟨rfl, rfl⟩))
  go_region
  go_wp2_with fail
  go_region
  go_wp2_with (go_at_call 151; refine (great_any _ _ _ _ _).mono ?_; rintro e w' ⟨rfl, rfl⟩)
  refine bodyPost_ret (v := .tuple #[.int .i64 (2), .int .i64 (1), .int .i64 (-ex), .int .i64 (q), .int .i64 (0)]) (by simp [results, Tryz.results81, go_sem]) rfl ⟨rfl, (by repeat (first | exact Below.refl _ _ | refine Below.drew ?_ | refine below_drewN ?_ _ | refine Below.alloc ?_ (by first | exact Nat.le_refl _ | (simp; done) | (simp; omega)) _ | refine Below.setCell ?_ (by first | exact Nat.le_refl _ | (simp; done) | (simp; omega)) _))⟩

theorem fit_up2 (n a b c d p q r s ex : Int) (w : World) (e0 : nearB ex = true) (e1 : nearB a = true) (e2 : nearB p = true) (e3 : nearB b = true) (e4 : nearB q = true) (e5 : nearB c = true) (e6 : nearB r = true) (e7 : nearB d = true) (e8 : nearB s = true) (hx0 : -70368744177664 ≤ ex) (hx : 0 < ex) (hg : great a b c d = 2) : Calls Tryz.prog 81 #[.agg #[.int .i64 n, .int .i64 a, .int .i64 b, .int .i64 c, .int .i64 d, .int .i64 p, .int .i64 q, .int .i64 r, .int .i64 s], .int .i64 ex] w fun e w' => e = .returned (.tuple #[.int .i64 (fit a b c d p q r s ex).1, .int .i64 (fit a b c d p q r s ex).2.1, .int .i64 (fit a b c d p q r s ex).2.2.1, .int .i64 (fit a b c d p q r s ex).2.2.2, .int .i64 0]) ∧ Below w.heap.size w w' := by
  have hf : fit a b c d p q r s ex = (1, 2, ex, c) := by simp [fit, hx, hg, pick4]
  rw [hf]
  clear hf
  go_enter Tryz.func81, Tryz.ntmps81
  go_wp2_with (go_at_call 150; refine (near_any _ _).mono ?_; rintro e w' ⟨rfl, rfl⟩)
  refine wp_loop_rounds 5 ?_
  repeat any_goals (rw [rounds_succ]; go_wp2_with (go_at_call 150; refine (near_any _ _).mono ?_; rintro e w' ⟨rfl, rfl⟩))
  go_region
  go_wp2_with fail
  go_wp2_with (go_at_call 151; refine (great_any _ _ _ _ _).mono ?_; rintro e w' ⟨rfl, rfl⟩)
  refine bodyPost_ret (v := .tuple #[.int .i64 (1), .int .i64 (2), .int .i64 (ex), .int .i64 (c), .int .i64 (0)]) (by simp [results, Tryz.results81, go_sem]) rfl ⟨rfl, (by repeat (first | exact Below.refl _ _ | refine Below.drew ?_ | refine below_drewN ?_ _ | refine Below.alloc ?_ (by first | exact Nat.le_refl _ | (simp; done) | (simp; omega)) _ | refine Below.setCell ?_ (by first | exact Nat.le_refl _ | (simp; done) | (simp; omega)) _))⟩

theorem fit_down2 (n a b c d p q r s ex : Int) (w : World) (e0 : nearB ex = true) (e1 : nearB a = true) (e2 : nearB p = true) (e3 : nearB b = true) (e4 : nearB q = true) (e5 : nearB c = true) (e6 : nearB r = true) (e7 : nearB d = true) (e8 : nearB s = true) (hx0 : -70368744177664 ≤ ex) (hx : ex < 0) (hg : great p q r s = 2) : Calls Tryz.prog 81 #[.agg #[.int .i64 n, .int .i64 a, .int .i64 b, .int .i64 c, .int .i64 d, .int .i64 p, .int .i64 q, .int .i64 r, .int .i64 s], .int .i64 ex] w fun e w' => e = .returned (.tuple #[.int .i64 (fit a b c d p q r s ex).1, .int .i64 (fit a b c d p q r s ex).2.1, .int .i64 (fit a b c d p q r s ex).2.2.1, .int .i64 (fit a b c d p q r s ex).2.2.2, .int .i64 0]) ∧ Below w.heap.size w w' := by
  have hf : fit a b c d p q r s ex = (2, 2, -ex, r) := by simp [fit, hx, hg, pick4, show ¬ 0 < ex by omega]
  rw [hf]
  clear hf
  go_enter Tryz.func81, Tryz.ntmps81
  go_wp2_with (go_at_call 150; refine (near_any _ _).mono ?_; rintro e w' ⟨rfl, rfl⟩)
  refine wp_loop_rounds 5 ?_
  repeat any_goals (rw [rounds_succ]; go_wp2_with (go_at_call 150; refine (near_any _ _).mono ?_; rintro e w' ⟨rfl, rfl⟩))
  go_region
  go_wp2_with fail
  go_region
  go_wp2_with (go_at_call 151; refine (great_any _ _ _ _ _).mono ?_; rintro e w' ⟨rfl, rfl⟩)
  refine bodyPost_ret (v := .tuple #[.int .i64 (2), .int .i64 (2), .int .i64 (-ex), .int .i64 (r), .int .i64 (0)]) (by simp [results, Tryz.results81, go_sem]) rfl ⟨rfl, (by repeat (first | exact Below.refl _ _ | refine Below.drew ?_ | refine below_drewN ?_ _ | refine Below.alloc ?_ (by first | exact Nat.le_refl _ | (simp; done) | (simp; omega)) _ | refine Below.setCell ?_ (by first | exact Nat.le_refl _ | (simp; done) | (simp; omega)) _))⟩

theorem fit_up3 (n a b c d p q r s ex : Int) (w : World) (e0 : nearB ex = true) (e1 : nearB a = true) (e2 : nearB p = true) (e3 : nearB b = true) (e4 : nearB q = true) (e5 : nearB c = true) (e6 : nearB r = true) (e7 : nearB d = true) (e8 : nearB s = true) (hx0 : -70368744177664 ≤ ex) (hx : 0 < ex) (hg : great a b c d = 3) : Calls Tryz.prog 81 #[.agg #[.int .i64 n, .int .i64 a, .int .i64 b, .int .i64 c, .int .i64 d, .int .i64 p, .int .i64 q, .int .i64 r, .int .i64 s], .int .i64 ex] w fun e w' => e = .returned (.tuple #[.int .i64 (fit a b c d p q r s ex).1, .int .i64 (fit a b c d p q r s ex).2.1, .int .i64 (fit a b c d p q r s ex).2.2.1, .int .i64 (fit a b c d p q r s ex).2.2.2, .int .i64 0]) ∧ Below w.heap.size w w' := by
  have hf : fit a b c d p q r s ex = (1, 3, ex, d) := by simp [fit, hx, hg, pick4]
  rw [hf]
  clear hf
  go_enter Tryz.func81, Tryz.ntmps81
  go_wp2_with (go_at_call 150; refine (near_any _ _).mono ?_; rintro e w' ⟨rfl, rfl⟩)
  refine wp_loop_rounds 5 ?_
  repeat any_goals (rw [rounds_succ]; go_wp2_with (go_at_call 150; refine (near_any _ _).mono ?_; rintro e w' ⟨rfl, rfl⟩))
  go_region
  go_wp2_with fail
  go_wp2_with (go_at_call 151; refine (great_any _ _ _ _ _).mono ?_; rintro e w' ⟨rfl, rfl⟩)
  refine bodyPost_ret (v := .tuple #[.int .i64 (1), .int .i64 (3), .int .i64 (ex), .int .i64 (d), .int .i64 (0)]) (by simp [results, Tryz.results81, go_sem]) rfl ⟨rfl, (by repeat (first | exact Below.refl _ _ | refine Below.drew ?_ | refine below_drewN ?_ _ | refine Below.alloc ?_ (by first | exact Nat.le_refl _ | (simp; done) | (simp; omega)) _ | refine Below.setCell ?_ (by first | exact Nat.le_refl _ | (simp; done) | (simp; omega)) _))⟩

theorem fit_down3 (n a b c d p q r s ex : Int) (w : World) (e0 : nearB ex = true) (e1 : nearB a = true) (e2 : nearB p = true) (e3 : nearB b = true) (e4 : nearB q = true) (e5 : nearB c = true) (e6 : nearB r = true) (e7 : nearB d = true) (e8 : nearB s = true) (hx0 : -70368744177664 ≤ ex) (hx : ex < 0) (hg : great p q r s = 3) : Calls Tryz.prog 81 #[.agg #[.int .i64 n, .int .i64 a, .int .i64 b, .int .i64 c, .int .i64 d, .int .i64 p, .int .i64 q, .int .i64 r, .int .i64 s], .int .i64 ex] w fun e w' => e = .returned (.tuple #[.int .i64 (fit a b c d p q r s ex).1, .int .i64 (fit a b c d p q r s ex).2.1, .int .i64 (fit a b c d p q r s ex).2.2.1, .int .i64 (fit a b c d p q r s ex).2.2.2, .int .i64 0]) ∧ Below w.heap.size w w' := by
  have hf : fit a b c d p q r s ex = (2, 3, -ex, s) := by simp [fit, hx, hg, pick4, show ¬ 0 < ex by omega]
  rw [hf]
  clear hf
  go_enter Tryz.func81, Tryz.ntmps81
  go_wp2_with (go_at_call 150; refine (near_any _ _).mono ?_; rintro e w' ⟨rfl, rfl⟩)
  refine wp_loop_rounds 5 ?_
  repeat any_goals (rw [rounds_succ]; go_wp2_with (go_at_call 150; refine (near_any _ _).mono ?_; rintro e w' ⟨rfl, rfl⟩))
  go_region
  go_wp2_with fail
  go_region
  go_wp2_with (go_at_call 151; refine (great_any _ _ _ _ _).mono ?_; rintro e w' ⟨rfl, rfl⟩)
  refine bodyPost_ret (v := .tuple #[.int .i64 (2), .int .i64 (3), .int .i64 (-ex), .int .i64 (s), .int .i64 (0)]) (by simp [results, Tryz.results81, go_sem]) rfl ⟨rfl, (by repeat (first | exact Below.refl _ _ | refine Below.drew ?_ | refine below_drewN ?_ _ | refine Below.alloc ?_ (by first | exact Nat.le_refl _ | (simp; done) | (simp; omega)) _ | refine Below.setCell ?_ (by first | exact Nat.le_refl _ | (simp; done) | (simp; omega)) _))⟩

end Go.Proofs.YtoboecenlangmaaGreat.Gl
end
section
namespace Go.Proofs.YtoboecenlangmaaGreat.Gl
open Go.ChangeShapes Go.WideShapes Go.ChangeAt Go.RowKit
open Me
set_option linter.unusedVariables false
set_option linter.unusedSimpArgs false

theorem fit_all (n a b c d p q r s ex : Int) (w : World) (e0 : nearB ex = true) (e1 : nearB a = true) (e2 : nearB p = true) (e3 : nearB b = true) (e4 : nearB q = true) (e5 : nearB c = true) (e6 : nearB r = true) (e7 : nearB d = true) (e8 : nearB s = true) : Calls Tryz.prog 81 #[.agg #[.int .i64 n, .int .i64 a, .int .i64 b, .int .i64 c, .int .i64 d, .int .i64 p, .int .i64 q, .int .i64 r, .int .i64 s], .int .i64 ex] w fun e w' => e = .returned (.tuple #[.int .i64 (fit a b c d p q r s ex).1, .int .i64 (fit a b c d p q r s ex).2.1, .int .i64 (fit a b c d p q r s ex).2.2.1, .int .i64 (fit a b c d p q r s ex).2.2.2, .int .i64 0]) ∧ Below w.heap.size w w' := by
  have hx0 : -70368744177664 ≤ ex := by simp [nearB] at e0; omega
  rcases Int.lt_trichotomy 0 ex with hx | hx | hx
  · rcases great_cases a b c d with ⟨hg, h⟩ | ⟨hg, h⟩ | ⟨hg, h⟩ | ⟨hg, h⟩ | ⟨hg, h⟩
    · exact fit_upm n a b c d p q r s ex w e0 e1 e2 e3 e4 e5 e6 e7 e8 hx0 hx hg
    · exact fit_up0 n a b c d p q r s ex w e0 e1 e2 e3 e4 e5 e6 e7 e8 hx0 hx hg
    · exact fit_up1 n a b c d p q r s ex w e0 e1 e2 e3 e4 e5 e6 e7 e8 hx0 hx hg
    · exact fit_up2 n a b c d p q r s ex w e0 e1 e2 e3 e4 e5 e6 e7 e8 hx0 hx hg
    · exact fit_up3 n a b c d p q r s ex w e0 e1 e2 e3 e4 e5 e6 e7 e8 hx0 hx hg
  · subst hx
    refine (fit_zero n a b c d p q r s w e0 e1 e2 e3 e4 e5 e6 e7 e8).mono ?_
    rintro e w' ⟨rfl, hb⟩
    exact ⟨rfl, hb⟩
  · rcases great_cases p q r s with ⟨hg, h⟩ | ⟨hg, h⟩ | ⟨hg, h⟩ | ⟨hg, h⟩ | ⟨hg, h⟩
    · exact fit_downm n a b c d p q r s ex w e0 e1 e2 e3 e4 e5 e6 e7 e8 hx0 hx hg
    · exact fit_down0 n a b c d p q r s ex w e0 e1 e2 e3 e4 e5 e6 e7 e8 hx0 hx hg
    · exact fit_down1 n a b c d p q r s ex w e0 e1 e2 e3 e4 e5 e6 e7 e8 hx0 hx hg
    · exact fit_down2 n a b c d p q r s ex w e0 e1 e2 e3 e4 e5 e6 e7 e8 hx0 hx hg
    · exact fit_down3 n a b c d p q r s ex w e0 e1 e2 e3 e4 e5 e6 e7 e8 hx0 hx hg
end Go.Proofs.YtoboecenlangmaaGreat.Gl
end
section
namespace Go.Proofs.YtoboecenlangmaaGreat.Pk
open Go.ChangeShapes Go.WideShapes Go.ChangeAt Go.RowKit
open Me Np No
set_option linter.unusedVariables false
set_option linter.unusedSimpArgs false

theorem mkc_node (n : Nd) (x a b c d p q r s : Int) (em : Bool) (bad ov wr : Int) (j : Nat) (u : Value) (h : (nc n).toList[j]? = some u) : (mkc n x a b c d p q r s em bad ov wr)[j]? = some u := by
  match j, h with
  | 0, h => exact h
  | 1, h => exact h
  | 2, h => exact h
  | 3, h => exact h
  | 4, h => exact h
  | 5, h => exact h
  | 6, h => exact h
  | 7, h => exact h
  | 8, h => exact h
  | 9, h => exact h
  | 10, h => exact h
  | 11, h => exact h
  | 12, h => exact h
  | 13, h => exact h
  | 14, h => exact h
  | 15, h => exact h
  | 16, h => exact h
  | 17, h => exact h
  | 18, h => exact h
  | j + 19, h => rw [List.getElem?_eq_none (by rw [nc_list]; omega)] at h; cases h
theorem Mk.node {w : World} {g : Nat} {n : Nd} {x a b c d p q r s : Int} {em : Bool} {bad ov wr : Int} (h : Mk w g n x a b c d p q r s em bad ov wr) : NodeAt w g 0 n := fun j u hu => by
  rw [Nat.zero_add, Blk.cell h]
  exact mkc_node n x a b c d p q r s em bad ov wr j u hu
theorem Mk.fits {w : World} {g : Nat} {n : Nd} {x a b c d p q r s : Int} {em : Bool} {bad ov wr : Int} (h : Mk w g n x a b c d p q r s em bad ov wr) (sg od nu de : Int) :
    Mk ((((w.setCell ⟨g, 12, none⟩ (.int .i64 sg)).setCell ⟨g, 13, none⟩ (.int .i64 od)).setCell ⟨g, 14, none⟩ (.int .i64 nu)).setCell ⟨g, 15, none⟩ (.int .i64 de)) g { n with sign := sg, order := od, num := nu, den := de } x a b c d p q r s em bad ov wr :=
  Blk.set (Blk.set (Blk.set (Blk.set h 12 (.int .i64 sg)) 13 (.int .i64 od)) 14 (.int .i64 nu)) 15 (.int .i64 de)
/-- A node that is set. -/
def fitN (n : Nd) (f : Int × Int × Int × Int) : Nd := { n with sign := f.1, order := f.2.1, num := f.2.2.1, den := f.2.2.2 }
def setV (n : Nd) (a p : Int) (em : Bool) (ex : Int) (z : Int × Int) : Int × Int := if em = true ∨ ex = 0 then z else if 0 < ex then (looseV n a ex z.1, z.2) else tightV n p (-ex) z
set_option maxRecDepth 100000 in
set_option maxHeartbeats 2000000 in
theorem set_any (g : Nat) (n : Nd) (x a b c d p q r s : Int) (em : Bool) (bad ov ex : Int) (w : World) (hg : Mk w g n x a b c d p q r s em bad ov 0) (e0 : Gl.nearB ex = true) (e1 : Gl.nearB a = true) (e2 : Gl.nearB p = true) (e3 : Gl.nearB b = true) (e4 : Gl.nearB q = true) (e5 : Gl.nearB c = true) (e6 : Gl.nearB r = true) (e7 : Gl.nearB d = true) (e8 : Gl.nearB s = true) :
    Calls Tryz.prog 43 #[.pointer (some ⟨g, 0, none⟩), .int .i64 ex] w fun e w' => e = .returned (.tuple #[]) ∧
      Mk w' g (fitN n (Gl.fit a b c d p q r s ex)) x a b c d p q r s em (setV (fitN n (Gl.fit a b c d p q r s ex)) a p em ex (bad, ov)).1 (setV (fitN n (Gl.fit a b c d p q r s ex)) a p em ex (bad, ov)).2 0 ∧ w.grownBy w' (some g) := by
  have HF := Lib.hid (fun w => Gl.fit_all x a b c d p q r s ex w e0 e1 e2 e3 e4 e5 e6 e7 e8)
  have hex : -70368744177664 ≤ ex ∧ ex ≤ 70368744177664 := by simp [Gl.nearB] at e0; omega
  have HEX := Lib.hid hex
  generalize Gl.fit a b c d p q r s ex = F at HF ⊢
  obtain ⟨sg, od, nu, de⟩ := F
  simp only at HF
  clear e0 e1 e2 e3 e4 e5 e6 e7 e8
  have HG := Lib.hid hg
  have hc19 : w.cell? ⟨g, 19, none⟩ = some (.int .i64 x) := Blk.cell hg 19
  have hc20 : w.cell? ⟨g, 20, none⟩ = some (.int .i64 a) := Blk.cell hg 20
  have hc21 : w.cell? ⟨g, 21, none⟩ = some (.int .i64 b) := Blk.cell hg 21
  have hc22 : w.cell? ⟨g, 22, none⟩ = some (.int .i64 c) := Blk.cell hg 22
  have hc23 : w.cell? ⟨g, 23, none⟩ = some (.int .i64 d) := Blk.cell hg 23
  have hc24 : w.cell? ⟨g, 24, none⟩ = some (.int .i64 p) := Blk.cell hg 24
  have hc25 : w.cell? ⟨g, 25, none⟩ = some (.int .i64 q) := Blk.cell hg 25
  have hc26 : w.cell? ⟨g, 26, none⟩ = some (.int .i64 r) := Blk.cell hg 26
  have hc27 : w.cell? ⟨g, 27, none⟩ = some (.int .i64 s) := Blk.cell hg 27
  clear hg
  cases em with
  | true =>
    have HV := Lib.hid (show setV (fitN n (sg, od, nu, de)) a p true ex (bad, ov) = (bad, ov) from if_pos (.inl rfl))
    go_enter Tryz.func43, Tryz.ntmps43
    go_wp2_with (first | (go_at_call 81; go_loud (refine (HF.out _).mono ?_; rintro e w2 ⟨rfl, hb2⟩; have HB2 := Lib.hid hb2; have hm2 := HG.out.below hb2; have hd12 : w2.cell? ⟨g, 12, none⟩ = some (.int .i64 n.sign) := Blk.cell hm2 12; have hf12 := Blk.free hm2 12; have hd13 : w2.cell? ⟨g, 13, none⟩ = some (.int .i64 n.order) := Blk.cell hm2 13; have hf13 := Blk.free hm2 13; have hd14 : w2.cell? ⟨g, 14, none⟩ = some (.int .i64 n.num) := Blk.cell hm2 14; have hf14 := Blk.free hm2 14; have hd15 : w2.cell? ⟨g, 15, none⟩ = some (.int .i64 n.den) := Blk.cell hm2 15; have hf15 := Blk.free hm2 15; have hd28 : w2.cell? ⟨g, 28, none⟩ = some (.bool true) := Blk.cell hm2 28; have HM2 := Lib.hid hm2; clear hm2 hb2)))
    first | go_end0 | go_returns
    exact ⟨rfl, by rw [HV.out]; exact HM2.out.fits sg od nu de, grown_trans (grown_blk (g := g) HB2.out) (grown_trans (grown_trans (grown_trans (grown_set _ _ _ _) (grown_set _ _ _ _)) (grown_set _ _ _ _)) (grown_set _ _ _ _))⟩
  | false =>
    rcases Int.lt_trichotomy 0 ex with hx | hx | hx
    · have HV := Lib.hid (show setV (fitN n (sg, od, nu, de)) a p false ex (bad, ov) = (looseV (fitN n (sg, od, nu, de)) a ex bad, ov) by unfold setV; rw [if_neg (by simp; omega), if_pos hx])
      have hx1 : ¬ ex = 0 := by omega
      have hx2 : 0 ≤ ex := by omega
      go_enter Tryz.func43, Tryz.ntmps43
      go_wp2_with (first | (go_at_call 81; go_loud (refine (HF.out _).mono ?_; rintro e w2 ⟨rfl, hb2⟩; have HB2 := Lib.hid hb2; have hm2 := HG.out.below hb2; have hd12 : w2.cell? ⟨g, 12, none⟩ = some (.int .i64 n.sign) := Blk.cell hm2 12; have hf12 := Blk.free hm2 12; have hd13 : w2.cell? ⟨g, 13, none⟩ = some (.int .i64 n.order) := Blk.cell hm2 13; have hf13 := Blk.free hm2 13; have hd14 : w2.cell? ⟨g, 14, none⟩ = some (.int .i64 n.num) := Blk.cell hm2 14; have hf14 := Blk.free hm2 14; have hd15 : w2.cell? ⟨g, 15, none⟩ = some (.int .i64 n.den) := Blk.cell hm2 15; have hf15 := Blk.free hm2 15; have hd28 : w2.cell? ⟨g, 28, none⟩ = some (.bool false) := Blk.cell hm2 28; have HM2 := Lib.hid hm2; clear hm2 hb2)) | (go_at_call 82; go_loud (refine (loose_any g _ x a b c d p q r s false bad ov 0 ex _ (HM2.out.fits sg od nu de) hx2).mono ?_; rintro e w3 ⟨rfl, hm3, hg3⟩; have HM3 := Lib.hid hm3; have HG3 := Lib.hid hg3; clear hm3 hg3)))
      first | go_end0 | go_returns
      exact ⟨rfl, by rw [HV.out]; exact HM3.out, grown_trans (grown_blk (g := g) HB2.out) (grown_trans (grown_trans (grown_trans (grown_trans (grown_set _ _ _ _) (grown_set _ _ _ _)) (grown_set _ _ _ _)) (grown_set _ _ _ _)) HG3.out)⟩
    · subst hx
      have HV := Lib.hid (show setV (fitN n (sg, od, nu, de)) a p false 0 (bad, ov) = (bad, ov) from if_pos (.inr rfl))
      go_enter Tryz.func43, Tryz.ntmps43
      go_wp2_with (first | (go_at_call 81; go_loud (refine (HF.out _).mono ?_; rintro e w2 ⟨rfl, hb2⟩; have HB2 := Lib.hid hb2; have hm2 := HG.out.below hb2; have hd12 : w2.cell? ⟨g, 12, none⟩ = some (.int .i64 n.sign) := Blk.cell hm2 12; have hf12 := Blk.free hm2 12; have hd13 : w2.cell? ⟨g, 13, none⟩ = some (.int .i64 n.order) := Blk.cell hm2 13; have hf13 := Blk.free hm2 13; have hd14 : w2.cell? ⟨g, 14, none⟩ = some (.int .i64 n.num) := Blk.cell hm2 14; have hf14 := Blk.free hm2 14; have hd15 : w2.cell? ⟨g, 15, none⟩ = some (.int .i64 n.den) := Blk.cell hm2 15; have hf15 := Blk.free hm2 15; have hd28 : w2.cell? ⟨g, 28, none⟩ = some (.bool false) := Blk.cell hm2 28; have HM2 := Lib.hid hm2; clear hm2 hb2)))
      first | go_end0 | go_returns
      exact ⟨rfl, by rw [HV.out]; exact HM2.out.fits sg od nu de, grown_trans (grown_blk (g := g) HB2.out) (grown_trans (grown_trans (grown_trans (grown_set _ _ _ _) (grown_set _ _ _ _)) (grown_set _ _ _ _)) (grown_set _ _ _ _))⟩
    · have HV := Lib.hid (show setV (fitN n (sg, od, nu, de)) a p false ex (bad, ov) = tightV (fitN n (sg, od, nu, de)) p (-ex) (bad, ov) by unfold setV; rw [if_neg (by simp; omega), if_neg (by omega)])
      have hx1 : ¬ ex = 0 := by omega
      have hx2 : 0 ≤ -ex := by omega
      have hx3 : ¬ 0 < ex := by omega
      go_enter Tryz.func43, Tryz.ntmps43
      go_wp2_with (first | (go_at_call 81; go_loud (refine (HF.out _).mono ?_; rintro e w2 ⟨rfl, hb2⟩; have HB2 := Lib.hid hb2; have hm2 := HG.out.below hb2; have hd12 : w2.cell? ⟨g, 12, none⟩ = some (.int .i64 n.sign) := Blk.cell hm2 12; have hf12 := Blk.free hm2 12; have hd13 : w2.cell? ⟨g, 13, none⟩ = some (.int .i64 n.order) := Blk.cell hm2 13; have hf13 := Blk.free hm2 13; have hd14 : w2.cell? ⟨g, 14, none⟩ = some (.int .i64 n.num) := Blk.cell hm2 14; have hf14 := Blk.free hm2 14; have hd15 : w2.cell? ⟨g, 15, none⟩ = some (.int .i64 n.den) := Blk.cell hm2 15; have hf15 := Blk.free hm2 15; have hd28 : w2.cell? ⟨g, 28, none⟩ = some (.bool false) := Blk.cell hm2 28; have HM2 := Lib.hid hm2; clear hm2 hb2)) | (go_at_call 83; go_loud (refine (tight_any g _ x a b c d p q r s false bad ov 0 (-ex) _ (HM2.out.fits sg od nu de) hx2 (by omega)).mono ?_; rintro e w3 ⟨rfl, hm3, hg3⟩; have HM3 := Lib.hid hm3; have HG3 := Lib.hid hg3; clear hm3 hg3)))
      first | go_end0 | go_returns
      exact ⟨rfl, by rw [HV.out]; exact HM3.out, grown_trans (grown_blk (g := g) HB2.out) (grown_trans (grown_trans (grown_trans (grown_trans (grown_set _ _ _ _) (grown_set _ _ _ _)) (grown_set _ _ _ _)) (grown_set _ _ _ _)) HG3.out)⟩
end Go.Proofs.YtoboecenlangmaaGreat.Pk
end
section
namespace Go.Proofs.YtoboecenlangmaaGreat.No
open Go.ChangeShapes Go.WideShapes Go.ChangeAt Go.RowKit
open Me Np
set_option linter.unusedVariables false
set_option linter.unusedSimpArgs false
attribute [local go_sem ↓] ldN_eq
theorem box_shift {n : Nd} (h : right n = true) (h4 : n.kind = 4 ∨ n.kind = 5) : -1073741823 ≤ n.shift ∧ n.shift ≤ 1073741823 := by
  have hs : dimB n.shift = true := by
    rcases h4 with h4 | h4
    · have := right_kind (k := 4) h h4
      simp only [goodK, gBox, Bool.and_eq_true] at this
      exact this.1.2.2.2
    · have := right_kind (k := 5) h h4
      simp only [goodK, gBox, Bool.and_eq_true] at this
      exact this.1.2.2.2
  exact dm_of hs
set_option maxHeartbeats 4000000 in
set_option maxRecDepth 100000 in
theorem row_of (A : Option Addr) (ns : List Nd) (c : Nat) (xs : List Nat) (ra : Nat → Int × Int) (w : World) (hl : ns.length ≤ 2000) (hseg : Seg w w.heap.size A (ns.flatMap ncs)) (hx : Its xs ns 0) (hr : ∀ x ∈ ns, right x = true)
    (hrv : ∀ k ∈ xs, RV (ra k)) (hone : ∀ k ∈ xs, ∀ n, ns[k]? = some n → ¬ n.kind = 10 → ra k = rowP n)
    (hdisc : ∀ k ∈ xs, ∀ n, ns[k]? = some n → n.kind = 10 → ∀ w1, Below w.heap.size w w1 → Calls Tryz.prog 155 #[.slice A ns.length c, .int .i64 (k : Int)] w1 fun e w' => ∃ vs A2 c2 l2, e = .returned (.agg (tc3 vs)) ∧ vs 2 = .slice A2 l2 c2 ∧ Below w1.heap.size w1 w' ∧
      Calls Tryz.prog 86 #[.slice A2 l2 c2] w' fun e w2 => e = .returned (.tuple #[.int .i64 (ra k).1, .int .i64 (ra k).2]) ∧ Below w'.heap.size w' w2) :
    Calls Tryz.prog 86 #[.slice A ns.length c] w fun e w' => e = .returned (.tuple #[.int .i64 (rfold ra xs (0, 0)).1, .int .i64 (rfold ra xs (0, 0)).2]) ∧ Below w.heap.size w w' := by
  have HDI := Lib.hid hdisc
  have HON := Lib.hid hone
  have HRV := Lib.hid hrv
  have HRT := Lib.hid hr
  have HSEG := Lib.hid hseg
  have HITS := Lib.hid (items_any A ns c xs w hl hseg hx)
  have hxl := Its.len hx
  have HLT := Lib.hid (Its.lt hx)
  clear hdisc hone hrv hr hseg hx
  have HL := Lib.hid (rfl : ns.length = ns.length)
  generalize hlen : ns.length = len at hl HDI HITS HL hxl HLT ⊢
  clear HL
  have HL := Lib.hid hlen
  clear hlen
  go_enter Tryz.func86, Tryz.ntmps86
  go_wp2_with fail
  refine HITS.out.mono ?_
  rintro e w1 ⟨v, rfl, ho, hb1⟩
  obtain ⟨A', c', rfl⟩ := made_len ho
  have HO := Lib.hid ho
  have HB1 := Lib.hid hb1
  clear ho hb1
  go_wp2_with fail
  go_loopw [2, 3, 12] (fun h d i wr => ∃ (k : Nat) (s : Int × Int), k ≤ xs.length ∧ i = .int .i64 k ∧ h = .int .i64 s.1 ∧ d = .int .i64 s.2 ∧ RB s ∧ rfold ra (xs.drop k) s = rfold ra xs (0, 0) ∧ Below w1.heap.size w1 wr) (fun _ _ i _ => xs.length - (intOf i).toNat)
  case atStart => exact ⟨0, (0, 0), by omega, rfl, rfl, rfl, by unfold RB; simp only; omega, rfl, Below.refl _ _⟩
  case round =>
    obtain ⟨k, s, hk, rfl, rfl, rfl, hrb, hfo, hlow⟩ := hrel
    have HRB := Lib.hid hrb
    by_cases hlt : k < xs.length
    · obtain ⟨x, hx, hxd⟩ : ∃ x, xs[k]? = some x ∧ xs.drop k = x :: xs.drop (k + 1) := ⟨xs[k], List.getElem?_eq_getElem hlt, List.drop_eq_getElem_cons hlt⟩
      have hxm : x ∈ xs := List.mem_of_getElem? hx
      have hxl2 := (HLT.out x hxm).2
      obtain ⟨n, hn, hnd⟩ := get_drop (l := ns) (k := x) (by rw [HL.out]; omega)
      have HRN := Lib.hid (HRT.out n (List.mem_of_getElem? hn))
      have HNN := Lib.hid hn
      obtain ⟨b, off, rfl, hb, hnode⟩ := seg_node HSEG.out hn
      have HLW := Lib.hid (andThen HB1.out hlow)
      have hnr : NodeAt wr b (off + x * 19) n := hnode.below HLW.out hb
      have hld0 : (ldN ⟨b, off + x * 19, none⟩).run Tryz.prog wr = .ok (.agg (nc n)) wr := run_ldN hnr
      rw [hxd] at hfo
      have HFO := Lib.hid (show rfold ra (xs.drop (k + 1)) (rstep s (ra x)) = rfold ra xs (0, 0) from hfo)
      obtain ⟨g, rfl, hg⟩ : ∃ g, A' = some ⟨g, 0, none⟩ ∧ g < w1.heap.size := by
        rcases id HO.out.2 with ⟨_, h5⟩ | ⟨g, _, _, h5, _, h6, _⟩
        · omega
        · simp at h5
          exact ⟨g, h5.1, (Array.getElem?_eq_some_iff.1 h6).1⟩
      have hxc : wr.cell? ⟨g, k, none⟩ = some (.int .i64 x) := by
        rw [hlow.cell (p := ⟨g, k, none⟩) hg, World.ownsRow.cellAt HO.out k (by omega), List.getElem?_map, hx]
        rfl
      clear hn hnd hx hnode hxd hfo hnr hrb
      by_cases h10 : n.kind = 10
      · have e1 : (n.kind == 1) = false := by simp [h10]
        have e2 : (n.kind == 2) = false := by simp [h10]
        have e3 : (n.kind == 3) = false := by simp [h10]
        have e4 : (n.kind == 4) = false := by simp [h10]
        have e5 : (n.kind == 5) = false := by simp [h10]
        have e10 : (n.kind == 10) = true := by simp [h10]
        have HD3 := Lib.hid (HDI.out x hxm n HNN.out h10 (wr.alloc (.cells (nc n) 101)) (andAlloc HLW.out _))
        have hlw2 := andAlloc hlow (.cells (nc n) 101)
        clear h10
        go_wp2_with (first | (with_reducible show wpList _ _ _ _ _ _; refine wpList_alloc_node rfl rfl ?_) | (with_reducible show wpList _ _ _ _ _ _; refine wpList_store_node rfl _ _ rfl _ _ _ rfl rfl _ (by repeat (first | (apply Blk.new'; first | rfl | (simp; done)) | assumption | apply Blk.alloc)) ?_))
        refine HD3.out.mono ?_
        rintro e w4 ⟨vs, A2, c2, l2, rfl, hv2, hb4, hsum⟩
        have HSU := Lib.hid hsum
        have hlw4 := andThen hlw2 hb4
        have hix : ∀ w, (Instr.index 221 (.agg (tc3 vs)) (.int .i64 2)).run Tryz.prog w = .ok (vs 2) w := fun w => idx2 _ _ _ w
        rw [hv2] at hix
        clear hsum hv2 hb4 HD3 hlw2
        generalize tc3 vs = cs3 at hix ⊢
        go_wp2_with fail
        refine HSU.out.mono ?_
        rintro e w5 ⟨rfl, hb5⟩
        have hlw5 := andThen hlw4 hb5
        clear hb5 hlw4 HSU hix
        go_wp2_with fail
        go_roundw
        case rel => exact ⟨k + 1, rstep s (ra x), by omega, by go_num, rfl, rfl, HRB.out.step (HRV.out x hxm), HFO.out, by repeat (first | exact hlw5 | refine below_drewN ?_ _ | refine andAlloc ?_ _)⟩
        case measure => simp [intOf]; omega
      · by_cases hk5 : n.kind = 1 ∨ n.kind = 2 ∨ n.kind = 3 ∨ n.kind = 4 ∨ n.kind = 5
        · rcases hk5 with hk | hk | hk | hk | hk
          · have e1 : (n.kind == 1) = true := by simp [hk]
            have hra := HON.out x hxm n HNN.out (by omega)
            rw [show rowP n = (n.ht, n.dp) by unfold rowP; rw [if_pos (by omega)]] at hra
            have HRA := Lib.hid hra
            clear hra hk
            go_wp2_with (first | (with_reducible show wpList _ _ _ _ _ _; refine wpList_alloc_node rfl rfl ?_) | (with_reducible show wpList _ _ _ _ _ _; refine wpList_store_node rfl _ _ rfl _ _ _ rfl rfl _ (by repeat (first | (apply Blk.new'; first | rfl | (simp; done)) | assumption | apply Blk.alloc)) ?_))
            go_quiet (fail)
            go_wp2_with fail
            go_roundw
            case rel => exact ⟨k + 1, rstep s (n.ht, n.dp), by omega, by go_num, rfl, rfl, by rw [← HRA.out]; exact HRB.out.step (HRV.out x hxm), by rw [← HRA.out]; exact HFO.out, by repeat (first | exact hlow | refine below_drewN ?_ _ | refine andAlloc ?_ _)⟩
            case measure => simp [intOf]; omega
          · have e1 : (n.kind == 1) = false := by simp [hk]
            have e2 : (n.kind == 2) = true := by simp [hk]
            have hra := HON.out x hxm n HNN.out (by omega)
            rw [show rowP n = (n.ht, n.dp) by unfold rowP; rw [if_pos (by omega)]] at hra
            have HRA := Lib.hid hra
            clear hra hk
            go_wp2_with (first | (with_reducible show wpList _ _ _ _ _ _; refine wpList_alloc_node rfl rfl ?_) | (with_reducible show wpList _ _ _ _ _ _; refine wpList_store_node rfl _ _ rfl _ _ _ rfl rfl _ (by repeat (first | (apply Blk.new'; first | rfl | (simp; done)) | assumption | apply Blk.alloc)) ?_))
            go_quiet (fail)
            go_wp2_with fail
            go_roundw
            case rel => exact ⟨k + 1, rstep s (n.ht, n.dp), by omega, by go_num, rfl, rfl, by rw [← HRA.out]; exact HRB.out.step (HRV.out x hxm), by rw [← HRA.out]; exact HFO.out, by repeat (first | exact hlow | refine below_drewN ?_ _ | refine andAlloc ?_ _)⟩
            case measure => simp [intOf]; omega
          · have e1 : (n.kind == 1) = false := by simp [hk]
            have e2 : (n.kind == 2) = false := by simp [hk]
            have e3 : (n.kind == 3) = true := by simp [hk]
            have hra := HON.out x hxm n HNN.out (by omega)
            rw [show rowP n = (n.ht, n.dp) by unfold rowP; rw [if_pos (by omega)]] at hra
            have HRA := Lib.hid hra
            clear hra hk
            go_wp2_with (first | (with_reducible show wpList _ _ _ _ _ _; refine wpList_alloc_node rfl rfl ?_) | (with_reducible show wpList _ _ _ _ _ _; refine wpList_store_node rfl _ _ rfl _ _ _ rfl rfl _ (by repeat (first | (apply Blk.new'; first | rfl | (simp; done)) | assumption | apply Blk.alloc)) ?_))
            go_quiet (fail)
            go_wp2_with fail
            go_roundw
            case rel => exact ⟨k + 1, rstep s (n.ht, n.dp), by omega, by go_num, rfl, rfl, by rw [← HRA.out]; exact HRB.out.step (HRV.out x hxm), by rw [← HRA.out]; exact HFO.out, by repeat (first | exact hlow | refine below_drewN ?_ _ | refine andAlloc ?_ _)⟩
            case measure => simp [intOf]; omega
          · have e1 : (n.kind == 1) = false := by simp [hk]
            have e2 : (n.kind == 2) = false := by simp [hk]
            have e3 : (n.kind == 3) = false := by simp [hk]
            have e4 : (n.kind == 4) = true := by simp [hk]
            have hra := HON.out x hxm n HNN.out (by omega)
            rw [show rowP n = (n.ht - n.shift, n.dp + n.shift) by unfold rowP; rw [if_neg (by omega), if_pos (by omega)]] at hra
            have hd := right_hd HRN.out (by omega)
            unfold dm at hd
            have hsh := box_shift HRN.out (by omega)
            have hw1 : IntKind.i64.wrap (n.ht - n.shift) = n.ht - n.shift := IntWalk.i64_in _ (by omega)
            have hw2 : IntKind.i64.wrap (n.dp + n.shift) = n.dp + n.shift := IntWalk.i64_in _ (by omega)
            clear hd hsh
            have HRA := Lib.hid hra
            clear hra hk
            go_wp2_with (first | (with_reducible show wpList _ _ _ _ _ _; refine wpList_alloc_node rfl rfl ?_) | (with_reducible show wpList _ _ _ _ _ _; refine wpList_store_node rfl _ _ rfl _ _ _ rfl rfl _ (by repeat (first | (apply Blk.new'; first | rfl | (simp; done)) | assumption | apply Blk.alloc)) ?_))
            go_quiet (fail)
            go_wp2_with fail
            go_roundw
            case rel => exact ⟨k + 1, rstep s (n.ht - n.shift, n.dp + n.shift), by omega, by go_num, rfl, rfl, by rw [← HRA.out]; exact HRB.out.step (HRV.out x hxm), by rw [← HRA.out]; exact HFO.out, by repeat (first | exact hlow | refine below_drewN ?_ _ | refine andAlloc ?_ _)⟩
            case measure => simp [intOf]; omega
          · have e1 : (n.kind == 1) = false := by simp [hk]
            have e2 : (n.kind == 2) = false := by simp [hk]
            have e3 : (n.kind == 3) = false := by simp [hk]
            have e4 : (n.kind == 4) = false := by simp [hk]
            have e5 : (n.kind == 5) = true := by simp [hk]
            have hra := HON.out x hxm n HNN.out (by omega)
            rw [show rowP n = (n.ht - n.shift, n.dp + n.shift) by unfold rowP; rw [if_neg (by omega), if_pos (by omega)]] at hra
            have hd := right_hd HRN.out (by omega)
            unfold dm at hd
            have hsh := box_shift HRN.out (by omega)
            have hw1 : IntKind.i64.wrap (n.ht - n.shift) = n.ht - n.shift := IntWalk.i64_in _ (by omega)
            have hw2 : IntKind.i64.wrap (n.dp + n.shift) = n.dp + n.shift := IntWalk.i64_in _ (by omega)
            clear hd hsh
            have HRA := Lib.hid hra
            clear hra hk
            go_wp2_with (first | (with_reducible show wpList _ _ _ _ _ _; refine wpList_alloc_node rfl rfl ?_) | (with_reducible show wpList _ _ _ _ _ _; refine wpList_store_node rfl _ _ rfl _ _ _ rfl rfl _ (by repeat (first | (apply Blk.new'; first | rfl | (simp; done)) | assumption | apply Blk.alloc)) ?_))
            go_quiet (fail)
            go_wp2_with fail
            go_roundw
            case rel => exact ⟨k + 1, rstep s (n.ht - n.shift, n.dp + n.shift), by omega, by go_num, rfl, rfl, by rw [← HRA.out]; exact HRB.out.step (HRV.out x hxm), by rw [← HRA.out]; exact HFO.out, by repeat (first | exact hlow | refine below_drewN ?_ _ | refine andAlloc ?_ _)⟩
            case measure => simp [intOf]; omega
        · have e1 : (n.kind == 1) = false := by simp; omega
          have e2 : (n.kind == 2) = false := by simp; omega
          have e3 : (n.kind == 3) = false := by simp; omega
          have e4 : (n.kind == 4) = false := by simp; omega
          have e5 : (n.kind == 5) = false := by simp; omega
          have e10 : (n.kind == 10) = false := by simp; omega
          have hra := HON.out x hxm n HNN.out h10
          rw [show rowP n = (0, 0) by unfold rowP; rw [if_neg (by omega), if_neg (by omega)]] at hra
          have HRA := Lib.hid hra
          clear hra h10 hk5
          go_wp2_with (first | (with_reducible show wpList _ _ _ _ _ _; refine wpList_alloc_node rfl rfl ?_) | (with_reducible show wpList _ _ _ _ _ _; refine wpList_store_node rfl _ _ rfl _ _ _ rfl rfl _ (by repeat (first | (apply Blk.new'; first | rfl | (simp; done)) | assumption | apply Blk.alloc)) ?_))
          go_roundw
          case rel => exact ⟨k + 1, rstep s (0, 0), by omega, by go_num, rfl, rfl, by have hh := HRB.out.step (HRV.out x hxm); rw [HRA.out] at hh; exact hh, by have hf := HFO.out; rw [HRA.out] at hf; exact hf, by repeat (first | exact hlow | refine below_drewN ?_ _ | refine andAlloc ?_ _)⟩
          case measure => simp [intOf]; omega
    · obtain rfl : k = xs.length := by omega
      rw [List.drop_of_length_le (Nat.le_refl _)] at hfo
      have hfo : s = rfold ra xs (0, 0) := hfo
      subst hfo
      have HLW := Lib.hid (andThen HB1.out hlow)
      go_wp2_with fail
      go_ret2
      exact ⟨rfl, HLW.out⟩
end Go.Proofs.YtoboecenlangmaaGreat.No
end
section
namespace Go.Proofs.YtoboecenlangmaaGreat.No
open Go.ChangeShapes Go.WideShapes Go.ChangeAt Go.RowKit
open Me Np
set_option linter.unusedVariables false
set_option linter.unusedSimpArgs false
attribute [local go_sem ↓] ldN_eq
set_option maxHeartbeats 4000000 in
set_option maxRecDepth 100000 in
theorem column_of (A : Option Addr) (ns : List Nd) (c : Nat) (xs : List Nat) (w : World) (hl : ns.length ≤ 2000) (hseg : Seg w w.heap.size A (ns.flatMap ncs)) (hx : Its xs ns 0) (hr : ∀ x ∈ ns, right x = true) :
    Calls Tryz.prog 87 #[.slice A ns.length c] w fun e w' => e = .returned (.tuple #[.int .i64 (cfold ns xs (0, 0)).1, .int .i64 (cfold ns xs (0, 0)).2]) ∧ Below w.heap.size w w' := by
  have HRT := Lib.hid hr
  have HSEG := Lib.hid hseg
  have HITS := Lib.hid (items_any A ns c xs w hl hseg hx)
  have hxl := Its.len hx
  have HLT := Lib.hid (Its.lt hx)
  clear hr hseg hx
  have HL := Lib.hid (rfl : ns.length = ns.length)
  generalize hlen : ns.length = len at hl HITS HL hxl HLT ⊢
  clear HL
  have HL := Lib.hid hlen
  clear hlen
  go_enter Tryz.func87, Tryz.ntmps87
  go_wp2_with fail
  refine HITS.out.mono ?_
  rintro e w1 ⟨v, rfl, ho, hb1⟩
  obtain ⟨A', c', rfl⟩ := made_len ho
  have HO := Lib.hid ho
  have HB1 := Lib.hid hb1
  clear ho hb1
  go_wp2_with fail
  go_loopw [2, 3, 10] (fun h d i wr => ∃ (k : Nat) (s : Int × Int), k ≤ xs.length ∧ i = .int .i64 k ∧ h = .int .i64 s.1 ∧ d = .int .i64 s.2 ∧ cfold ns (xs.drop k) s = cfold ns xs (0, 0) ∧ Below w1.heap.size w1 wr) (fun _ _ i _ => xs.length - (intOf i).toNat)
  case atStart => exact ⟨0, (0, 0), by omega, rfl, rfl, rfl, rfl, Below.refl _ _⟩
  case round =>
    obtain ⟨k, s, hk, rfl, rfl, rfl, hfo, hlow⟩ := hrel
    by_cases hlt : k < xs.length
    · obtain ⟨x, hx, hxd⟩ : ∃ x, xs[k]? = some x ∧ xs.drop k = x :: xs.drop (k + 1) := ⟨xs[k], List.getElem?_eq_getElem hlt, List.drop_eq_getElem_cons hlt⟩
      have hxm : x ∈ xs := List.mem_of_getElem? hx
      have hxl2 := (HLT.out x hxm).2
      obtain ⟨n, hn, hnd⟩ := get_drop (l := ns) (k := x) (by rw [HL.out]; omega)
      have HRN := Lib.hid (HRT.out n (List.mem_of_getElem? hn))
      have HNN := Lib.hid hn
      obtain ⟨b, off, rfl, hb, hnode⟩ := seg_node HSEG.out hn
      have HLW := Lib.hid (andThen HB1.out hlow)
      have hnr : NodeAt wr b (off + x * 19) n := hnode.below HLW.out hb
      have hld0 : (ldN ⟨b, off + x * 19, none⟩).run Tryz.prog wr = .ok (.agg (nc n)) wr := run_ldN hnr
      rw [hxd] at hfo
      have HFO := Lib.hid (show cfold ns (xs.drop (k + 1)) (cstep s n) = cfold ns xs (0, 0) by simpa [cfold, hn] using hfo)
      obtain ⟨g, rfl, hg⟩ : ∃ g, A' = some ⟨g, 0, none⟩ ∧ g < w1.heap.size := by
        rcases id HO.out.2 with ⟨_, h5⟩ | ⟨g, _, _, h5, _, h6, _⟩
        · omega
        · simp at h5
          exact ⟨g, h5.1, (Array.getElem?_eq_some_iff.1 h6).1⟩
      have hxc : wr.cell? ⟨g, k, none⟩ = some (.int .i64 x) := by
        rw [hlow.cell (p := ⟨g, k, none⟩) hg, World.ownsRow.cellAt HO.out k (by omega), List.getElem?_map, hx]
        rfl
      have hgl : g < wr.heap.size := Nat.lt_of_lt_of_le hg hlow.size
      clear hn hnd hx hnode hxd hfo hnr
      by_cases hk5 : n.kind = 3 ∨ n.kind = 4 ∨ n.kind = 5
      · rcases hk5 with hk | hk | hk
        · have e3 : (n.kind == 3) = true := by simp [hk]
          have HST := Lib.hid (show cstep s n = (max s.1 n.wd, n.dp) by unfold cstep; rw [if_pos (by omega)])
          clear hk
          go_wp2_with (first | (with_reducible show wpList _ _ _ _ _ _; refine wpList_alloc_node rfl rfl ?_) | (with_reducible show wpList _ _ _ _ _ _; refine wpList_store_node rfl _ _ rfl _ _ _ rfl rfl _ (by repeat (first | (apply Blk.new'; first | rfl | (simp; done)) | assumption | apply Blk.alloc)) ?_))
          go_region
          all_goals go_wp2_with fail
          all_goals go_roundw
          all_goals first | (case measure => simp [intOf]; omega) | (case rel => exact ⟨k + 1, (max s.1 n.wd, n.dp), by omega, by go_num, rfl, rfl, by have hf := HFO.out; rw [HST.out] at hf; exact hf, by repeat (first | exact hlow | refine below_drewN ?_ _ | refine andAlloc ?_ _)⟩)
        · have e3 : (n.kind == 3) = false := by simp [hk]
          have e4 : (n.kind == 4) = true := by simp [hk]
          have HST := Lib.hid (show cstep s n = (max s.1 (n.wd + n.shift), n.dp) by unfold cstep; rw [if_neg (by omega), if_pos (by omega)])
          have hd := right_wd HRN.out (by omega)
          unfold dm at hd
          have hsh := box_shift HRN.out (by omega)
          have hw1 : IntKind.i64.wrap (n.wd + n.shift) = n.wd + n.shift := IntWalk.i64_in _ (by omega)
          clear hd hsh
          clear hk
          go_wp2_with (first | (with_reducible show wpList _ _ _ _ _ _; refine wpList_alloc_node rfl rfl ?_) | (with_reducible show wpList _ _ _ _ _ _; refine wpList_store_node rfl _ _ rfl _ _ _ rfl rfl _ (by repeat (first | (apply Blk.new'; first | rfl | (simp; done)) | assumption | apply Blk.alloc)) ?_))
          go_region
          all_goals go_wp2_with fail
          all_goals go_roundw
          all_goals first | (case measure => simp [intOf]; omega) | (case rel => exact ⟨k + 1, (max s.1 (n.wd + n.shift), n.dp), by omega, by go_num, rfl, rfl, by have hf := HFO.out; rw [HST.out] at hf; exact hf, by repeat (first | exact hlow | refine below_drewN ?_ _ | refine andAlloc ?_ _)⟩)
        · have e3 : (n.kind == 3) = false := by simp [hk]
          have e4 : (n.kind == 4) = false := by simp [hk]
          have e5 : (n.kind == 5) = true := by simp [hk]
          have HST := Lib.hid (show cstep s n = (max s.1 (n.wd + n.shift), n.dp) by unfold cstep; rw [if_neg (by omega), if_pos (by omega)])
          have hd := right_wd HRN.out (by omega)
          unfold dm at hd
          have hsh := box_shift HRN.out (by omega)
          have hw1 : IntKind.i64.wrap (n.wd + n.shift) = n.wd + n.shift := IntWalk.i64_in _ (by omega)
          clear hd hsh
          clear hk
          go_wp2_with (first | (with_reducible show wpList _ _ _ _ _ _; refine wpList_alloc_node rfl rfl ?_) | (with_reducible show wpList _ _ _ _ _ _; refine wpList_store_node rfl _ _ rfl _ _ _ rfl rfl _ (by repeat (first | (apply Blk.new'; first | rfl | (simp; done)) | assumption | apply Blk.alloc)) ?_))
          go_region
          all_goals go_wp2_with fail
          all_goals go_roundw
          all_goals first | (case measure => simp [intOf]; omega) | (case rel => exact ⟨k + 1, (max s.1 (n.wd + n.shift), n.dp), by omega, by go_num, rfl, rfl, by have hf := HFO.out; rw [HST.out] at hf; exact hf, by repeat (first | exact hlow | refine below_drewN ?_ _ | refine andAlloc ?_ _)⟩)
      · have e3 : (n.kind == 3) = false := by simp; omega
        have e4 : (n.kind == 4) = false := by simp; omega
        have e5 : (n.kind == 5) = false := by simp; omega
        have HST := Lib.hid (show cstep s n = (s.1, 0) by unfold cstep; rw [if_neg (by omega), if_neg (by omega)])
        clear hk5
        go_wp2_with (first | (with_reducible show wpList _ _ _ _ _ _; refine wpList_alloc_node rfl rfl ?_) | (with_reducible show wpList _ _ _ _ _ _; refine wpList_store_node rfl _ _ rfl _ _ _ rfl rfl _ (by repeat (first | (apply Blk.new'; first | rfl | (simp; done)) | assumption | apply Blk.alloc)) ?_))
        go_roundw
        case rel => exact ⟨k + 1, (s.1, 0), by omega, by go_num, rfl, rfl, by have hf := HFO.out; rw [HST.out] at hf; exact hf, by repeat (first | exact hlow | refine below_drewN ?_ _ | refine andAlloc ?_ _)⟩
        case measure => simp [intOf]; omega
    · obtain rfl : k = xs.length := by omega
      rw [List.drop_of_length_le (Nat.le_refl _)] at hfo
      have hfo : s = cfold ns xs (0, 0) := hfo
      subst hfo
      have HLW := Lib.hid (andThen HB1.out hlow)
      go_wp2_with fail
      go_ret2
      exact ⟨rfl, HLW.out⟩
end Go.Proofs.YtoboecenlangmaaGreat.No
end
section
namespace Go.Proofs.YtoboecenlangmaaGreat.No
open Go.ChangeShapes Go.WideShapes Go.ChangeAt Go.RowKit
open Me Np
set_option linter.unusedVariables false
set_option linter.unusedSimpArgs false

/-- A list's height and depth in a row. -/
noncomputable def rowD (ns : List Nd) (xs : List Nat) : Int × Int := rfold (roD ns) xs (0, 0)
/-- A list's extent. -/
noncomputable def extD (ns : List Nd) (down : Bool) (xs : List Nat) : Int × Int := if down = true then cfold ns xs (0, 0) else rowD ns xs
/-- What Extent answers. -/
def extV (P : Int × Int) : Value := .tuple #[.int .i64 (if (dimB P.1 && dimB P.2) = true then P.1 else 0), .int .i64 (if (dimB P.1 && dimB P.2) = true then P.2 else 0), .int .i64 (if (dimB P.1 && dimB P.2) = true then 0 else 20)]
theorem ext_yes {P : Int × Int} (h : (dimB P.1 && dimB P.2) = true) : Ending.returned (.tuple #[.int .i64 P.1, .int .i64 P.2, .int .i64 0]) = .returned (extV P) := by unfold extV; rw [if_pos h, if_pos h, if_pos h]
theorem ext_no {P : Int × Int} (h : (dimB P.1 && dimB P.2) = false) : Ending.returned (.tuple #[.int .i64 0, .int .i64 0, .int .i64 20]) = .returned (extV P) := by unfold extV; rw [if_neg (by rw [h]; decide), if_neg (by rw [h]; decide), if_neg (by rw [h]; decide)]
theorem row_any (A : Option Addr) (ns : List Nd) (c : Nat) (xs : List Nat) (w : World) (hc : chk ns = 0) (hcap : ns.length ≤ c) (hseg : Seg w w.heap.size A (ns.flatMap ncs)) (hx : Its xs ns 0) :
    Calls Tryz.prog 86 #[.slice A ns.length c] w fun e w' => e = .returned (.tuple #[.int .i64 (rowD ns xs).1, .int .i64 (rowD ns xs).2]) ∧ Below w.heap.size w w' := by
  have hl := (chk_run hc).1
  have hr := chk_right hc
  refine row_of A ns c xs (roD ns) w hl hseg hx hr (fun k _ => roD_rv hr k) ?_ ?_
  · intro k hk n hn h10
    exact roD_of ⟨n, hn, by rw [if_neg h10]⟩
  · intro k hk n hn h10 w1 hb1
    obtain ⟨m, hm⟩ := item_ends hc hn (by omega) (by omega)
    obtain ⟨hm2, ss, hss⟩ := disc_steps hc hn h10 hm
    obtain ⟨xs', hxs, hsm⟩ := thr_its 2 0 hss
    have hv : RoV ns k (rfold (ra0 (thr ss (ns.drop (k + 1)) 0 2)) xs' (0, 0)) := ⟨n, hn, by rw [if_pos h10]; exact ⟨ss, m - 2, xs', hss, hxs, rfl⟩⟩
    rw [roD_of hv]
    have hr3 : ∀ y ∈ thr ss (ns.drop (k + 1)) 0 2, right y = true := fun y hy => hr y (List.mem_of_mem_drop (thr_mem y hy))
    have hlen : (thr ss (ns.drop (k + 1)) 0 2).length ≤ 2000 := by
      have h1 := thr_len (j := 2) hss
      have h2 := hss.le
      rw [List.length_drop] at h2
      omega
    refine (three_any A ns c k m ss n w1 hc hcap (Seg.belowW hseg hb1) hn hm hss hm2).mono ?_
    rintro e w2 ⟨vs, rfl, ho, hb2⟩
    obtain ⟨A2, c2, h2, hc2, _, hs2⟩ := Seg.of_own (ho.own 2 (by omega))
    refine ⟨vs, A2, c2, _, rfl, h2, hb2, ?_⟩
    have hsm' : ∀ x ∈ xs', ∀ y, (thr ss (ns.drop (k + 1)) 0 2)[x]? = some y → smallB y = true := fun x hx' y hy => by
      obtain ⟨y', hy', hs⟩ := hsm x hx'
      rw [Nat.sub_zero, hy] at hy'
      injection hy' with e
      rw [e]
      exact hs
    refine row_of A2 (thr ss (ns.drop (k + 1)) 0 2) c2 xs' (ra0 (thr ss (ns.drop (k + 1)) 0 2)) w2 hlen hs2 hxs hr3 (fun x _ => ra0_rv hr3 x) (fun x hx' y hy _ => by simp [ra0, hy]) (fun x hx' y hy h => ?_)
    have := hsm' x hx' y hy
    simp [smallB, h] at this
set_option maxHeartbeats 1000000 in
set_option maxRecDepth 100000 in
theorem extent_bad (A : Option Addr) (ns : List Nd) (c : Nat) (down : Bool) (w : World) (hl : ns.length ≤ 9223372036854775806) (hseg : Seg w w.heap.size A (ns.flatMap ncs)) (hc : ¬ chk ns = 0) :
    Calls Tryz.prog 45 #[.slice A ns.length c, .bool down] w fun e w' => e = .returned (.tuple #[.int .i64 0, .int .i64 0, .int .i64 (chk ns)]) ∧ Below w.heap.size w w' := by
  have HC := Lib.hid (check_any A ns c w (by omega) hseg)
  have e0 : (chk ns != 0) = true := by simp [hc]
  clear hseg hc
  generalize chk ns = v at *
  generalize ns.length = len at *
  go_enter Tryz.func45, Tryz.ntmps45
  go_wp2_with fail
  refine HC.out.mono ?_
  rintro e w1 ⟨rfl, hb1⟩
  go_wp2_with fail
  go_ret3
  exact ⟨rfl, hb1⟩
set_option maxHeartbeats 1000000 in
set_option maxRecDepth 100000 in
theorem extent_good (A : Option Addr) (ns : List Nd) (c : Nat) (xs : List Nat) (down : Bool) (w : World) (hc : chk ns = 0) (hcap : ns.length ≤ c) (hseg : Seg w w.heap.size A (ns.flatMap ncs)) (hx : Its xs ns 0) :
    Calls Tryz.prog 45 #[.slice A ns.length c, .bool down] w fun e w' => e = .returned (extV (extD ns down xs)) ∧ Below w.heap.size w w' := by
  have hl := (chk_run hc).1
  have hr := chk_right hc
  have HC := Lib.hid (check_any A ns c w (by omega) hseg)
  have HR := Lib.hid fun w1 (h : Below w.heap.size w w1) => row_any A ns c xs w1 hc hcap (Seg.belowW hseg h) hx
  have HCO := Lib.hid fun w1 (h : Below w.heap.size w w1) => column_of A ns c xs w1 hl (Seg.belowW hseg h) hx hr
  rw [hc] at HC
  have HE0 := Lib.hid (show down = false → extD ns down xs = rowD ns xs from fun h => by rw [h]; rfl)
  have HE1 := Lib.hid (show down = true → extD ns down xs = cfold ns xs (0, 0) from fun h => by rw [h]; rfl)
  generalize extD ns down xs = E at *
  clear hseg hc hx hr hcap
  generalize hQ : cfold ns xs (0, 0) = Q at *
  generalize hP0 : rowD ns xs = P0 at *
  clear hQ hP0
  generalize ns.length = len at *
  go_enter Tryz.func45, Tryz.ntmps45
  go_wp2_with fail
  refine HC.out.mono ?_
  rintro e w1 ⟨rfl, hb1⟩
  go_wp2_with fail
  refine (HR.out _ hb1).mono ?_
  rintro e w2 ⟨rfl, hb2⟩
  have hb12 := andThen hb1 hb2
  cases down
  · have HLX := Lib.hid hb12
    clear hb1 hb2 hb12
    have hE := HE0.out (by first | rfl | trivial)
    clear HE0 HE1
    subst hE
    cases hD : dimB E.1 && dimB E.2
    all_goals
      have HD := Lib.hid hD
      clear hD
      go_wp2_with (go_at_call 85; refine (dimen2 _ E.1 E.2 _ (by simp [go_sem]) (by simp [go_sem])).mono ?_; rintro e w' ⟨rfl, rfl⟩; simp only [HD.out])
      go_ret3
      exact ⟨by first | exact ext_no HD.out | exact ext_yes HD.out, andAlloc HLX.out _⟩
  · go_wp2_with fail
    refine (HCO.out _ hb12).mono ?_
    rintro e w3 ⟨rfl, hb3⟩
    have HLX := Lib.hid (andThen hb12 hb3)
    clear hb1 hb2 hb12 hb3
    have hE := HE1.out (by first | rfl | trivial)
    clear HE0 HE1
    subst hE
    cases hD : dimB E.1 && dimB E.2
    all_goals
      have HD := Lib.hid hD
      clear hD
      go_wp2_with (go_at_call 85; refine (dimen2 _ E.1 E.2 _ (by simp [go_sem]) (by simp [go_sem])).mono ?_; rintro e w' ⟨rfl, rfl⟩; simp only [HD.out])
      go_ret3
      exact ⟨by first | exact ext_no HD.out | exact ext_yes HD.out, andAlloc HLX.out _⟩
end Go.Proofs.YtoboecenlangmaaGreat.No
end
section
namespace Go.Proofs.YtoboecenlangmaaGreat.No
open Go.ChangeShapes Go.WideShapes Go.ChangeAt Go.RowKit
open Me Np
set_option linter.unusedVariables false
set_option linter.unusedSimpArgs false

theorem run_append_seg {w : World} (ty : TypeId) (base : Nat) (hbase : base ≤ w.heap.size) (v : Value) (n : Nat) (xs : List Value) (hown : w.ownsRow base 101 19 v n xs) (B : Nat) (A : Option Addr) (c : Nat) (l : List Nd) (hs : Seg w B A (l.flatMap ncs)) (hA : A = none → c = 0) (hn : n + l.length ≤ 100000) :
    ∃ v' w', (Builtin.append_ #[39, 39] ty #[v, .slice A l.length c]).run Tryz.prog w = .ok v' w' ∧ w'.ownsRow base 101 19 v' (n + l.length) (xs ++ l.flatMap ncs) ∧ w.grownBy w' v.ownBlock := by
  obtain ⟨i, hi, hz, hsi, hbi⟩ := info_parts node_row
  have hl0 : l.flatMap ncs = [] → l = [] := fun h => by
    have := flat_length ncs_length l
    rw [h] at this
    simp only [List.length_nil] at this
    exact List.eq_nil_of_length_eq_zero (by omega)
  cases A with
  | none =>
    obtain rfl := hA rfl
    have hl : l = [] := by
      rcases hs with h | ⟨b, off, e, _⟩
      · exact hl0 h
      · cases e
    subst hl
    exact ⟨v, w, run_append_owned_none w base 39 ty 101 i 19 Tryz.underlying39 hi v n xs hown, by simpa using hown, rfl, rfl, rfl, Nat.le_refl _, fun k _ _ => rfl⟩
  | some ad =>
    have hc : ∀ j u, (l.flatMap ncs)[j]? = some u → w.cell? (ad.add j) = some u := by
      rcases hs with h | ⟨b, off, e, _, h⟩
      · intro j u hu
        rw [h] at hu
        simp at hu
      · injection e with e
        subst e
        intro j u hu
        have hadd : (⟨b, off, none⟩ : Addr).add j = ⟨b, off + j, none⟩ := by unfold Addr.add; split <;> simp_all
        rw [hadd]
        exact h j u hu
    obtain ⟨v', w', hr, h2, h3, _⟩ := run_append_own (P := Tryz.prog) w base 39 ty 101 i _ 19 160 Tryz.underlying39 hi hz hsi hbi rfl (by decide) v n xs hown ad l.length c (l.flatMap ncs) (flat_length ncs_length l) hc (ncs_one l) (by simp only [maxLen]; omega) (by omega) hbase
    exact ⟨v', w', hr, h2, h3⟩
theorem wpList_append_seg {ops : Array Oper} {rest : List Oper} {o : Oper} {a : Act} {w : World} {Q : Exit → Act → World → Prop} (hgd : o.guard = none) (s x : Operand) (ho : o.op = .call { callee := .builtin .append, args := #[s, x], argTypes := #[39, 39] })
    (base : Nat) (hbase : base ≤ w.heap.size) (v : Value) (n : Nat) (xs : List Value) (hs : a.eval s = v) (hown : w.ownsRow base 101 19 v n xs) (B : Nat) (A : Option Addr) (c len : Nat) (l : List Nd) (hx : a.eval x = .slice A len c) (hlen : len = l.length) (hseg : Seg w B A (l.flatMap ncs)) (hA : A = none → c = 0) (hn : n + l.length ≤ 100000)
    (h : ∀ v' w', w'.ownsRow base 101 19 v' (n + l.length) (xs ++ l.flatMap ncs) → w.grownBy w' v.ownBlock → wpList Tryz.prog ops Q rest (a.put o.dst v') w') : wpList Tryz.prog ops Q (o :: rest) a w :=
  wpList_plain hgd fun K hK => by
    subst hlen
    obtain ⟨v', w', hr, h2, h3⟩ := run_append_seg o.type base hbase v n xs hown B A c l hseg hA hn
    unfold Oper.wp execOp
    simp only [ho, resolve, invoke, builtin, Sem.run_bind, Sem.run_pure, Result.andThen_ok, List.map_toArray, List.map_cons, List.map_nil, hs, hx, hr]
    exact hK _ _ (h v' w' h2 h3)

end Go.Proofs.YtoboecenlangmaaGreat.No
end
section
namespace Go.Proofs.YtoboecenlangmaaGreat.No
open Go.ChangeShapes Go.WideShapes Go.ChangeAt Go.RowKit
open Me Np
set_option linter.unusedVariables false
set_option linter.unusedSimpArgs false

theorem own_one (w : World) (n : Nd) : (w.alloc (.cells (nc n) 101)).ownsRow w.heap.size 101 19 (.slice (some ⟨w.heap.size, 0, none⟩) 1 1) 1 (ncs n) :=
  ⟨by rw [ncs_length], .inr ⟨w.heap.size, 1, nc n, rfl, Nat.le_refl _, heap_alloc_new w _, Nat.le_refl _, by simp [maxLen], by simp [nc_size], List.take_of_length_le (by rw [nc_list]; omega)⟩⟩
attribute [local go_sem ↓] ldN_eq bldN_eq
set_option maxHeartbeats 2000000 in
set_option maxRecDepth 100000 in
theorem wrap_ok (n : Nd) (A : Option Addr) (l : List Nd) (c : Nat) (w : World) (hsrc : Src w A c l) (hr : right n = true) (ho : opensB n = true) (h10 : ¬ n.kind = 10) (hc : chk l = 0) (hw : chk (wrapL n l) = 0) :
    Calls Tryz.prog 88 #[.agg (nc n), .slice A l.length c] w (MadeNE w (wrapL n l)) := by
  have hl := (chk_run hc).1
  have e10 : (n.kind == 10) = false := by simp [h10]
  have HO := Lib.hid ho
  have HR := Lib.hid hr
  have HC := Lib.hid fun w1 (h : Below w.heap.size w w1) => check_any A l c w1 (by omega) (Src.below hsrc h).seg
  have HE := Lib.hid hc
  have HS := Lib.hid hsrc
  have HW := Lib.hid hw
  rw [HE.out] at HC
  clear hc ho hr hsrc hw h10
  go_enter Tryz.func88, Tryz.ntmps88
  go_wp2_with fail
  refine (kinds_any _).mono ?_
  rintro e w1 ⟨rfl, hq, hz1, hb1⟩
  have HQ := Lib.hid hq
  have HZ1 := Lib.hid hz1
  have hn1 : NodeAt w1 w.heap.size 0 n := NodeAt.below (Blk.node (Blk.new' rfl)) hb1 (by simp)
  have hl1 : Below w.heap.size w w1 := andThen (andAlloc (Below.refl _ _) _) hb1
  clear hq hz1 hb1
  have hld1 : ∀ o : Obj, (ldN ⟨w.heap.size, 0, none⟩).run Tryz.prog (w1.alloc o) = .ok (.agg (nc n)) (w1.alloc o) := fun o => run_ldN (hn1.alloc o)
  go_wp2_with (first
    | (refine wpList_store_row rfl 168 _ _ rfl w1.heap.size (ktab (w.heap.size + 1 + 1)) rfl rfl 168 Tryz.zeroCells168 (Blk.new' rfl) (by rw [ktab_size]; exact kinds_info) (by rw [ktab_size]; exact zero_size) (ktab_one _) ?_)
    | fail)
  have hq2 : (w1.alloc (.cells (ktab (w.heap.size + 1 + 1)) 168)).cell? ⟨w.heap.size + 1 + 1, 0, none⟩ = some (.func (.func 125) #[] #[]) := by
    have h1 := HQ.out
    have h2 := HZ1.out
    simp at h1 h2
    exact (World.cell?_alloc_past (w := w1) _ _ _ (by omega)).trans h1
  have hw2 := andAlloc hl1 (.cells (ktab (w.heap.size + 1 + 1)) 168)
  have hn2 := hn1.alloc (.cells (ktab (w.heap.size + 1 + 1)) 168)
  refine (right_any n w1.heap.size (w.heap.size + 1 + 1) _ (Blk.new' rfl) hq2).mono ?_
  rintro e w2 ⟨rfl, hb2⟩
  have hl2 := andThen hw2 hb2
  have hn2' := hn2.below hb2 hn2.lt
  have hc2 : w2.cell? ⟨w.heap.size, 0, none⟩ = some (.int .i64 n.kind) := hn2' 0 _ rfl
  have hz2 := hn2'.lt
  rw [HR.out]
  have hld2 : (ldN ⟨w.heap.size, 0, none⟩).run Tryz.prog w2 = .ok (.agg (nc n)) w2 := run_ldN hn2'
  have hld3 : ∀ o : Obj, (ldN ⟨w.heap.size, 0, none⟩).run Tryz.prog (w2.alloc o) = .ok (.agg (nc n)) (w2.alloc o) := fun o => run_ldN (hn2'.alloc o)
  clear hq2 hw2 hn2 hb2 hn1 hl1 HQ HZ1 hld1
  go_wp2_with (first
    | (go_at_call 79; (with_reducible refine (opens_any _ _).mono ?_); rintro e w' ⟨rfl, rfl⟩; simp only [HO.out]))
  have hl3 := andAlloc hl2 (.cells (nc n) 101)
  have hn3 := hn2'.alloc (.cells (nc n) 101)
  refine (HC.out _ hl3).mono ?_
  rintro e w3 ⟨rfl, hb3⟩
  have HL3 := Lib.hid (andThen hl3 hb3)
  have hn4 := hn3.below hb3 hn3.lt
  have hld4 : (ldN ⟨w.heap.size, 0, none⟩).run Tryz.prog w3 = .ok (.agg (nc n)) w3 := run_ldN hn4
  have hb6 := run_bldN 6
  have HSR := Lib.hid (fun (W : World) (h : Below w.heap.size w W) => Src.below HS.out h)
  have HO1 := Lib.hid (own_one w3 n)
  have HLA := Lib.hid (andAlloc HL3.out (.cells (nc n) 101))
  clear hl2 hn2' hc2 hz2 hld2 hld3 hl3 hn3 hb3 hn4 HC
  go_wp2_with (first
    | (refine wpList_ex (o := ⟨some 30, _, _, _, _, _⟩) (v := .slice (some ⟨w3.heap.size, 0, none⟩) 1 1) (w' := w3.alloc (.cells (nc n) 101)) rfl (by kernel_rfl) ?_)
    | (at_builtin; refine wpList_append_nodes rfl (.tmp 30) (.tmp 31) rfl w3.heap.size ?_ _ 1 _ rfl HO1.out A c l rfl (HSR.out _ HLA.out) ?_ ?_; simp; omega; intro v1 W1 hown1 hg1; have hlw1 : Below w.heap.size w W1 := below_grown (Nat.le_refl _) HLA.out hg1 (fun g hg => by have hh := HL3.out.size; have hg' : some w3.heap.size = some g := hg; injection hg' with hg'; omega))
    | (refine wpList_build_eq (o := ⟨some 34, _, _, _, _, _⟩) rfl _ _ rfl (nc (nz 6)) (by kernel_rfl) ?_)
    | (refine wpList_ex (o := ⟨some 35, _, _, _, _, _⟩) (v := .slice (some ⟨W1.heap.size, 0, none⟩) 1 1) (w' := W1.alloc (.cells (nc (nz 6)) 101)) rfl (by kernel_rfl) ?_)
    | (at_builtin; refine wpList_push rfl (.tmp 33) (.tmp 35) 39 rfl w3.heap.size 101 _ 19 160 Tryz.underlying39 node_row rfl (by decide) (by decide) _ _ _ rfl hown1 ?_ _ rfl rfl rfl rfl ?_ ?_; (have hh := hg1.size; simp at hh; omega); omega; intro v2 W2 hown2 hg2 hnn2)
    | fail)
  have hg2' : (W1.alloc (.cells (nc (nz 6)) 101)).grownBy W2 v1.ownBlock := hg2
  clear hg2 hnn2
  have hlw2 : Below w.heap.size w W2 := below_grown (Nat.le_refl _) (andAlloc hlw1 _) hg2' (fun g hg => by
    have h1 := hown1.lt g hg
    have h2 := HL3.out.size
    omega)
  have hfl : (wrapL n l).flatMap ncs = ncs n ++ l.flatMap ncs ++ (nc (nz 6)).toList := by
    show _ = ncs n ++ l.flatMap ncs ++ ncs (nz 6)
    simp [wrapL, List.flatMap_append]
  have hln : 1 + l.length + 1 = (wrapL n l).length := by
    simp [wrapL]
    omega
  rw [← hfl, hln] at hown2
  have HOW := Lib.hid (own_base hown2 (show w.heap.size ≤ w3.heap.size from HL3.out.size))
  obtain ⟨A2, c2, rfl, hc2, hm2, hs2⟩ := Seg.of_own hown2
  have hch := check_any A2 (wrapL n l) c2 W2 (by rw [← hln]; omega) hs2
  rw [HW.out] at hch
  have HLW2 := Lib.hid hlw2
  clear hg2' hown2 hown1 hg1 hlw1 hlw2 hfl hs2 hm2 HSR HO1 HLA hld4 hb6
  generalize hwl : (wrapL n l).length = wl at *
  have HWL := Lib.hid hwl
  clear hwl
  refine hch.mono ?_
  rintro e w5 ⟨rfl, hb5⟩
  have HF := Lib.hid (own_below HOW.out hb5)
  have HLF := Lib.hid (andThen HLW2.out hb5)
  clear hch hb5 HOW HLW2
  go_wp2_with fail
  go_ret2
  exact ⟨.slice A2 wl c2, rfl, by rw [HWL.out]; exact HF.out, HLF.out⟩
end Go.Proofs.YtoboecenlangmaaGreat.No
end
section
namespace Go.Proofs.YtoboecenlangmaaGreat.Pk
open Go.ChangeShapes Go.WideShapes Go.ChangeAt Go.RowKit
open Me Np No
set_option linter.unusedVariables false
set_option linter.unusedSimpArgs false

/-- What a list measures. -/
structure Msr (l : List Nd) (down : Bool) (x a b c d p q r s e1 h v e2 : Int) : Prop where
  tot : ∀ (A : Option Addr) (k : Nat) (w : World), l.length ≤ k → Seg w w.heap.size A (l.flatMap ncs) → Calls Tryz.prog 44 #[.slice A l.length k, .bool down] w fun e w' => e = .returned (.tuple #[.agg #[.int .i64 x, .int .i64 a, .int .i64 b, .int .i64 c, .int .i64 d, .int .i64 p, .int .i64 q, .int .i64 r, .int .i64 s], .int .i64 e1]) ∧ Below w.heap.size w w'
  ext : ∀ (A : Option Addr) (k : Nat) (w : World), l.length ≤ k → Seg w w.heap.size A (l.flatMap ncs) → Calls Tryz.prog 45 #[.slice A l.length k, .bool down] w fun e w' => e = .returned (.tuple #[.int .i64 h, .int .i64 v, .int .i64 e2]) ∧ Below w.heap.size w w'
  nat : e1 = 0 → dimB x = true
  near : e1 = 0 → Gl.nearB a = true ∧ Gl.nearB b = true ∧ Gl.nearB c = true ∧ Gl.nearB d = true ∧ Gl.nearB p = true ∧ Gl.nearB q = true ∧ Gl.nearB r = true ∧ Gl.nearB s = true
  err : e1 = 0 → e2 = 0 ∨ e2 = 20
  hv : e2 = 0 → dimB h = true ∧ dimB v = true
theorem near_of {z : Int} (h : -(1073741823 * ((2000 : Nat) : Int)) ≤ z ∧ z ≤ 1073741823 * ((2000 : Nat) : Int)) : Gl.nearB z = true := by
  unfold Gl.nearB
  rw [decide_eq_true_eq]
  omega
attribute [local go_sem ↓] ldN_eq
set_option maxRecDepth 100000 in
/-- The maker's wrap. -/
theorem mwrap_any (g : Nat) (n : Nd) (x a b c d p q r s : Int) (em : Bool) (bad ov : Int) (S L : List Nd) (e0 : Int) (A : Option Addr) (k : Nat) (w : World) (hg : Mk w g n x a b c d p q r s em bad ov 0)
    (hw : ∀ (A : Option Addr) (c : Nat) (w : World), Src w A c S → Calls Tryz.prog 88 #[.agg (nc n), .slice A S.length c] w fun e' w' => ∃ v, e' = .returned (.tuple #[v, .int .i64 e0]) ∧ w'.ownsRow w.heap.size 101 19 v L.length (L.flatMap ncs) ∧ Below w.heap.size w w') (hs : Src w A k S) :
    Calls Tryz.prog 46 #[.pointer (some ⟨g, 0, none⟩), .slice A S.length k] w fun e' w' => ∃ v, e' = .returned (.tuple #[v, .int .i64 e0]) ∧ w'.ownsRow w.heap.size 101 19 v L.length (L.flatMap ncs) ∧ Below w.heap.size w w' := by
  have hc31 : w.cell? ⟨g, 31, none⟩ = some (.int .i64 0) := Blk.cell hg 31
  have hld := run_ldN hg.node
  have HW := Lib.hid (hw A k w hs)
  clear hg hw hs
  generalize S.length = len at *
  go_enter Tryz.func46, Tryz.ntmps46
  go_wp2_with fail
  refine HW.out.mono ?_
  rintro e w1 ⟨v, rfl, ho, hb⟩
  have HO := Lib.hid (And.intro ho hb)
  clear ho hb HW
  go_wp2_with fail
  go_ret2
  exact ⟨v, rfl, HO.out.1, HO.out.2⟩
end Go.Proofs.YtoboecenlangmaaGreat.Pk
end
section
namespace Go.Proofs.YtoboecenlangmaaGreat.Pk
open Go.ChangeShapes Go.WideShapes Go.ChangeAt Go.RowKit
open Me Np No
set_option linter.unusedVariables false
set_option linter.unusedSimpArgs false

/-- An append of nodes that lie somewhere; where the answer lies. -/
theorem wpList_append_at {ops : Array Oper} {rest : List Oper} {o : Oper} {a : Act} {w : World} {Q : Exit → Act → World → Prop} (hgd : o.guard = none) (s x : Operand) (ho : o.op = .call { callee := .builtin .append, args := #[s, x], argTypes := #[39, 39] })
    (base : Nat) (hbase : base ≤ w.heap.size) (v : Value) (n : Nat) (xs : List Value) (hs : a.eval s = v) (hown : w.ownsRow base 101 19 v n xs) (b off c len : Nat) (l : List Nd) (hx : a.eval x = .slice (some ⟨b, off, none⟩) len c) (hlen : len = l.length) (hb : l = [] ∨ b < w.heap.size) (hc : ∀ j u, (l.flatMap ncs)[j]? = some u → w.cell? ⟨b, off + j, none⟩ = some u) (hn : n + l.length ≤ 100000)
    (h : ∀ v' w', w'.ownsRow base 101 19 v' (n + l.length) (xs ++ l.flatMap ncs) → w.grownBy w' v.ownBlock → (v'.ownBlock = v.ownBlock ∨ v'.ownBlock = some w.heap.size) → wpList Tryz.prog ops Q rest (a.put o.dst v') w') : wpList Tryz.prog ops Q (o :: rest) a w :=
  wpList_plain hgd fun K hK => by
    subst hlen
    obtain ⟨v', w', hr, h2, h3, h4⟩   := Go.Proofs.YtoboecenlangmaaGreat.No.run_append_own_at o.type base hbase v n xs hown b off c l hb hc hn
    unfold Oper.wp execOp
    simp only [ho, resolve, invoke, builtin, Sem.run_bind, Sem.run_pure, Result.andThen_ok, List.map_toArray, List.map_cons, List.map_nil, hs, hx, hr]
    exact hK _ _ (h v' w' h2 h3 h4)
theorem beg_of {ns : List Nd} {a : Nat} {x : Nd} (hx : ns[a]? = some x) (h6 : ¬ x.kind = 6) (h11 : ¬ x.kind = 11) : begB ns a = true := by
  simp [begB, hx, h6, h11]
/-- Two rows of the call's own, each of its own block. -/
structure Own2 (w : World) (base : Nat) (v u : Value) (l m : List Nd) : Prop where
  one : w.ownsRow base 101 19 v l.length (l.flatMap ncs)
  two : w.ownsRow base 101 19 u m.length (m.flatMap ncs)
  dist : v.ownBlock = none ∨ v.ownBlock ≠ u.ownBlock
  dist' : u.ownBlock = none ∨ u.ownBlock ≠ v.ownBlock
theorem Own2.below {w w' : World} {base : Nat} {v u : Value} {l m : List Nd} (h : Own2 w base v u l m) (hb : Below w.heap.size w w') : Own2 w' base v u l m := ⟨own_below h.one hb, own_below h.two hb, h.dist, h.dist'⟩
theorem Own2.swap {w : World} {base : Nat} {v u : Value} {l m : List Nd} (h : Own2 w base v u l m) : Own2 w base u v m l := ⟨h.two, h.one, h.dist', h.dist⟩
theorem Own2.grow {w w' : World} {base : Nat} {v v' u : Value} {l m k : List Nd} (h : Own2 w base v u l m) (ho : w'.ownsRow base 101 19 v' (l.length + k.length) (l.flatMap ncs ++ k.flatMap ncs)) (hg : w.grownBy w' v.ownBlock) (hw : v'.ownBlock = v.ownBlock ∨ v'.ownBlock = some w.heap.size) : Own2 w' base v' u (l ++ k) m := by
  have hu : ∀ q, u.ownBlock = some q → q < w.heap.size := fun q hq => (h.two.lt q hq).2
  have hd : v'.ownBlock = none ∨ v'.ownBlock ≠ u.ownBlock := by
    rcases hw with e | e
    · rw [e]; exact h.dist
    · refine .inr ?_
      rw [e]
      intro e2
      have := hu _ e2.symm
      omega
  refine ⟨by rw [List.length_append, List.flatMap_append]; exact ho, h.two.kept hg h.dist', hd, ?_⟩
  cases e : u.ownBlock with
  | none => exact .inl rfl
  | some q =>
    refine .inr ?_
    rw [← e]
    rcases hd with hd | hd
    · rw [hd, e]; intro e2; cases e2
    · exact fun e2 => hd e2.symm
/-- What the loop of parted holds. -/
structure InvQ (ns : List Nd) (w : World) (R : List Nd × List Nd) (a : Nat) (v u : Value) (wr : World) : Prop where
  rest : ∃ ys s, Stand ns a ys ∧ partF ns ys s = R ∧ s.1.length ≤ a ∧ s.2.length ≤ a ∧ Own2 wr w.heap.size v u s.1 s.2
  low : Below w.heap.size w wr
theorem take_len {ns : List Nd} {a m : Nat} (h : a + m ≤ ns.length) : ((ns.drop a).take m).length = m := by
  rw [List.length_take, List.length_drop]; omega
theorem inn_len {ns : List Nd} {a m : Nat} (h : a + m ≤ ns.length) (h2 : 2 ≤ m) : (inn ns a m).length = m - 2 := by
  unfold inn
  rw [List.length_take, List.length_drop]; omega
set_option maxHeartbeats 4000000 in
set_option maxRecDepth 100000 in
theorem parted_any (A : Option Addr) (ns : List Nd) (c : Nat) (w : World) (hc : chk ns = 0) (hcap : ns.length ≤ c) (hseg : Seg w w.heap.size A (ns.flatMap ncs)) :
    Calls Tryz.prog 42 #[.slice A ns.length c] w fun e w' => ∃ v u, e = .returned (.tuple #[v, u]) ∧ Own2 w' w.heap.size v u (partD ns).1 (partD ns).2 ∧ Below w.heap.size w w' := by
  have hl := (chk_run hc).1
  have HIT := Lib.hid (fun (a m : Nat) w1 (h : Below w.heap.size w w1) hb hm => item_ok A ns c a m w1 (by omega) (Seg.belowW hseg h) hc hb hm)
  have HSG := Lib.hid hseg
  have HST := Lib.hid (stand0 hc (itsD_is hc))
  have HCK := Lib.hid hc
  have HR := Lib.hid (show partF ns (itsD ns) ([], []) = partD ns from rfl)
  generalize partD ns = R at HR ⊢
  clear hc hseg
  have hl0 := Lib.hid hl
  generalize hlen : ns.length = len at *
  have HL := Lib.hid hlen
  clear hlen
  go_enter Tryz.func42, Tryz.ntmps42
  go_wp2_with fail
  go_loopw [2, 3, 4] (fun v2 v3 v4 wr => ∃ a : Nat, v4 = .int .i64 (a : Int) ∧ InvQ ns w R a v2 v3 wr) (fun _ _ v4 _ => len - (intOf v4).toNat)
  case atStart => exact ⟨0, rfl, ⟨itsD ns, ([], []), HST.out, HR.out, by simp, by simp, World.ownsRow_nil _ _ _ _, World.ownsRow_nil _ _ _ _, .inl rfl, .inl rfl⟩, Below.refl _ _⟩
  case round =>
    obtain ⟨a, rfl, hI⟩ := hrel
    obtain ⟨ys, s, hst, hR, h1, h2, hO⟩ := hI.rest
    have HLOW := Lib.hid hI.low
    have hal := hst.le
    rw [HL.out] at hal
    by_cases hlt : a < len
    · obtain ⟨m, zs, x, rfl, hm, hm1, ham, hst', _, hx, h6, h11⟩ := hst.step (by rw [HL.out]; exact hl) (by rw [HL.out]; exact hlt)
      rw [HL.out] at ham
      obtain ⟨b, off, rfl, hb, hnode⟩ := seg_node HSG.out hx
      have HNO := Lib.hid hnode
      have HS := Lib.hid (And.intro hst' (And.intro hR hO))
      have HX := Lib.hid (And.intro hx hm)
      have HB := Lib.hid (beg_of hx h6 h11)
      have HH := Lib.hid (And.intro h1 h2)
      clear hst' hR hO hx hm hnode hI hst h1 h2
      have hifs : (if c = a then some (⟨b, off, none⟩ : Addr) else some ⟨b, off + a * 19, none⟩) = some ⟨b, off + a * 19, none⟩ := if_neg (by omega)
      have HIF := Lib.hid hifs
      have HTL := Lib.hid (show ((ns.drop a).take m).length = m from take_len (by rw [HL.out]; exact ham))
      have HAD := Lib.hid (fun w1 (h : Below w.heap.size w w1) => show ∀ j u, (((ns.drop a).take m).flatMap ncs)[j]? = some u → w1.cell? ⟨b, off + a * 19 + j, none⟩ = some u by
        rw [flat_take ncs_length, flat_drop ncs_length]
        intro j u hu
        have := seg_cells (Seg.take (Seg.drop (HSG.out.below h) (a * 19)) (m * 19)) j u hu
        have hadd : (⟨b, off + a * 19, none⟩ : Addr).add j = ⟨b, off + a * 19 + j, none⟩ := by unfold Addr.add; split <;> simp_all
        rwa [hadd] at this)
      clear hifs
      have hal1 : (a : Int) + m ≤ len := by omega
      have hal2 : (a : Int) + m ≤ c := by omega
      have hal3 : (a : Int) ≤ a + m := by omega
      have HTI : (inn ns a m).length ≤ m := by unfold inn; rw [List.length_take]; omega
      by_cases k13 : x.kind = 13
      · have e13 : (x.kind == 13) = true := by simp [k13]
        have HP := Lib.hid (pstep_out (s := s) HX.out.1 HX.out.2 (.inl k13))
        clear k13 h6 h11
        go_wp2_with (first | (go_at_call 80; refine (HIT.out a m _ HLOW.out HB.out HX.out.2).mono ?_; rintro e w1 ⟨rfl, hb1⟩; have hn1 : w1.cell? ⟨b, off + a * 19, none⟩ = some (.int .i64 x.kind) := (HNO.out.below HLOW.out hb).below hb1 (Nat.lt_of_lt_of_le hb HLOW.out.size) 0 _ rfl; have HB1 := Lib.hid hb1; have HO1 := Lib.hid (HS.out.2.2.below hb1); have HL1 := Lib.hid (andThen HLOW.out hb1); clear hb1) | (at_builtin; go_loud (refine wpList_append_at rfl (.tmp 28) (.tmp 32) rfl w.heap.size HL1.out.size _ _ _ rfl HO1.out.two b (off + a * 19) (c - a) (a + m - a) ((ns.drop a).take m) rfl (by rw [HTL.out]; omega) (.inr (Nat.lt_of_lt_of_le hb HL1.out.size)) (HAD.out _ HL1.out) (by rw [HTL.out]; have := HH.out.2; omega) ?_; intro v3 W3 hown3 hg3 hv3; have HG3 := Lib.hid (HO1.out.swap.grow hown3 hg3 hv3); have hlow3 := below_grown (Nat.le_refl _) HL1.out hg3 (fun q hq => (HO1.out.two.lt q hq).1); have HLW3 := Lib.hid hlow3; clear hown3 hg3 hv3 hlow3)))
        go_roundw
        case rel =>
          refine ⟨a + m, by go_num, ⟨zs, _, HS.out.1, HS.out.2.1, ?_, ?_, ?_⟩, HLW3.out⟩
          · rw [HP.out]; have := HH.out; have := HTL.out; simp only [List.length_append]; omega
          · rw [HP.out]; have := HH.out; have := HTL.out; have := HTI; simp only [List.length_append]; omega
          · rw [HP.out]; exact HG3.out.swap
        case measure => simp [intOf]; omega
      · have e13 : (x.kind == 13) = false := by simp [k13]
        by_cases k12 : x.kind = 12
        · have e12 : (x.kind == 12) = true := by simp [k12]
          have HP := Lib.hid (pstep_out (s := s) HX.out.1 HX.out.2 (.inr k12))
          clear k13 k12 h6 h11
          go_wp2_with (first | (go_at_call 80; refine (HIT.out a m _ HLOW.out HB.out HX.out.2).mono ?_; rintro e w1 ⟨rfl, hb1⟩; have hn1 : w1.cell? ⟨b, off + a * 19, none⟩ = some (.int .i64 x.kind) := (HNO.out.below HLOW.out hb).below hb1 (Nat.lt_of_lt_of_le hb HLOW.out.size) 0 _ rfl; have HB1 := Lib.hid hb1; have HO1 := Lib.hid (HS.out.2.2.below hb1); have HL1 := Lib.hid (andThen HLOW.out hb1); clear hb1) | (at_builtin; go_loud (refine wpList_append_at rfl (.tmp 28) (.tmp 32) rfl w.heap.size HL1.out.size _ _ _ rfl HO1.out.two b (off + a * 19) (c - a) (a + m - a) ((ns.drop a).take m) rfl (by rw [HTL.out]; omega) (.inr (Nat.lt_of_lt_of_le hb HL1.out.size)) (HAD.out _ HL1.out) (by rw [HTL.out]; have := HH.out.2; omega) ?_; intro v3 W3 hown3 hg3 hv3; have HG3 := Lib.hid (HO1.out.swap.grow hown3 hg3 hv3); have hlow3 := below_grown (Nat.le_refl _) HL1.out hg3 (fun q hq => (HO1.out.two.lt q hq).1); have HLW3 := Lib.hid hlow3; clear hown3 hg3 hv3 hlow3)))
          go_roundw
          case rel =>
            refine ⟨a + m, by go_num, ⟨zs, _, HS.out.1, HS.out.2.1, ?_, ?_, ?_⟩, HLW3.out⟩
            · rw [HP.out]; have := HH.out; have := HTL.out; simp only [List.length_append]; omega
            · rw [HP.out]; have := HH.out; have := HTL.out; have := HTI; simp only [List.length_append]; omega
            · rw [HP.out]; exact HG3.out.swap
          case measure => simp [intOf]; omega
        · have e12 : (x.kind == 12) = false := by simp [k12]
          by_cases k17 : x.kind = 17
          · have e17 : (x.kind == 17) = true := by simp [k17]
            have HP := Lib.hid (pstep_in (s := s) HX.out.1 HX.out.2 k17)
            have hm2 : 2 ≤ m := endc_two HX.out.1 (by simp [opensB, k17]) HX.out.2
            have HTN := Lib.hid (inn_len (ns := ns) (by rw [HL.out]; exact ham) hm2)
            have HAI := Lib.hid (fun w1 (h : Below w.heap.size w w1) => show ∀ j u, ((inn ns a m).flatMap ncs)[j]? = some u → w1.cell? ⟨b, off + (a + 1) * 19 + j, none⟩ = some u by
              unfold inn
              rw [flat_take ncs_length, flat_drop ncs_length]
              intro j u hu
              have := seg_cells (Seg.take (Seg.drop (HSG.out.below h) ((a + 1) * 19)) ((m - 2) * 19)) j u hu
              have hadd : (⟨b, off + (a + 1) * 19, none⟩ : Addr).add j = ⟨b, off + (a + 1) * 19 + j, none⟩ := by unfold Addr.add; split <;> simp_all
              rwa [hadd] at this)
            clear k13 k12 k17 h6 h11
            go_wp2_with (first | (go_at_call 80; refine (HIT.out a m _ HLOW.out HB.out HX.out.2).mono ?_; rintro e w1 ⟨rfl, hb1⟩; have hn1 : w1.cell? ⟨b, off + a * 19, none⟩ = some (.int .i64 x.kind) := (HNO.out.below HLOW.out hb).below hb1 (Nat.lt_of_lt_of_le hb HLOW.out.size) 0 _ rfl; have HB1 := Lib.hid hb1; have HO1 := Lib.hid (HS.out.2.2.below hb1); have HL1 := Lib.hid (andThen HLOW.out hb1); clear hb1) | (at_builtin; go_loud (refine wpList_append_at rfl (.tmp 34) (.tmp 40) rfl w.heap.size HL1.out.size _ _ _ rfl HO1.out.two b (off + (a + 1) * 19) (c - (a + 1)) (a + m - 1 - (a + 1)) (inn ns a m) rfl (by rw [HTN.out]; omega) (.inr (Nat.lt_of_lt_of_le hb HL1.out.size)) (HAI.out _ HL1.out) (by rw [HTN.out]; have := HH.out.2; omega) ?_; intro v3 W3 hown3 hg3 hv3; have HG3 := Lib.hid (HO1.out.swap.grow hown3 hg3 hv3); have hlow3 := below_grown (Nat.le_refl _) HL1.out hg3 (fun q hq => (HO1.out.two.lt q hq).1); have HLW3 := Lib.hid hlow3; clear hown3 hg3 hv3 hlow3)))
            go_roundw
            case rel =>
              refine ⟨a + m, by go_num, ⟨zs, _, HS.out.1, HS.out.2.1, ?_, ?_, ?_⟩, HLW3.out⟩
              · rw [HP.out]; have := HH.out; simp only; omega
              · rw [HP.out]; have := HH.out; have := HTI; simp only [List.length_append]; omega
              · rw [HP.out]; exact HG3.out.swap
            case measure => simp [intOf]; omega
          · have e17 : (x.kind == 17) = false := by simp [k17]
            have HP := Lib.hid (pstep_stay (s := s) HX.out.1 HX.out.2 k13 k12 k17)
            clear k13 k12 k17 h6 h11
            go_wp2_with (first | (go_at_call 80; refine (HIT.out a m _ HLOW.out HB.out HX.out.2).mono ?_; rintro e w1 ⟨rfl, hb1⟩; have hn1 : w1.cell? ⟨b, off + a * 19, none⟩ = some (.int .i64 x.kind) := (HNO.out.below HLOW.out hb).below hb1 (Nat.lt_of_lt_of_le hb HLOW.out.size) 0 _ rfl; have HB1 := Lib.hid hb1; have HO1 := Lib.hid (HS.out.2.2.below hb1); have HL1 := Lib.hid (andThen HLOW.out hb1); clear hb1) | (at_builtin; go_loud (refine wpList_append_at rfl (.tmp 42) (.tmp 46) rfl w.heap.size HL1.out.size _ _ _ rfl HO1.out.one b (off + a * 19) (c - a) (a + m - a) ((ns.drop a).take m) rfl (by rw [HTL.out]; omega) (.inr (Nat.lt_of_lt_of_le hb HL1.out.size)) (HAD.out _ HL1.out) (by rw [HTL.out]; have := HH.out.1; omega) ?_; intro v3 W3 hown3 hg3 hv3; have HG3 := Lib.hid (HO1.out.grow hown3 hg3 hv3); have hlow3 := below_grown (Nat.le_refl _) HL1.out hg3 (fun q hq => (HO1.out.one.lt q hq).1); have HLW3 := Lib.hid hlow3; clear hown3 hg3 hv3 hlow3)))
            go_roundw
            case rel =>
              refine ⟨a + m, by go_num, ⟨zs, _, HS.out.1, HS.out.2.1, ?_, ?_, ?_⟩, HLW3.out⟩
              · rw [HP.out]; have := HH.out; have := HTL.out; simp only [List.length_append]; omega
              · rw [HP.out]; have := HH.out; have := HTL.out; have := HTI; simp only [List.length_append]; omega
              · rw [HP.out]; exact HG3.out
            case measure => simp [intOf]; omega
    · obtain rfl : a = len := by omega
      have he : ys = [] := (show Stand ns ns.length ys from HL.out ▸ hst).done
      subst he
      have HS := Lib.hid (And.intro hR hO)
      clear hI hst hR hO h1 h2
      go_wp2_with fail
      go_ret2
      exact ⟨_, _, rfl, HS.out.1 ▸ HS.out.2, HLOW.out⟩
end Go.Proofs.YtoboecenlangmaaGreat.Pk
end
section
namespace Go.Proofs.YtoboecenlangmaaGreat.Pk
open Go.ChangeShapes Go.WideShapes Go.ChangeAt Go.RowKit
open Me Np No
set_option linter.unusedVariables false
set_option linter.unusedSimpArgs false

/-- What Hpack holds: the maker, and two rows. -/
structure Hs (w0 : World) (v u : Value) (S O : List Nd) (g : Nat) (n : Nd) (x a b c d p q r s : Int) (em : Bool) (bad ov wr : Int) (w : World) : Prop where
  mkr : Mk w g n x a b c d p q r s em bad ov wr
  own : Own2 w w0.heap.size v u S O
  low : Below w0.heap.size w0 w
  gl : w0.heap.size ≤ g
theorem Hs.below {w0 : World} {v u : Value} {S O : List Nd} {g : Nat} {n : Nd} {x a b c d p q r s : Int} {em : Bool} {bad ov wr : Int} {w w' : World} (h : Hs w0 v u S O g n x a b c d p q r s em bad ov wr w) (hb : Below w.heap.size w w') : Hs w0 v u S O g n x a b c d p q r s em bad ov wr w' :=
  ⟨h.mkr.below hb, h.own.below hb, andThen h.low hb, h.gl⟩
theorem ne_maker : (101 : Nat) ≠ 111 := by decide
theorem own_not_g {w w' : World} {base n g : Nat} {v : Value} {xs : List Value} {cs : Array Value} (h : w.ownsRow base 101 19 v n xs) (hb : Blk w g 111 cs) (hg : w.grownBy w' (some g)) : w'.ownsRow base 101 19 v n xs := by
  refine h.kept hg ?_
  rcases h.2 with ⟨rfl, _⟩ | ⟨q, cap, cur, rfl, _, hq, _⟩
  · exact .inl rfl
  · refine .inr ?_
    intro e
    have e' : q = g := by injection e
    subst e'
    have hp : w.heap[q]? = some (.cells _ 111 (0, 0)) := hb
    rw [hq] at hp
    simp only [Option.some.injEq, Obj.cells.injEq] at hp
    exact ne_maker hp.2.1
theorem Hs.turn {w0 : World} {v u : Value} {S O : List Nd} {g : Nat} {n n' : Nd} {x a b c d p q r s : Int} {x' a' b' c' d' p' q' r' s' : Int} {em : Bool} {bad ov wr bad' ov' wr' : Int} {w w' : World} (h : Hs w0 v u S O g n x a b c d p q r s em bad ov wr w) (hg : w.grownBy w' (some g)) (hm : Mk w' g n' x' a' b' c' d' p' q' r' s' em bad' ov' wr') :
    Hs w0 v u S O g n' x' a' b' c' d' p' q' r' s' em bad' ov' wr' w' :=
  ⟨hm, ⟨own_not_g h.own.one h.mkr hg, own_not_g h.own.two h.mkr hg, h.own.dist, h.own.dist'⟩, ⟨hg.os.trans h.low.os, hg.tape.trans h.low.tape, hg.output.trans h.low.output, Nat.le_trans h.low.size hg.size, fun q hq => (hg.block q (by have := h.low.size; omega) (by intro e; injection e with e; have := h.gl; omega)).trans (h.low.block q hq)⟩, h.gl⟩
/-- What Hpack answers. -/
def HOut (R : List Nd × List Nd × Int × Int × Int) (w : World) (e : Ending) (w' : World) : Prop := ∃ v u, e = .returned (.tuple #[v, u, .int .i64 R.2.2.1, .int .i64 R.2.2.2.1, .int .i64 R.2.2.2.2]) ∧ Own2 w' w.heap.size v u R.1 R.2.1 ∧ Below w.heap.size w w'
theorem HOut.no {w w' : World} (hb : Below w.heap.size w w') (E : Int) : HOut ([], [], 0, 0, E) w (.returned (.tuple #[.slice none 0 0, .slice none 0 0, .int .i64 0, .int .i64 0, .int .i64 E])) w' := ⟨_, _, rfl, ⟨World.ownsRow_nil _ _ _ _, World.ownsRow_nil _ _ _ _, .inl rfl, .inl rfl⟩, hb⟩
theorem dimen_any (z : Int) (w : World) : Calls Tryz.prog 41 #[.int .i64 z] w fun e w' => e = .returned (.bool (dimB z)) ∧ w = w' := by
  by_cases h0 : -1073741823 ≤ z
  · by_cases h1 : z ≤ 1073741823
    · have HD := Lib.hid (show dimB z = true by simp [dimB, h0, h1])
      go_enter Tryz.func41, Tryz.ntmps41
      go_wp2
      go_ret
      exact ⟨ret_bool (by rw [HD.out]), rfl⟩
    · have HD := Lib.hid (show dimB z = false by simp [dimB]; omega)
      go_enter Tryz.func41, Tryz.ntmps41
      go_wp2
      go_ret
      exact ⟨ret_bool (by rw [HD.out]), rfl⟩
  · have HD := Lib.hid (show dimB z = false by simp [dimB]; omega)
    go_enter Tryz.func41, Tryz.ntmps41
    go_wp2
    go_ret
    exact ⟨ret_bool (by rw [HD.out]), rfl⟩
theorem hpack_err (A : Option Addr) (ns : List Nd) (k : Nat) (tw : Int) (ex : Bool) (w : World) (hl : ns.length ≤ 9223372036854775806) (hseg : Seg w w.heap.size A (ns.flatMap ncs)) (hc : ¬ chk ns = 0) :
    Calls Tryz.prog 16 #[.slice A ns.length k, .int .i64 tw, .bool ex] w (HOut ([], [], 0, 0, chk ns) w) := by
  have e0 : (chk ns != 0) = true := by simp [hc]
  have HC := Lib.hid (check_any A ns k w (by omega) hseg)
  clear hseg hc
  generalize chk ns = q0 at *
  generalize ns.length = len at *
  go_enter Tryz.func16, Tryz.ntmps16
  go_wp2_with fail
  refine HC.out.mono ?_
  rintro e w1 ⟨rfl, hb1⟩
  go_wp2_with fail
  go_returns
  exact HOut.no hb1 _
theorem hpack_far (A : Option Addr) (ns : List Nd) (k : Nat) (tw : Int) (ex : Bool) (w : World) (hl : ns.length ≤ 9223372036854775806) (hseg : Seg w w.heap.size A (ns.flatMap ncs)) (hc : chk ns = 0) (ht : dimB tw = false) :
    Calls Tryz.prog 16 #[.slice A ns.length k, .int .i64 tw, .bool ex] w (HOut ([], [], 0, 0, 11) w) := by
  have HC := Lib.hid (check_any A ns k w (by omega) hseg)
  rw [hc] at HC
  have HD := Lib.hid (fun w => dimen_any tw w)
  rw [ht] at HD
  clear hseg hc
  generalize ns.length = len at *
  go_enter Tryz.func16, Tryz.ntmps16
  go_wp2_with fail
  refine HC.out.mono ?_
  rintro e w1 ⟨rfl, hb1⟩
  go_wp2_with (go_at_call 41; refine (HD.out _).mono ?_; rintro e w' ⟨rfl, rfl⟩)
  go_returns
  exact HOut.no hb1 _
theorem Mk.s19 {w : World} {g : Nat} {n : Nd} {x a b c d p q r s : Int} {em : Bool} {bad ov wr : Int} (h : Mk w g n x a b c d p q r s em bad ov wr) (z : Int) : Mk (w.setCell ⟨g, 19, none⟩ (.int .i64 z)) g n z a b c d p q r s em bad ov wr := Blk.set h 19 (.int .i64 z)
theorem Mk.s20 {w : World} {g : Nat} {n : Nd} {x a b c d p q r s : Int} {em : Bool} {bad ov wr : Int} (h : Mk w g n x a b c d p q r s em bad ov wr) (z : Int) : Mk (w.setCell ⟨g, 20, none⟩ (.int .i64 z)) g n x z b c d p q r s em bad ov wr := Blk.set h 20 (.int .i64 z)
theorem Mk.s21 {w : World} {g : Nat} {n : Nd} {x a b c d p q r s : Int} {em : Bool} {bad ov wr : Int} (h : Mk w g n x a b c d p q r s em bad ov wr) (z : Int) : Mk (w.setCell ⟨g, 21, none⟩ (.int .i64 z)) g n x a z c d p q r s em bad ov wr := Blk.set h 21 (.int .i64 z)
theorem Mk.s22 {w : World} {g : Nat} {n : Nd} {x a b c d p q r s : Int} {em : Bool} {bad ov wr : Int} (h : Mk w g n x a b c d p q r s em bad ov wr) (z : Int) : Mk (w.setCell ⟨g, 22, none⟩ (.int .i64 z)) g n x a b z d p q r s em bad ov wr := Blk.set h 22 (.int .i64 z)
theorem Mk.s23 {w : World} {g : Nat} {n : Nd} {x a b c d p q r s : Int} {em : Bool} {bad ov wr : Int} (h : Mk w g n x a b c d p q r s em bad ov wr) (z : Int) : Mk (w.setCell ⟨g, 23, none⟩ (.int .i64 z)) g n x a b c z p q r s em bad ov wr := Blk.set h 23 (.int .i64 z)
theorem Mk.s24 {w : World} {g : Nat} {n : Nd} {x a b c d p q r s : Int} {em : Bool} {bad ov wr : Int} (h : Mk w g n x a b c d p q r s em bad ov wr) (z : Int) : Mk (w.setCell ⟨g, 24, none⟩ (.int .i64 z)) g n x a b c d z q r s em bad ov wr := Blk.set h 24 (.int .i64 z)
theorem Mk.s25 {w : World} {g : Nat} {n : Nd} {x a b c d p q r s : Int} {em : Bool} {bad ov wr : Int} (h : Mk w g n x a b c d p q r s em bad ov wr) (z : Int) : Mk (w.setCell ⟨g, 25, none⟩ (.int .i64 z)) g n x a b c d p z r s em bad ov wr := Blk.set h 25 (.int .i64 z)
theorem Mk.s26 {w : World} {g : Nat} {n : Nd} {x a b c d p q r s : Int} {em : Bool} {bad ov wr : Int} (h : Mk w g n x a b c d p q r s em bad ov wr) (z : Int) : Mk (w.setCell ⟨g, 26, none⟩ (.int .i64 z)) g n x a b c d p q z s em bad ov wr := Blk.set h 26 (.int .i64 z)
theorem Mk.s27 {w : World} {g : Nat} {n : Nd} {x a b c d p q r s : Int} {em : Bool} {bad ov wr : Int} (h : Mk w g n x a b c d p q r s em bad ov wr) (z : Int) : Mk (w.setCell ⟨g, 27, none⟩ (.int .i64 z)) g n x a b c d p q r z em bad ov wr := Blk.set h 27 (.int .i64 z)
theorem Mk.n3 {w : World} {g : Nat} {n : Nd} {x a b c d p q r s : Int} {em : Bool} {bad ov wr : Int} (h : Mk w g n x a b c d p q r s em bad ov wr) (z : Int) : Mk (w.setCell ⟨g, 3, none⟩ (.int .i64 z)) g { n with wd := z } x a b c d p q r s em bad ov wr := Blk.set h 3 (.int .i64 z)
theorem Mk.n4 {w : World} {g : Nat} {n : Nd} {x a b c d p q r s : Int} {em : Bool} {bad ov wr : Int} (h : Mk w g n x a b c d p q r s em bad ov wr) (z : Int) : Mk (w.setCell ⟨g, 4, none⟩ (.int .i64 z)) g { n with ht := z } x a b c d p q r s em bad ov wr := Blk.set h 4 (.int .i64 z)
theorem Mk.n5 {w : World} {g : Nat} {n : Nd} {x a b c d p q r s : Int} {em : Bool} {bad ov wr : Int} (h : Mk w g n x a b c d p q r s em bad ov wr) (z : Int) : Mk (w.setCell ⟨g, 5, none⟩ (.int .i64 z)) g { n with dp := z } x a b c d p q r s em bad ov wr := Blk.set h 5 (.int .i64 z)
theorem mk_tot {w : World} {g : Nat} {n : Nd} {em : Bool} {bad ov wr : Int} {x' a' b' c' d' p' q' r' s' : Int} (h : Mk w g n x' a' b' c' d' p' q' r' s' em bad ov wr) (x a b c d p q r s : Int) : Mk (w.setCells g 19 [.int .i64 x, .int .i64 a, .int .i64 b, .int .i64 c, .int .i64 d, .int .i64 p, .int .i64 q, .int .i64 r, .int .i64 s]) g n x a b c d p q r s em bad ov wr := by
  simp only [World.setCells]
  exact (((((((((h.s19 x).s20 a).s21 b).s22 c).s23 d).s24 p).s25 q).s26 r).s27 s)
theorem mk_there {w : World} {g : Nat} {n : Nd} {em : Bool} {bad ov wr : Int} {x a b c d p q r s : Int} (h : Mk w g n x a b c d p q r s em bad ov wr) : w.there g 19 9 := by
  intro j hj
  refine ⟨?_, Blk.free h _⟩
  rw [Blk.cell h]
  rw [Array.getElem?_eq_getElem (by show 19 + j < 32; omega)]
  rfl
end Go.Proofs.YtoboecenlangmaaGreat.Pk
end
section
namespace Go.Proofs.YtoboecenlangmaaGreat.Pk
open Go.ChangeShapes Go.WideShapes Go.ChangeAt Go.RowKit
open Me Np No
set_option linter.unusedVariables false
set_option linter.unusedSimpArgs false

theorem Hs.seg {w0 w : World} {A : Option Addr} {l k : Nat} {u : Value} {S O : List Nd} {g : Nat} {n : Nd} {x a b c d p q r s : Int} {em : Bool} {bad ov wr : Int} (h : Hs w0 (.slice A l k) u S O g n x a b c d p q r s em bad ov wr w) : Seg w w.heap.size A (S.flatMap ncs) := by
  obtain ⟨A', c, e, _, _, hs⟩ := Seg.of_own h.own.one
  injection e with e _ _
  subst e
  exact hs
theorem t9_one (x a b c d p q r s : Int) : (#[.int .i64 x, .int .i64 a, .int .i64 b, .int .i64 c, .int .i64 d, .int .i64 p, .int .i64 q, .int .i64 r, .int .i64 s] : Array Value).all (·.oneCell') = true := by simp [Value.oneCell']
theorem grown_cells (g : Nat) : ∀ (vs : List Value) (o : Nat) (w : World), w.grownBy (w.setCells g o vs) (some g)
  | [], _, w => ⟨rfl, rfl, rfl, Nat.le_refl _, fun _ _ _ => rfl⟩
  | v :: r, o, w => grown_trans (grown_set w g o v) (grown_cells g r (o + 1) _)
theorem Hs.n45 {w0 : World} {v u : Value} {S O : List Nd} {g : Nat} {n : Nd} {x a b c d p q r s : Int} {em : Bool} {bad ov wr : Int} {w : World} (h : Hs w0 v u S O g n x a b c d p q r s em bad ov wr w) (z y : Int) : Hs w0 v u S O g { n with ht := z, dp := y } x a b c d p q r s em bad ov wr ((w.setCell ⟨g, 4, none⟩ (.int .i64 z)).setCell ⟨g, 5, none⟩ (.int .i64 y)) :=
  h.turn (grown_trans (grown_set _ _ _ _) (grown_set _ _ _ _)) ((h.mkr.n4 z).n5 y)
theorem Hs.n3 {w0 : World} {v u : Value} {S O : List Nd} {g : Nat} {n : Nd} {x a b c d p q r s : Int} {em : Bool} {bad ov wr : Int} {w : World} (h : Hs w0 v u S O g n x a b c d p q r s em bad ov wr w) (z : Int) : Hs w0 v u S O g { n with wd := z } x a b c d p q r s em bad ov wr (w.setCell ⟨g, 3, none⟩ (.int .i64 z)) :=
  h.turn (grown_set _ _ _ _) (h.mkr.n3 z)
theorem Hs.src {w0 w : World} {A : Option Addr} {l k : Nat} {u : Value} {S O : List Nd} {g : Nat} {n : Nd} {x a b c d p q r s : Int} {em : Bool} {bad ov wr : Int} (h : Hs w0 (.slice A l k) u S O g n x a b c d p q r s em bad ov wr w) : Src w A k S := by
  obtain ⟨A', c, e, _, _, hs⟩ := Src.own h.own.one
  injection e with e1 e2 e3
  subst e1
  subst e3
  exact hs
theorem Hs.out {w0 w w' : World} {v : Value} {u : Value} {S O L : List Nd} {g : Nat} {n : Nd} {x a b c d p q r s : Int} {em : Bool} {bad ov wr : Int} (h : Hs w0 v u S O g n x a b c d p q r s em bad ov wr w) {vL : Value} (ho : w'.ownsRow w.heap.size 101 19 vL L.length (L.flatMap ncs)) (hb : Below w.heap.size w w') (y z : Int) :
    HOut (L, O, y, z, 0) w0 (.returned (.tuple #[vL, u, .int .i64 y, .int .i64 z, .int .i64 0])) w' := by
  have hq : ∀ q, vL.ownBlock = some q → u.ownBlock ≠ some q := fun q h1 h2 => by
    have := (ho.lt q h1).1
    have := (h.own.two.lt q h2).2
    omega
  refine ⟨vL, u, rfl, ⟨own_base ho h.low.size, own_below h.own.two hb, ?_, ?_⟩, andThen h.low hb⟩
  · cases e : vL.ownBlock with
    | none => exact .inl rfl
    | some q => exact .inr (fun e' => hq q e e'.symm)
  · cases e : u.ownBlock with
    | none => exact .inl rfl
    | some q => exact .inr (fun e' => hq q e'.symm e)
theorem HOut.drewN {R : List Nd × List Nd × Int × Int × Int} {w w' : World} {e : Ending} (h : HOut R w e w') (n : Nat) : HOut R w e (w'.drewN n) := by
  obtain ⟨v, u, rfl, ho, hb⟩ := h
  exact ⟨v, u, rfl, ho.below (below_drewN (Below.refl _ _) n), below_drewN hb n⟩
theorem partF_len {ns : List Nd} (hl : ns.length ≤ 2000) : ∀ (ys : List Nat) (a : Nat) (s : List Nd × List Nd), Stand ns a ys → s.1.length ≤ a → s.2.length ≤ a → (partF ns ys s).1.length ≤ ns.length ∧ (partF ns ys s).2.length ≤ ns.length
  | [], a, s, h, h1, h2 => by have := h.le; exact ⟨Nat.le_trans h1 this, Nat.le_trans h2 this⟩
  | y :: ys, a, s, h, h1, h2 => by
    have hi := h.its
    obtain ⟨rfl, m0, hm0, _⟩ := hi
    have hb := endc_bd hm0
    rw [List.length_drop] at hb
    obtain ⟨m, zs, x, he, hm, hm1, ham, hst, _, hx, h6, h11⟩ := h.step hl (by omega)
    injection he with _ he
    subst he
    rw [partF_cons]
    have hti : ((ns.drop y).take m).length = m := by rw [List.length_take, List.length_drop]; omega
    have hin : (inn ns y m).length ≤ m := by unfold inn; rw [List.length_take]; omega
    refine partF_len hl ys (y + m) _ hst ?_ ?_
    · by_cases k1 : x.kind = 13 ∨ x.kind = 12
      · rw [pstep_out hx hm k1]; show s.1.length ≤ _; omega
      · by_cases k2 : x.kind = 17
        · rw [pstep_in hx hm k2]; show s.1.length ≤ _; omega
        · rw [pstep_stay hx hm (by omega) (by omega) k2]; simp only [List.length_append]; omega
    · by_cases k1 : x.kind = 13 ∨ x.kind = 12
      · rw [pstep_out hx hm k1]; simp only [List.length_append]; omega
      · by_cases k2 : x.kind = 17
        · rw [pstep_in hx hm k2]; simp only [List.length_append]; omega
        · rw [pstep_stay hx hm (by omega) (by omega) k2]; show s.2.length ≤ _; omega
theorem partD_len {ns : List Nd} (hc : chk ns = 0) : (partD ns).1.length ≤ 2000 ∧ (partD ns).2.length ≤ 2000 := by
  have hl := (chk_run hc).1
  have := partF_len hl (itsD ns) 0 ([], []) (stand0 hc (itsD_is hc)) (by simp) (by simp)
  exact ⟨Nat.le_trans this.1 hl, Nat.le_trans this.2 hl⟩
/-- What Hpack comes to, where the list is one and the width may be. -/
def hpkR (e1 e2 : Int) (dW : Bool) (e3 : Int) (L O : List Nd) (bad ov : Int) : List Nd × List Nd × Int × Int × Int :=
  if e1 = 0 then (if e2 = 0 then (if dW = true then (if e3 = 0 then (L, O, bad, ov, 0) else ([], [], 0, 0, e3)) else ([], [], 0, 0, 20)) else ([], [], 0, 0, e2)) else ([], [], 0, 0, e1)
def hN (W h v : Int) : Nd := { nz 4 with wd := W, ht := h, dp := v }
end Go.Proofs.YtoboecenlangmaaGreat.Pk
end
section
namespace Go.Proofs.YtoboecenlangmaaGreat.Pk
open Np No
set_option linter.unusedVariables false
set_option linter.unusedSimpArgs false

theorem run_endc : ∀ {l : List Nd} {st st1 : List Int} {d d1 : Int} (r : List Nd), run l (st, d) = some (st1, d1) → endc (l ++ r) ((st.length : Int) + 1) = (endc r ((st1.length : Int) + 1)).map (· + l.length)
  | [], st, st1, d, d1, r, h => by
    simp only [run, Option.some.injEq, Prod.mk.injEq] at h
    obtain ⟨rfl, rfl⟩ := h
    simp
  | x :: l, st, st1, d, d1, r, h => by
    simp only [run] at h
    cases hs : stp (st, d) x with
    | none => rw [hs] at h; cases h
    | some s2 =>
      obtain ⟨st2, d2⟩ := s2
      rw [hs] at h
      simp only at h
      have hc := stp_cnt hs
      have ih := run_endc r h
      show endc (x :: (l ++ r)) _ = _
      simp only [endc]
      rw [cnt_plus, ← hc, if_neg (by omega), ih]
      cases endc r ((st1.length : Int) + 1) with
      | none => rfl
      | some v => simp only [Option.map_some, List.length_cons, Nat.add_assoc]
/-- A list, wrapped: one item. -/
theorem endc_wrap {n : Nd} {l : List Nd} (ho : opensB n = true) (hc : chk l = 0) : endc (wrapL n l) 0 = some (l.length + 2) := by
  obtain ⟨_, d, hr, _⟩ := chk_run hc
  have h := run_endc [nz 6] hr
  have h1 : cnt n 0 = 1 := by unfold cnt; rw [if_pos ho]; rfl
  unfold wrapL
  simp only [endc]
  rw [h1, if_neg (by decide)]
  have h2 : ((([] : List Int).length : Int) + 1) = 1 := rfl
  rw [h2] at h
  rw [h]
  have h3 : endc [nz 6] 1 = some 1 := rfl
  rw [h3]
  simp only [Option.map_some]
  congr 1
  omega
theorem inner_wrap (n : Nd) (l : List Nd) : innerL (wrapL n l) 0 (l.length + 2) = l := by
  unfold innerL wrapL
  simp
theorem inn_chk {ns : List Nd} {y m : Nat} {x : Nd} (hc : chk ((ns.drop y).take m) = 0) (hm : endc (ns.drop y) 0 = some m) (hx : ns[y]? = some x) (ho : opensB x = true) (h10 : ¬ x.kind = 10) (hl : y + m ≤ ns.length) : chk (inn ns y m) = 0 := by
  have h2 := endc_two hx ho hm
  have hp : ((ns.drop y).take m)[0]? = some x := by
    rw [List.getElem?_take, if_pos (by omega), List.getElem?_drop]
    exact hx
  have h := (item_wrap hc (endc_just hm) (by rw [List.length_take, List.length_drop]; omega) hp h2 h10).2.2.2
  have e : (((ns.drop y).take m).drop 1).take (m - 2) = inn ns y m := by
    unfold inn
    rw [List.drop_take, List.take_take, List.drop_drop, Nat.min_eq_left (by omega)]
  rw [e] at h
  exact h
theorem partF_chk {ns : List Nd} (hl : ns.length ≤ 2000) : ∀ (ys : List Nat) (a : Nat) (s : List Nd × List Nd), Stand ns a ys → s.1.length ≤ a → s.2.length ≤ a → chk s.1 = 0 → chk s.2 = 0 → chk (partF ns ys s).1 = 0 ∧ chk (partF ns ys s).2 = 0
  | [], a, s, h, h1, h2, c1, c2 => ⟨c1, c2⟩
  | y :: ys, a, s, h, h1, h2, c1, c2 => by
    have hi := h.its
    obtain ⟨rfl, m0, hm0, _⟩ := hi
    have hb := endc_bd hm0
    rw [List.length_drop] at hb
    obtain ⟨m, zs, x, he, hm, hm1, ham, hst, hci, hx, h6, h11⟩ := h.step hl (by omega)
    injection he with _ he
    subst he
    rw [partF_cons]
    have hti : ((ns.drop y).take m).length = m := by rw [List.length_take, List.length_drop]; omega
    have hin : (inn ns y m).length ≤ m := by unfold inn; rw [List.length_take]; omega
    by_cases k1 : x.kind = 13 ∨ x.kind = 12
    · rw [pstep_out hx hm k1]
      exact partF_chk hl ys (y + m) _ hst (by show s.1.length ≤ _; omega) (by simp only [List.length_append]; omega) c1 (chk_join c2 hci (by omega))
    · by_cases k2 : x.kind = 17
      · rw [pstep_in hx hm k2]
        exact partF_chk hl ys (y + m) _ hst (by show s.1.length ≤ _; omega) (by simp only [List.length_append]; omega) c1 (chk_join c2 (inn_chk hci hm hx (by simp [opensB, k2]) (by omega) ham) (by omega))
      · rw [pstep_stay hx hm (by omega) (by omega) k2]
        exact partF_chk hl ys (y + m) _ hst (by simp only [List.length_append]; omega) (by show s.2.length ≤ _; omega) (chk_join c1 hci (by omega)) c2
theorem chk_nil : chk [] = 0 := rfl
theorem partD_chk {ns : List Nd} (hc : chk ns = 0) : chk (partD ns).1 = 0 ∧ chk (partD ns).2 = 0 :=
  partF_chk (chk_run hc).1 (itsD ns) 0 ([], []) (stand0 hc (itsD_is hc)) (by simp) (by simp) chk_nil chk_nil
end Go.Proofs.YtoboecenlangmaaGreat.Pk
end
section
namespace Go.Proofs.YtoboecenlangmaaGreat.Pk
open Go.ChangeShapes Go.WideShapes Go.ChangeAt Go.RowKit
open Me Np No
set_option linter.unusedVariables false
set_option linter.unusedSimpArgs false

attribute [local go_sem ↓] bldN_eq
set_option maxHeartbeats 20000000 in
set_option maxRecDepth 100000 in
theorem hpack_t (A : Option Addr) (ns S O L : List Nd) (k : Nat) (tw : Int) (w : World) (hc : chk ns = 0) (hcap : ns.length ≤ k) (hseg : Seg w w.heap.size A (ns.flatMap ncs)) (ht : dimB tw = true) (hS : partD ns = (S, O)) (x a b c d p q r s e1 h v e2 e3 W : Int) (M : Msr S false x a b c d p q r s e1 h v e2)
    (hW : W = tw)
    (hw : ∀ (A : Option Addr) (c' : Nat) (w : World), Src w A c' S → Calls Tryz.prog 88 #[.agg (nc (fitN (hN W h v) (Gl.fit a b c d p q r s (W - x)))), .slice A S.length c'] w fun e' w' => ∃ v, e' = .returned (.tuple #[v, .int .i64 e3]) ∧ w'.ownsRow w.heap.size 101 19 v L.length (L.flatMap ncs) ∧ Below w.heap.size w w') :
    Calls Tryz.prog 16 #[.slice A ns.length k, .int .i64 tw, .bool true] w (HOut (hpkR e1 e2 (dimB W) e3 L O (setV (fitN (hN W h v) (Gl.fit a b c d p q r s (W - x))) a p ((S.length : Int) == 0) (W - x) (0, 0)).1 (setV (fitN (hN W h v) (Gl.fit a b c d p q r s (W - x))) a p ((S.length : Int) == 0) (W - x) (0, 0)).2) w) := by
  have hSl : S.length ≤ 2000 := by have := (partD_len hc).1; rw [hS] at this; exact this
  have HC := Lib.hid (check_any A ns k w (by have := (chk_run hc).1; omega) hseg)
  rw [hc] at HC
  have HD := Lib.hid (fun w => dimen_any tw w)
  rw [ht] at HD
  have HP := Lib.hid (fun w1 (hb : Below w.heap.size w w1) => parted_any A ns k w1 hc hcap (Seg.belowW hseg hb))
  rw [hS] at HP
  have HM := Lib.hid M
  have HMT := Lib.hid M.tot
  have HME := Lib.hid M.ext
  have HW := Lib.hid hw
  obtain ⟨R, hR⟩ : ∃ R, R = hpkR e1 e2 (dimB W) e3 L O (setV (fitN (hN W h v) (Gl.fit a b c d p q r s (W - x))) a p ((S.length : Int) == 0) (W - x) (0, 0)).1 (setV (fitN (hN W h v) (Gl.fit a b c d p q r s (W - x))) a p ((S.length : Int) == 0) (W - x) (0, 0)).2 := ⟨_, rfl⟩
  rw [← hR]
  have HR := Lib.hid hR
  clear hR
  have HWE := Lib.hid hW
  have htw : -1073741823 ≤ tw ∧ tw ≤ 1073741823 := by simpa [dimB] using ht
  clear hseg hc hS M hw hW ht
  generalize ns.length = len at *
  have hb4 := run_bldN 4
  go_enter Tryz.func16, Tryz.ntmps16
  go_wp2_with fail
  refine HC.out.mono ?_
  rintro e w1 ⟨rfl, hb1⟩
  go_wp2_with (go_at_call 41; refine (HD.out _).mono ?_; rintro e w' ⟨rfl, rfl⟩)
  refine (HP.out _ hb1).mono ?_
  rintro e w2 ⟨vS, vO, rfl, hO, hb2⟩
  have hb12 := andThen hb1 hb2
  obtain ⟨AS, kS, hvS, hkS⟩ : ∃ A c, vS = .slice A S.length c ∧ S.length ≤ c := by
    obtain ⟨A, c, h1, h2, _⟩ := Src.own hO.one
    exact ⟨A, c, h1, h2⟩
  subst hvS
  have HH := Lib.hid (show Own2 w2 w.heap.size (.slice AS S.length kS) vO S O from ⟨own_base hO.one hb1.size, own_base hO.two hb1.size, hO.dist, hO.dist'⟩)
  have HB2 := Lib.hid hb12
  clear hO hb1 hb2 hb12 HC HP
  generalize hem : ((S.length : Int) == 0) = em
  have HMW := Lib.hid (fun (g : Nat) (bad ov : Int) (A : Option Addr) (k : Nat) (w : World) (hg : Mk w g (fitN (hN W h v) (Gl.fit a b c d p q r s (W - x))) x a b c d p q r s em bad ov 0) (hs : Src w A k S) => mwrap_any g _ x a b c d p q r s em bad ov S L e3 A k w hg HW.out hs)
  clear HW
  generalize hln : S.length = lS at hSl hkS hem HH HMW HMT HME HR ⊢
  have HLS := Lib.hid hln
  have HEM := Lib.hid hem
  clear hln
  go_wp2_with (first | (refine wpList_build_eq (o := ⟨some 32, _, _, _, _, _⟩) rfl _ _ rfl (mkc (nz 4) 0 0 0 0 0 0 0 0 0 em 0 0 0) (by kernel_rfl) ?_))
  have hs0 : Hs w (.slice AS lS kS) vO S O w2.heap.size (nz 4) 0 0 0 0 0 0 0 0 0 em 0 0 0 (w2.alloc (.cells (mkc (nz 4) 0 0 0 0 0 0 0 0 0 em 0 0 0) 111)) := ⟨Blk.new' rfl, HH.out.below (andAlloc (Below.refl _ _) _), andAlloc HB2.out _, HB2.out.size⟩
  clear HH HB2
  generalize w2.alloc (.cells (mkc (nz 4) 0 0 0 0 0 0 0 0 0 em 0 0 0) 111) = w3 at hs0 ⊢
  generalize w2.heap.size = g at hs0 ⊢
  refine (HMT.out AS kS w3 hkS hs0.seg).mono ?_
  rintro e w4 ⟨rfl, hb4'⟩
  have hs4 := hs0.below hb4'
  have hth := mk_there hs4.mkr
  have HS4 := Lib.hid hs4
  clear hs0 hb4' hs4
  have hs5 := HS4.out.turn (grown_cells g _ 19 w4) (mk_tot HS4.out.mkr x a b c d p q r s)
  have HS5 := Lib.hid hs5
  clear hs5
  by_cases he1 : e1 = 0
  · have t1 : (e1 != 0) = false := by simp [he1]
    by_cases he2 : e2 = 0
    · have t2 : (e2 != 0) = false := by simp [he2]
      · skip
        have hWE : W = tw := HWE.out
        subst hWE
        go_upto_region 20 with (first | (refine wpList_store_mid (op := ⟨none, .store _ (.tmp 43) (.tmp 40), _, _, _, _⟩) rfl 109 _ _ rfl g 19 #[.int .i64 x, .int .i64 a, .int .i64 b, .int .i64 c, .int .i64 d, .int .i64 p, .int .i64 q, .int .i64 r, .int .i64 s] ?_ rfl hth tot_info (t9_one _ _ _ _ _ _ _ _ _) ?_; rfl) | (go_at_call 45; refine (HME.out AS kS _ hkS HS5.out.seg).mono ?_; rintro e w6 ⟨rfl, hb6⟩; have HS6 := Lib.hid (HS5.out.below hb6); clear hb6; have hd3 : w6.cell? ⟨g, 3, none⟩ = some (.int .i64 0) := Blk.cell HS6.out.mkr 3; have hf3 := Blk.free HS6.out.mkr 3; have hd4 : w6.cell? ⟨g, 4, none⟩ = some (.int .i64 0) := Blk.cell HS6.out.mkr 4; have hf4 := Blk.free HS6.out.mkr 4; have hd5 : w6.cell? ⟨g, 5, none⟩ = some (.int .i64 0) := Blk.cell HS6.out.mkr 5; have hf5 := Blk.free HS6.out.mkr 5; have hd19 : w6.cell? ⟨g, 19, none⟩ = some (.int .i64 x) := Blk.cell HS6.out.mkr 19) | (go_at_call 41; refine (HD.out _).mono ?_; rintro e w' ⟨rfl, rfl⟩))
        have hs7 := (HS6.out.n45 h v).n3 W
        have HS7 := Lib.hid hs7
        generalize ((w6.setCell ⟨g, 4, none⟩ (.int .i64 h)).setCell ⟨g, 5, none⟩ (.int .i64 v)).setCell ⟨g, 3, none⟩ (.int .i64 W) = w7 at HS7 ⊢
        clear hs7 hd3 hf3 hd4 hf4 hd5 hf5 hd19 HS6 HS5 HS4 hth
        have HDW := Lib.hid (HD.out w)
        have hdw : dimB W = true := by simpa [dimB] using htw
        have HDW := Lib.hid hdw
        have hnx := HM.out.nat he1
        have hnx' : -1073741823 ≤ x ∧ x ≤ 1073741823 := by simpa [dimB] using hnx
        have HNW := Lib.hid (show Gl.nearB (W - x) = true by unfold Gl.nearB; rw [decide_eq_true_eq]; omega)
        clear hnx hdw
        have hd3' : w7.cell? ⟨g, 3, none⟩ = some (.int .i64 (W)) := Blk.cell HS7.out.mkr 3
        have hd19' : w7.cell? ⟨g, 19, none⟩ = some (.int .i64 x) := Blk.cell HS7.out.mkr 19
        have hsub : IntKind.i64.wrap (W - x) = W - x := IntWalk.i64_in _ (by omega)
        go_still_tail 12, (by kernel_rfl)
        change wpList _ _ _ _ _ w7.drew
        have hs8 := HS7.out.below (Below.drew (Below.refl _ w7))
        generalize w7.drew = w8 at hs8 ⊢
        have HS8 := Lib.hid hs8
        clear hs8 hd3' hd19' HS7
        by_cases he3 : e3 = 0
        · have t3 : (e3 != 0) = false := by simp [he3]
          go_upto_region 24 with (first | (go_at_call 43; refine (set_any g (hN (W) h v) x a b c d p q r s em 0 0 (W - x) _ HS8.out.mkr HNW.out (HM.out.near he1).1 (HM.out.near he1).2.2.2.2.1 (HM.out.near he1).2.1 (HM.out.near he1).2.2.2.2.2.1 (HM.out.near he1).2.2.1 (HM.out.near he1).2.2.2.2.2.2.1 (HM.out.near he1).2.2.2.1 (HM.out.near he1).2.2.2.2.2.2.2).mono ?_; rintro e w9 ⟨rfl, hm9, hg9⟩; have HS9 := Lib.hid (HS8.out.turn hg9 hm9); clear hm9 hg9) | (go_at_call 46; refine (HMW.out g _ _ AS kS _ HS9.out.mkr HS9.out.src).mono ?_; rintro e wq ⟨vL, rfl, hoL, hbL⟩; have HO9 := Lib.hid (And.intro hoL hbL); clear hoL hbL))
          have HK9 := Lib.hid (HS9.out.below HO9.out.2).mkr
          have hd29 : wq.cell? ⟨g, 29, none⟩ = some (.int .i64 (setV (fitN (hN (W) h v) (Gl.fit a b c d p q r s (W - x))) a p em (W - x) (0, 0)).1) := Blk.cell HK9.out 29
          have hd30 : wq.cell? ⟨g, 30, none⟩ = some (.int .i64 (setV (fitN (hN (W) h v) (Gl.fit a b c d p q r s (W - x))) a p em (W - x) (0, 0)).2) := Blk.cell HK9.out 30
          have hr : R = (L, O, (setV (fitN (hN (W) h v) (Gl.fit a b c d p q r s (W - x))) a p em (W - x) (0, 0)).1, (setV (fitN (hN (W) h v) (Gl.fit a b c d p q r s (W - x))) a p em (W - x) (0, 0)).2, 0) := by rw [HR.out, HEM.out]; unfold hpkR; rw [if_pos he1, if_pos he2, if_pos HDW.out, if_pos he3]
          have HR' := Lib.hid hr
          clear hr HR
          have HO := Lib.hid (fun y z => HS9.out.out HO9.out.1 HO9.out.2 y z)
          generalize (setV (fitN (hN (W) h v) (Gl.fit a b c d p q r s (W - x))) a p em (W - x) (0, 0)).1 = y1 at *
          generalize (setV (fitN (hN (W) h v) (Gl.fit a b c d p q r s (W - x))) a p em (W - x) (0, 0)).2 = y2 at *
          go_quiet (fail)
          go_wp2_with fail
          go_returns
          rw [HR'.out]
          exact (HO.out _ _).drewN _
        · have t3 : (e3 != 0) = true := by simp [he3]
          have hr : R = ([], [], 0, 0, e3) := by rw [HR.out]; unfold hpkR; rw [if_pos he1, if_pos he2, if_pos HDW.out, if_neg he3]
          have HR' := Lib.hid hr
          clear hr HR
          go_wp2_with (first | (go_at_call 43; refine (set_any g (hN (W) h v) x a b c d p q r s em 0 0 (W - x) _ HS8.out.mkr HNW.out (HM.out.near he1).1 (HM.out.near he1).2.2.2.2.1 (HM.out.near he1).2.1 (HM.out.near he1).2.2.2.2.2.1 (HM.out.near he1).2.2.1 (HM.out.near he1).2.2.2.2.2.2.1 (HM.out.near he1).2.2.2.1 (HM.out.near he1).2.2.2.2.2.2.2).mono ?_; rintro e w9 ⟨rfl, hm9, hg9⟩; have HS9 := Lib.hid (HS8.out.turn hg9 hm9); clear hm9 hg9) | (go_at_call 46; refine (HMW.out g _ _ AS kS _ HS9.out.mkr HS9.out.src).mono ?_; rintro e wq ⟨vL, rfl, hoL, hbL⟩; have HO9 := Lib.hid (And.intro hoL hbL); clear hoL hbL))
          go_returns
          rw [HR'.out]
          exact HOut.no (andThen HS9.out.low HO9.out.2) _
    · have t2 : (e2 != 0) = true := by simp [he2]
      have hr : R = ([], [], 0, 0, e2) := by rw [HR.out]; unfold hpkR; rw [if_pos he1, if_neg he2]
      have HR' := Lib.hid hr
      clear hr HR
      go_wp2_with (first | (refine wpList_store_mid (op := ⟨none, .store _ (.tmp 43) (.tmp 40), _, _, _, _⟩) rfl 109 _ _ rfl g 19 #[.int .i64 x, .int .i64 a, .int .i64 b, .int .i64 c, .int .i64 d, .int .i64 p, .int .i64 q, .int .i64 r, .int .i64 s] ?_ rfl hth tot_info (t9_one _ _ _ _ _ _ _ _ _) ?_; rfl) | (go_at_call 45; refine (HME.out AS kS _ hkS HS5.out.seg).mono ?_; rintro e w6 ⟨rfl, hb6⟩; have HS6 := Lib.hid (HS5.out.below hb6); clear hb6; have hd3 : w6.cell? ⟨g, 3, none⟩ = some (.int .i64 0) := Blk.cell HS6.out.mkr 3; have hf3 := Blk.free HS6.out.mkr 3; have hd4 : w6.cell? ⟨g, 4, none⟩ = some (.int .i64 0) := Blk.cell HS6.out.mkr 4; have hf4 := Blk.free HS6.out.mkr 4; have hd5 : w6.cell? ⟨g, 5, none⟩ = some (.int .i64 0) := Blk.cell HS6.out.mkr 5; have hf5 := Blk.free HS6.out.mkr 5; have hd19 : w6.cell? ⟨g, 19, none⟩ = some (.int .i64 x) := Blk.cell HS6.out.mkr 19))
      go_returns
      rw [HR'.out]
      exact HOut.no (HS6.out.n45 h v).low _
  · have t1 : (e1 != 0) = true := by simp [he1]
    have hr : R = ([], [], 0, 0, e1) := by rw [HR.out]; unfold hpkR; rw [if_neg he1]
    have HR' := Lib.hid hr
    clear hr HR
    go_wp2_with (refine wpList_store_mid (op := ⟨none, .store _ (.tmp 43) (.tmp 40), _, _, _, _⟩) rfl 109 _ _ rfl g 19 #[.int .i64 x, .int .i64 a, .int .i64 b, .int .i64 c, .int .i64 d, .int .i64 p, .int .i64 q, .int .i64 r, .int .i64 s] ?_ rfl hth tot_info (t9_one _ _ _ _ _ _ _ _ _) ?_; rfl)
    go_returns
    rw [HR'.out]
    exact HOut.no HS5.out.low _
end Go.Proofs.YtoboecenlangmaaGreat.Pk
end
section
namespace Go.Proofs.YtoboecenlangmaaGreat.Pk
open Go.ChangeShapes Go.WideShapes Go.ChangeAt Go.RowKit
open Me Np No
set_option linter.unusedVariables false
set_option linter.unusedSimpArgs false

attribute [local go_sem ↓] bldN_eq
set_option maxHeartbeats 20000000 in
set_option maxRecDepth 100000 in
theorem hpack_f (A : Option Addr) (ns S O L : List Nd) (k : Nat) (tw : Int) (w : World) (hc : chk ns = 0) (hcap : ns.length ≤ k) (hseg : Seg w w.heap.size A (ns.flatMap ncs)) (ht : dimB tw = true) (hS : partD ns = (S, O)) (x a b c d p q r s e1 h v e2 e3 W : Int) (M : Msr S false x a b c d p q r s e1 h v e2)
    (hW : W = tw + x)
    (hw : ∀ (A : Option Addr) (c' : Nat) (w : World), Src w A c' S → Calls Tryz.prog 88 #[.agg (nc (fitN (hN W h v) (Gl.fit a b c d p q r s (W - x)))), .slice A S.length c'] w fun e' w' => ∃ v, e' = .returned (.tuple #[v, .int .i64 e3]) ∧ w'.ownsRow w.heap.size 101 19 v L.length (L.flatMap ncs) ∧ Below w.heap.size w w') :
    Calls Tryz.prog 16 #[.slice A ns.length k, .int .i64 tw, .bool false] w (HOut (hpkR e1 e2 (dimB W) e3 L O (setV (fitN (hN W h v) (Gl.fit a b c d p q r s (W - x))) a p ((S.length : Int) == 0) (W - x) (0, 0)).1 (setV (fitN (hN W h v) (Gl.fit a b c d p q r s (W - x))) a p ((S.length : Int) == 0) (W - x) (0, 0)).2) w) := by
  have hSl : S.length ≤ 2000 := by have := (partD_len hc).1; rw [hS] at this; exact this
  have HC := Lib.hid (check_any A ns k w (by have := (chk_run hc).1; omega) hseg)
  rw [hc] at HC
  have HD := Lib.hid (fun w => dimen_any tw w)
  rw [ht] at HD
  have HP := Lib.hid (fun w1 (hb : Below w.heap.size w w1) => parted_any A ns k w1 hc hcap (Seg.belowW hseg hb))
  rw [hS] at HP
  have HM := Lib.hid M
  have HMT := Lib.hid M.tot
  have HME := Lib.hid M.ext
  have HW := Lib.hid hw
  obtain ⟨R, hR⟩ : ∃ R, R = hpkR e1 e2 (dimB W) e3 L O (setV (fitN (hN W h v) (Gl.fit a b c d p q r s (W - x))) a p ((S.length : Int) == 0) (W - x) (0, 0)).1 (setV (fitN (hN W h v) (Gl.fit a b c d p q r s (W - x))) a p ((S.length : Int) == 0) (W - x) (0, 0)).2 := ⟨_, rfl⟩
  rw [← hR]
  have HR := Lib.hid hR
  clear hR
  have HWE := Lib.hid hW
  have htw : -1073741823 ≤ tw ∧ tw ≤ 1073741823 := by simpa [dimB] using ht
  clear hseg hc hS M hw hW ht
  generalize ns.length = len at *
  have hb4 := run_bldN 4
  go_enter Tryz.func16, Tryz.ntmps16
  go_wp2_with fail
  refine HC.out.mono ?_
  rintro e w1 ⟨rfl, hb1⟩
  go_wp2_with (go_at_call 41; refine (HD.out _).mono ?_; rintro e w' ⟨rfl, rfl⟩)
  refine (HP.out _ hb1).mono ?_
  rintro e w2 ⟨vS, vO, rfl, hO, hb2⟩
  have hb12 := andThen hb1 hb2
  obtain ⟨AS, kS, hvS, hkS⟩ : ∃ A c, vS = .slice A S.length c ∧ S.length ≤ c := by
    obtain ⟨A, c, h1, h2, _⟩ := Src.own hO.one
    exact ⟨A, c, h1, h2⟩
  subst hvS
  have HH := Lib.hid (show Own2 w2 w.heap.size (.slice AS S.length kS) vO S O from ⟨own_base hO.one hb1.size, own_base hO.two hb1.size, hO.dist, hO.dist'⟩)
  have HB2 := Lib.hid hb12
  clear hO hb1 hb2 hb12 HC HP
  generalize hem : ((S.length : Int) == 0) = em
  have HMW := Lib.hid (fun (g : Nat) (bad ov : Int) (A : Option Addr) (k : Nat) (w : World) (hg : Mk w g (fitN (hN W h v) (Gl.fit a b c d p q r s (W - x))) x a b c d p q r s em bad ov 0) (hs : Src w A k S) => mwrap_any g _ x a b c d p q r s em bad ov S L e3 A k w hg HW.out hs)
  clear HW
  generalize hln : S.length = lS at hSl hkS hem HH HMW HMT HME HR ⊢
  have HLS := Lib.hid hln
  have HEM := Lib.hid hem
  clear hln
  go_wp2_with (first | (refine wpList_build_eq (o := ⟨some 32, _, _, _, _, _⟩) rfl _ _ rfl (mkc (nz 4) 0 0 0 0 0 0 0 0 0 em 0 0 0) (by kernel_rfl) ?_))
  have hs0 : Hs w (.slice AS lS kS) vO S O w2.heap.size (nz 4) 0 0 0 0 0 0 0 0 0 em 0 0 0 (w2.alloc (.cells (mkc (nz 4) 0 0 0 0 0 0 0 0 0 em 0 0 0) 111)) := ⟨Blk.new' rfl, HH.out.below (andAlloc (Below.refl _ _) _), andAlloc HB2.out _, HB2.out.size⟩
  clear HH HB2
  generalize w2.alloc (.cells (mkc (nz 4) 0 0 0 0 0 0 0 0 0 em 0 0 0) 111) = w3 at hs0 ⊢
  generalize w2.heap.size = g at hs0 ⊢
  refine (HMT.out AS kS w3 hkS hs0.seg).mono ?_
  rintro e w4 ⟨rfl, hb4'⟩
  have hs4 := hs0.below hb4'
  have hth := mk_there hs4.mkr
  have HS4 := Lib.hid hs4
  clear hs0 hb4' hs4
  have hs5 := HS4.out.turn (grown_cells g _ 19 w4) (mk_tot HS4.out.mkr x a b c d p q r s)
  have HS5 := Lib.hid hs5
  clear hs5
  by_cases he1 : e1 = 0
  · have t1 : (e1 != 0) = false := by simp [he1]
    by_cases he2 : e2 = 0
    · have t2 : (e2 != 0) = false := by simp [he2]
      · skip
        have hnx := HM.out.nat he1
        have hnx' : -1073741823 ≤ x ∧ x ≤ 1073741823 := by simpa [dimB] using hnx
        have HNW := Lib.hid (show Gl.nearB (W - x) = true by unfold Gl.nearB; rw [decide_eq_true_eq]; have := HWE.out; omega)
        clear hnx
        go_upto_region 17 with (first | (refine wpList_store_mid (op := ⟨none, .store _ (.tmp 43) (.tmp 40), _, _, _, _⟩) rfl 109 _ _ rfl g 19 #[.int .i64 x, .int .i64 a, .int .i64 b, .int .i64 c, .int .i64 d, .int .i64 p, .int .i64 q, .int .i64 r, .int .i64 s] ?_ rfl hth tot_info (t9_one _ _ _ _ _ _ _ _ _) ?_; rfl) | (go_at_call 45; refine (HME.out AS kS _ hkS HS5.out.seg).mono ?_; rintro e w6 ⟨rfl, hb6⟩; have HS6 := Lib.hid (HS5.out.below hb6); clear hb6; have hd3 : w6.cell? ⟨g, 3, none⟩ = some (.int .i64 0) := Blk.cell HS6.out.mkr 3; have hf3 := Blk.free HS6.out.mkr 3; have hd4 : w6.cell? ⟨g, 4, none⟩ = some (.int .i64 0) := Blk.cell HS6.out.mkr 4; have hf4 := Blk.free HS6.out.mkr 4; have hd5 : w6.cell? ⟨g, 5, none⟩ = some (.int .i64 0) := Blk.cell HS6.out.mkr 5; have hf5 := Blk.free HS6.out.mkr 5; have hd19 : w6.cell? ⟨g, 19, none⟩ = some (.int .i64 x) := Blk.cell HS6.out.mkr 19) | (go_at_call 41; refine (HD.out _).mono ?_; rintro e w' ⟨rfl, rfl⟩))
        have hs7 := (HS6.out.n45 h v).n3 tw
        have HS7 := Lib.hid hs7
        generalize ((w6.setCell ⟨g, 4, none⟩ (.int .i64 h)).setCell ⟨g, 5, none⟩ (.int .i64 v)).setCell ⟨g, 3, none⟩ (.int .i64 tw) = w7 at HS7 ⊢
        clear hs7 hd3 hf3 hd4 hf4 hd5 hf5 hd19 HS6 HS5 HS4 hth
        have hd3 : w7.cell? ⟨g, 3, none⟩ = some (.int .i64 tw) := Blk.cell HS7.out.mkr 3
        have hd19 : w7.cell? ⟨g, 19, none⟩ = some (.int .i64 x) := Blk.cell HS7.out.mkr 19
        have hsum : IntKind.i64.wrap (tw + x) = W := by rw [HWE.out]; exact IntWalk.i64_in _ (by omega)
        go_still_tail 14, (by kernel_rfl)
        change wpList _ _ _ _ _ w7.drew
        have hs8 := HS7.out.below (Below.drew (Below.refl _ w7))
        generalize w7.drew = w8 at hs8 ⊢
        have HS8 := Lib.hid hs8
        clear hs8 hd3 hd19 HS7 hsum
        have hd3 : w8.cell? ⟨g, 3, none⟩ = some (.int .i64 tw) := Blk.cell HS8.out.mkr 3
        have hf3 := Blk.free HS8.out.mkr 3
        by_cases hdw : dimB W = true
        · have HDW := Lib.hid hdw
          go_upto_region 20 with (go_at_call 41; refine (dimen_any _ _).mono ?_; rintro e w' ⟨rfl, rfl⟩)
          have hs7 := HS8.out.n3 W
          have HS7 := Lib.hid hs7
          generalize w8.setCell ⟨g, 3, none⟩ (.int .i64 W) = w7 at HS7 ⊢
          clear hs7 hd3 hf3 HS8 hdw
          have hd3' : w7.cell? ⟨g, 3, none⟩ = some (.int .i64 W) := Blk.cell HS7.out.mkr 3
          have hd19' : w7.cell? ⟨g, 19, none⟩ = some (.int .i64 x) := Blk.cell HS7.out.mkr 19
          have hsub : IntKind.i64.wrap (W - x) = W - x := IntWalk.i64_in _ (by have := HWE.out; omega)
          go_still_tail 12, (by kernel_rfl)
          change wpList _ _ _ _ _ w7.drew
          have hs8 := HS7.out.below (Below.drew (Below.refl _ w7))
          generalize w7.drew = w8 at hs8 ⊢
          have HS8 := Lib.hid hs8
          clear hs8 hd3' hd19' HS7
          by_cases he3 : e3 = 0
          · have t3 : (e3 != 0) = false := by simp [he3]
            go_upto_region 24 with (first | (go_at_call 43; refine (set_any g (hN W h v) x a b c d p q r s em 0 0 (W - x) _ HS8.out.mkr HNW.out (HM.out.near he1).1 (HM.out.near he1).2.2.2.2.1 (HM.out.near he1).2.1 (HM.out.near he1).2.2.2.2.2.1 (HM.out.near he1).2.2.1 (HM.out.near he1).2.2.2.2.2.2.1 (HM.out.near he1).2.2.2.1 (HM.out.near he1).2.2.2.2.2.2.2).mono ?_; rintro e w9 ⟨rfl, hm9, hg9⟩; have HS9 := Lib.hid (HS8.out.turn hg9 hm9); clear hm9 hg9) | (go_at_call 46; refine (HMW.out g _ _ AS kS _ HS9.out.mkr HS9.out.src).mono ?_; rintro e wq ⟨vL, rfl, hoL, hbL⟩; have HO9 := Lib.hid (And.intro hoL hbL); clear hoL hbL))
            have HK9 := Lib.hid (HS9.out.below HO9.out.2).mkr
            have hd29 : wq.cell? ⟨g, 29, none⟩ = some (.int .i64 (setV (fitN (hN W h v) (Gl.fit a b c d p q r s (W - x))) a p em (W - x) (0, 0)).1) := Blk.cell HK9.out 29
            have hd30 : wq.cell? ⟨g, 30, none⟩ = some (.int .i64 (setV (fitN (hN W h v) (Gl.fit a b c d p q r s (W - x))) a p em (W - x) (0, 0)).2) := Blk.cell HK9.out 30
            have hr : R = (L, O, (setV (fitN (hN W h v) (Gl.fit a b c d p q r s (W - x))) a p em (W - x) (0, 0)).1, (setV (fitN (hN W h v) (Gl.fit a b c d p q r s (W - x))) a p em (W - x) (0, 0)).2, 0) := by rw [HR.out, HEM.out]; unfold hpkR; rw [if_pos he1, if_pos he2, if_pos HDW.out, if_pos he3]
            have HR' := Lib.hid hr
            clear hr HR
            have HO := Lib.hid (fun y z => HS9.out.out HO9.out.1 HO9.out.2 y z)
            generalize (setV (fitN (hN W h v) (Gl.fit a b c d p q r s (W - x))) a p em (W - x) (0, 0)).1 = y1 at *
            generalize (setV (fitN (hN W h v) (Gl.fit a b c d p q r s (W - x))) a p em (W - x) (0, 0)).2 = y2 at *
            go_quiet (fail)
            go_wp2_with fail
            go_returns
            rw [HR'.out]
            exact (HO.out _ _).drewN _
          · have t3 : (e3 != 0) = true := by simp [he3]
            have hr : R = ([], [], 0, 0, e3) := by rw [HR.out]; unfold hpkR; rw [if_pos he1, if_pos he2, if_pos HDW.out, if_neg he3]
            have HR' := Lib.hid hr
            clear hr HR
            go_wp2_with (first | (go_at_call 43; refine (set_any g (hN W h v) x a b c d p q r s em 0 0 (W - x) _ HS8.out.mkr HNW.out (HM.out.near he1).1 (HM.out.near he1).2.2.2.2.1 (HM.out.near he1).2.1 (HM.out.near he1).2.2.2.2.2.1 (HM.out.near he1).2.2.1 (HM.out.near he1).2.2.2.2.2.2.1 (HM.out.near he1).2.2.2.1 (HM.out.near he1).2.2.2.2.2.2.2).mono ?_; rintro e w9 ⟨rfl, hm9, hg9⟩; have HS9 := Lib.hid (HS8.out.turn hg9 hm9); clear hm9 hg9) | (go_at_call 46; refine (HMW.out g _ _ AS kS _ HS9.out.mkr HS9.out.src).mono ?_; rintro e wq ⟨vL, rfl, hoL, hbL⟩; have HO9 := Lib.hid (And.intro hoL hbL); clear hoL hbL))
            go_returns
            rw [HR'.out]
            exact HOut.no (andThen HS9.out.low HO9.out.2) _
        · have hdw' : dimB W = false := by simpa using hdw
          have hr : R = ([], [], 0, 0, 20) := by rw [HR.out]; unfold hpkR; rw [if_pos he1, if_pos he2, if_neg hdw]
          have HR' := Lib.hid hr
          clear hr HR hdw
          go_wp2_with (go_at_call 41; refine (dimen_any _ _).mono ?_; rintro e w' ⟨rfl, rfl⟩)
          go_returns
          rw [HR'.out]
          exact HOut.no (HS8.out.n3 W).low _
    · have t2 : (e2 != 0) = true := by simp [he2]
      have hr : R = ([], [], 0, 0, e2) := by rw [HR.out]; unfold hpkR; rw [if_pos he1, if_neg he2]
      have HR' := Lib.hid hr
      clear hr HR
      go_wp2_with (first | (refine wpList_store_mid (op := ⟨none, .store _ (.tmp 43) (.tmp 40), _, _, _, _⟩) rfl 109 _ _ rfl g 19 #[.int .i64 x, .int .i64 a, .int .i64 b, .int .i64 c, .int .i64 d, .int .i64 p, .int .i64 q, .int .i64 r, .int .i64 s] ?_ rfl hth tot_info (t9_one _ _ _ _ _ _ _ _ _) ?_; rfl) | (go_at_call 45; refine (HME.out AS kS _ hkS HS5.out.seg).mono ?_; rintro e w6 ⟨rfl, hb6⟩; have HS6 := Lib.hid (HS5.out.below hb6); clear hb6; have hd3 : w6.cell? ⟨g, 3, none⟩ = some (.int .i64 0) := Blk.cell HS6.out.mkr 3; have hf3 := Blk.free HS6.out.mkr 3; have hd4 : w6.cell? ⟨g, 4, none⟩ = some (.int .i64 0) := Blk.cell HS6.out.mkr 4; have hf4 := Blk.free HS6.out.mkr 4; have hd5 : w6.cell? ⟨g, 5, none⟩ = some (.int .i64 0) := Blk.cell HS6.out.mkr 5; have hf5 := Blk.free HS6.out.mkr 5; have hd19 : w6.cell? ⟨g, 19, none⟩ = some (.int .i64 x) := Blk.cell HS6.out.mkr 19))
      go_returns
      rw [HR'.out]
      exact HOut.no (HS6.out.n45 h v).low _
  · have t1 : (e1 != 0) = true := by simp [he1]
    have hr : R = ([], [], 0, 0, e1) := by rw [HR.out]; unfold hpkR; rw [if_neg he1]
    have HR' := Lib.hid hr
    clear hr HR
    go_wp2_with (refine wpList_store_mid (op := ⟨none, .store _ (.tmp 43) (.tmp 40), _, _, _, _⟩) rfl 109 _ _ rfl g 19 #[.int .i64 x, .int .i64 a, .int .i64 b, .int .i64 c, .int .i64 d, .int .i64 p, .int .i64 q, .int .i64 r, .int .i64 s] ?_ rfl hth tot_info (t9_one _ _ _ _ _ _ _ _ _) ?_; rfl)
    go_returns
    rw [HR'.out]
    exact HOut.no HS5.out.low _
end Go.Proofs.YtoboecenlangmaaGreat.Pk
end
section
namespace Go.Proofs.YtoboecenlangmaaGreat.Pk
open Go.ChangeShapes Go.WideShapes Go.ChangeAt Go.RowKit
open Me Np No
set_option linter.unusedVariables false
set_option linter.unusedSimpArgs false

theorem hpack_main (A : Option Addr) (ns S O L : List Nd) (k : Nat) (tw : Int) (ex : Bool) (w : World) (hc : chk ns = 0) (hcap : ns.length ≤ k) (hseg : Seg w w.heap.size A (ns.flatMap ncs)) (ht : dimB tw = true) (hS : partD ns = (S, O)) (x a b c d p q r s e1 h v e2 e3 W : Int) (M : Msr S false x a b c d p q r s e1 h v e2)
    (hW : W = if ex = true then tw else tw + x)
    (hw : ∀ (A : Option Addr) (c' : Nat) (w : World), Src w A c' S → Calls Tryz.prog 88 #[.agg (nc (fitN (hN W h v) (Gl.fit a b c d p q r s (W - x)))), .slice A S.length c'] w fun e' w' => ∃ v, e' = .returned (.tuple #[v, .int .i64 e3]) ∧ w'.ownsRow w.heap.size 101 19 v L.length (L.flatMap ncs) ∧ Below w.heap.size w w') :
    Calls Tryz.prog 16 #[.slice A ns.length k, .int .i64 tw, .bool ex] w (HOut (hpkR e1 e2 (dimB W) e3 L O (setV (fitN (hN W h v) (Gl.fit a b c d p q r s (W - x))) a p ((S.length : Int) == 0) (W - x) (0, 0)).1 (setV (fitN (hN W h v) (Gl.fit a b c d p q r s (W - x))) a p ((S.length : Int) == 0) (W - x) (0, 0)).2) w) := by
  cases ex with
  | true => exact hpack_t A ns S O L k tw w hc hcap hseg ht hS x a b c d p q r s e1 h v e2 e3 W M hW hw
  | false => exact hpack_f A ns S O L k tw w hc hcap hseg ht hS x a b c d p q r s e1 h v e2 e3 W M hW hw
end Go.Proofs.YtoboecenlangmaaGreat.Pk
end

import Derived.Test.YtoboecenlangmaaGreatNx
import Derived.Test.YtoboecenlangmaaGreatFitD
import Derived.WalkKit
import Derived.Lib.ItoaNum
import Derived.Test.YtoboecenlangmaaGreatRows
import Derived.Test.YtoboecenlangmaaGreatProg
import Derived.Test.YtoboecenlangmaaGreatBlk
import Derived.ProofKit
import Derived.WalkSpells
import Derived.WalkLawsBesides
import Derived.Handy
import Derived.Outline
import Derived.Lib.Hide
import Derived.BigQuiet
import Derived.RegionTactic
import Derived.Deep.QuietTactic
import Derived.Test.YtoboecenlangmaaGreatNodeE
import Derived.Lib.MinMax
import Derived.Test.YtoboecenlangmaaGreatFitW
import Derived.Test.YtoboecenlangmaaGreatNodeRt
import Derived.Test.YtoboecenlangmaaGreatNodeTe
import Derived.Test.YtoboecenlangmaaGreatNodeTh
import Derived.Test.YtoboecenlangmaaGreatNodeG
import Derived.Test.YtoboecenlangmaaGreatNodeKb
import Derived.Deep.RegionWith
import Derived.BigRegion
import Derived.Deep.MidRow
import Derived.Test.YtoboecenlangmaaGreatNodeJ
import Derived.StillTailTactics
import Derived.IntWalk
import Derived.Laws.MathBits
import Derived.Lib.BitFns
import Derived.Laws.BitsAllLaws
import Derived.Test.YtoboecenlangmaaGreatShelf
import Derived.OpenShut
import Derived.Deep.DeepCutAuto
import Derived.Deep.CutBlock
import Derived.Test.YtoboecenlangmaaGreatGlueA0
import Derived.Test.YtoboecenlangmaaGreatGlueE
import Derived.Test.YtoboecenlangmaaGreatMem
/- Merged texts. Conditions: those that each theorem names. -/
section
namespace Go.Proofs.YtoboecenlangmaaGreat.Np
set_option linter.unusedVariables false
set_option linter.unusedSimpArgs false

/-- One node more, from less deep. -/
theorem stp_free {st st1 : List Int} {d d1 : Int} {x : Nd} (h : stp (st, d) x = some (st1, d1)) : d ≤ d1 ∧ ∀ e, e ≤ d → ∃ e1, stp (st, e) x = some (st1, e1) ∧ e1 ≤ d1 := by
  by_cases hR : right x = true
  · by_cases k6 : x.kind = 6
    · cases st with
      | nil => simp [stp, hR, k6] at h
      | cons t r =>
        by_cases ht : 0 < t
        · simp [stp, hR, k6, ht] at h
        · simp [stp, hR, k6, ht] at h
          obtain ⟨rfl, rfl⟩ := h
          exact ⟨Int.le_refl _, fun e he => ⟨e, by simp [stp, hR, k6, ht], he⟩⟩
    · by_cases k11 : x.kind = 11
      · cases st with
        | nil => simp [stp, hR, k6, k11] at h
        | cons t r =>
          by_cases ht : t < 1
          · simp [stp, hR, k6, k11, ht] at h
          · simp [stp, hR, k6, k11, ht] at h
            obtain ⟨rfl, rfl⟩ := h
            exact ⟨Int.le_refl _, fun e he => ⟨e, by simp [stp, hR, k6, k11, ht], he⟩⟩
      · cases hb : blocked st x
        · rw [stp_other hR k6 k11 hb] at h
          simp only [Option.some.injEq, Prod.mk.injEq] at h
          obtain ⟨h1, h2⟩ := h
          refine ⟨by omega, fun e he => ⟨max e (st.length + 1), ?_, by omega⟩⟩
          rw [stp_other hR k6 k11 hb]
          simp [h1]
        · rw [stp_blocked hR k6 k11 hb] at h
          cases h
  · simp [stp, hR] at h
theorem run_free : ∀ {l : List Nd} {st st1 : List Int} {d d1 : Int}, run l (st, d) = some (st1, d1) → d ≤ d1 ∧ ∀ e, e ≤ d → ∃ e1, run l (st, e) = some (st1, e1) ∧ e1 ≤ d1
  | [], st, st1, d, d1, h => by
    simp only [run, Option.some.injEq, Prod.mk.injEq] at h
    obtain ⟨rfl, rfl⟩ := h
    exact ⟨Int.le_refl _, fun e he => ⟨e, rfl, he⟩⟩
  | x :: l, st, st1, d, d1, h => by
    simp only [run] at h
    cases hs : stp (st, d) x with
    | none => rw [hs] at h; cases h
    | some s2 =>
      obtain ⟨st2, d2⟩ := s2
      rw [hs] at h
      simp only at h
      obtain ⟨g1, g2⟩ := stp_free hs
      obtain ⟨g3, g4⟩ := run_free h
      refine ⟨by omega, fun e he => ?_⟩
      obtain ⟨e1, h1, h2⟩ := g2 e he
      obtain ⟨e3, h3, h4⟩ := g4 e1 h2
      exact ⟨e3, by simp only [run, h1]; exact h3, h4⟩
/-- One node more, within a box. -/
theorem stp_boxd {st s1 : List Int} {d d1 e : Int} {x : Nd} (h : stp (st ++ [-1], d) x = some (s1, d1)) (hc : ¬ s1.length = 0) (he : e + 1 ≤ d) : ∃ st1 e1, s1 = st1 ++ [-1] ∧ stp (st, e) x = some (st1, e1) ∧ e1 + 1 ≤ d1 := by
  by_cases hR : right x = true
  · by_cases k6 : x.kind = 6
    · cases st with
      | nil =>
        simp [stp, hR, k6] at h
        obtain ⟨h1, _⟩ := h
        exact absurd (by rw [h1]; rfl) hc
      | cons t r =>
        simp only [List.cons_append] at h
        by_cases ht : 0 < t
        · simp [stp, hR, k6, ht] at h
        · simp [stp, hR, k6, ht] at h
          obtain ⟨rfl, rfl⟩ := h
          exact ⟨r, e, rfl, by simp [stp, hR, k6, ht], he⟩
    · by_cases k11 : x.kind = 11
      · cases st with
        | nil => simp [stp, hR, k6, k11] at h
        | cons t r =>
          simp only [List.cons_append] at h
          by_cases ht : t < 1
          · simp [stp, hR, k6, k11, ht] at h
          · simp [stp, hR, k6, k11, ht] at h
            obtain ⟨rfl, rfl⟩ := h
            exact ⟨(t - 1) :: r, e, rfl, by simp [stp, hR, k6, k11, ht], he⟩
      · have hbb : blocked (st ++ [-1]) x = blocked st x := by cases st <;> simp [blocked]
        cases hb : blocked st x
        · rw [stp_other hR k6 k11 (by rw [hbb, hb])] at h
          simp only [Option.some.injEq, Prod.mk.injEq] at h
          obtain ⟨h1, h2⟩ := h
          refine ⟨if opensB x = true then (if x.kind = 10 then 2 else -1) :: st else st, max e (st.length + 1), ?_, ?_, ?_⟩
          · rw [← h1]
            split <;> simp
          · rw [stp_other hR k6 k11 hb]
          · rw [← h2]
            simp only [List.length_append, List.length_cons, List.length_nil]
            omega
        · rw [stp_blocked hR k6 k11 (by rw [hbb, hb])] at h
          cases h
  · simp [stp, hR] at h
theorem run_base : ∀ {l : List Nd} {st s1 : List Int} {d d1 e : Int}, run l (st ++ [-1], d) = some (s1, d1) → endc l (st.length + 1) = none → e + 1 ≤ d → ∃ st1 e1, s1 = st1 ++ [-1] ∧ run l (st, e) = some (st1, e1) ∧ e1 + 1 ≤ d1
  | [], st, s1, d, d1, e, h, hc, he => by
    simp only [run, Option.some.injEq, Prod.mk.injEq] at h
    obtain ⟨rfl, rfl⟩ := h
    exact ⟨st, e, rfl, rfl, he⟩
  | x :: l, st, s1, d, d1, e, h, hc, he => by
    simp only [run] at h
    cases hs : stp (st ++ [-1], d) x with
    | none => rw [hs] at h; cases h
    | some s2 =>
      obtain ⟨st2, d2⟩ := s2
      rw [hs] at h
      simp only at h
      have hcn := stp_cnt hs
      simp only [List.length_append, List.length_cons, List.length_nil, Int.natCast_add, Int.natCast_zero] at hcn
      have e1 : ((st.length : Int) + ((0 : Int) + 1)) = st.length + 1 := by omega
      have hcn' : (st2.length : Int) = cnt x (st.length + 1) := by
        rw [hcn]
        congr 1
      simp only [endc] at hc
      split at hc
      · cases hc
      · rename_i hne
        have hc2 : endc l (cnt x (st.length + 1)) = none := by
          cases hh : endc l (cnt x (st.length + 1)) with
          | none => rfl
          | some v => rw [hh] at hc; cases hc
        obtain ⟨st3, e3, rfl, h3, h4⟩ := stp_boxd hs (by omega) he
        obtain ⟨st4, e4, rfl, h5, h6⟩ := run_base h (by
          rw [← hcn'] at hc2
          simpa using hc2) h4
        exact ⟨st4, e4, rfl, by simp only [run, h3]; exact h5, h6⟩
/-- Contents within a node. -/
def wrapL (n : Nd) (l : List Nd) : List Nd := n :: (l ++ [nz 6])
theorem right_end {z : Nd} (h : right z = true) (k : z.kind = 6) : z = nz 6 := by
  simp only [right, k] at h
  simp only [Bool.and_eq_true] at h
  have := (eqB_iff _ _).1 h.2.2
  exact this
/-- An item that opens, Discs apart: its contents are a list, and it is they, wrapped. -/
theorem item_wrap {p : List Nd} {x : Nd} {m : Nat} (hc : chk p = 0) (hm : endc p 0 = some m) (hl : p.length = m) (hx : p[0]? = some x) (h1 : 2 ≤ m) (h10 : ¬ x.kind = 10) :
    right x = true ∧ opensB x = true ∧ p = wrapL x ((p.drop 1).take (m - 2)) ∧ chk ((p.drop 1).take (m - 2)) = 0 := by
  obtain ⟨hl2, d, hrun, hd⟩ := chk_run hc
  have hrr := run_right hrun
  cases p with
  | nil => simp at hx
  | cons y q =>
    simp at hx
    subst hx
    have hR := hrr y (by simp)
    simp only [run] at hrun
    have hol : opensB y = true ∧ stp ([], 0) y = some ([-1], 1) := by
      cases hs : stp ([], 0) y with
      | none => rw [hs] at hrun; cases hrun
      | some s2 =>
        have k6 : ¬ y.kind = 6 := fun k6 => by simp [stp, hR, k6] at hs
        have k11 : ¬ y.kind = 11 := fun k11 => by simp [stp, hR, k6, k11] at hs
        have ho : opensB y = true := by
          rcases (show m = 1 ∨ ¬ cnt y 0 = 0 by
            simp only [endc] at hm
            split at hm
            · left; simpa using hm.symm
            · right; assumption) with h | h
          · omega
          · by_cases ho : opensB y = true
            · exact ho
            · simp [cnt, ho, k6] at h
        rw [stp_other hR k6 k11 rfl] at hs
        refine ⟨ho, ?_⟩
        rw [← hs]
        simp [ho, h10]
        rfl
    obtain ⟨ho, hs⟩ := hol
    rw [hs] at hrun
    simp only at hrun
    have hq : q.length = m - 1 := by simp at hl; omega
    obtain ⟨inner, z, rfl⟩ : ∃ inner z, q = inner ++ [z] := by
      have : q ≠ [] := by rintro rfl; simp at hq; omega
      exact ⟨q.dropLast, q.getLast this, (List.dropLast_concat_getLast this).symm⟩
    have hil : inner.length = m - 2 := by simp at hq; omega
    have hin : ((y :: (inner ++ [z])).drop 1).take (m - 2) = inner := by
      simp only [List.drop_succ_cons, List.drop_zero]
      rw [← hil, List.take_left]
    rw [hin]
    have he : endc (inner ++ [z]) 1 = some (m - 1) := by
      simp only [endc] at hm
      have hcy : cnt y 0 = 1 := by simp [cnt, ho]
      rw [hcy] at hm
      simp at hm
      obtain ⟨v, hv, hv2⟩ := hm
      rw [hv]
      congr 1
      omega
    have hen : endc inner 1 = none := by
      cases hh : endc inner 1 with
      | none => rfl
      | some v =>
        have h5 := endc_more [z] hh
        rw [he] at h5
        have h6 := (endc_bd hh).2
        simp at h5
        omega
    rw [run_append] at hrun
    cases hri : run inner ([-1], 1) with
    | none => rw [hri] at hrun; cases hrun
    | some s2 =>
      obtain ⟨st2, d2⟩ := s2
      rw [hri] at hrun
      simp only [Option.bind_some, run] at hrun
      obtain ⟨st1, e1, rfl, h5, h6⟩ := run_base (st := []) (e := 0) hri (by simpa using hen) (by omega)
      cases hz : stp (st1 ++ [-1], d2) z with
      | none => rw [hz] at hrun; cases hrun
      | some s3 =>
        rw [hz] at hrun
        simp only [Option.some.injEq] at hrun
        subst hrun
        have hcn := stp_cnt hz
        have hzr := hrr z (by simp)
        have hle := cnt_least z ((st1 ++ [-1]).length : Int)
        simp only [List.length_append, List.length_cons, List.length_nil] at hcn hle
        have hs0 : st1 = [] := List.eq_nil_of_length_eq_zero (by omega)
        subst hs0
        have hz6 : z.kind = 6 := by
          unfold cnt at hcn
          simp at hcn
          split at hcn
          · omega
          · split at hcn
            · assumption
            · omega
        have hd2 := (stp_free hz).1
        refine ⟨hR, ho, by rw [right_end hzr hz6]; rfl, chk_of (by simp at hl2; omega) h5 (by omega)⟩
/-- Where a walk over the items stands. -/
structure Stand (l : List Nd) (a : Nat) (ys : List Nat) : Prop where
  its : Its ys (l.drop a) a
  run : ∃ da dl, 0 ≤ da ∧ dl ≤ 40 ∧ run (l.drop a) ([], da) = some ([], dl)
  le : a ≤ l.length
theorem stand0 {l : List Nd} {xs : List Nat} (h : chk l = 0) (hx : Its xs l 0) : Stand l 0 xs := by
  obtain ⟨_, d, h1, h2⟩ := chk_run h
  exact ⟨hx, ⟨0, d, Int.le_refl _, h2, h1⟩, Nat.zero_le _⟩
theorem Stand.step {l : List Nd} {a : Nat} {ys : List Nat} (h : Stand l a ys) (hl : l.length ≤ 2000) (ha : a < l.length) : ∃ (m : Nat) (zs : List Nat) (x : Nd), ys = a :: zs ∧ endc (l.drop a) 0 = some m ∧ 1 ≤ m ∧ a + m ≤ l.length ∧ Stand l (a + m) zs ∧ chk ((l.drop a).take m) = 0 ∧
    l[a]? = some x ∧ ¬ x.kind = 6 ∧ ¬ x.kind = 11 := by
  obtain ⟨hi, ⟨da, dl, h0, h40, hr⟩, hle⟩ := h
  have hne : l.drop a ≠ [] := by
    intro hh
    have := congrArg List.length hh
    simp at this
    omega
  cases ys with
  | nil => exact absurd hi hne
  | cons y zs =>
    obtain ⟨rfl, m, hm, hz⟩ := hi
    obtain ⟨m', d1, hm', hr1, hr2⟩ := run_item hr hne
    have : m' = m := by
      have e : endc (l.drop y) 0 = some m' := by simpa using hm'
      rw [hm] at e
      simpa using e.symm
    subst this
    have hb := endc_bd hm
    rw [List.length_drop] at hb
    obtain ⟨g1, _⟩ := run_free hr2
    obtain ⟨g2, g3⟩ := run_free hr1
    obtain ⟨e1, g4, g5⟩ := g3 0 h0
    obtain ⟨x, hx⟩ : ∃ x, l[y]? = some x := ⟨_, List.getElem?_eq_getElem ha⟩
    have hcons : l.drop y = x :: l.drop (y + 1) := by
      rw [List.drop_eq_getElem_cons ha]
      have : l[y] = x := by
        have := List.getElem?_eq_getElem ha
        rw [hx] at this
        simpa using this.symm
      rw [this]
    refine ⟨m', zs, x, rfl, hm, hb.1, by omega, ⟨?_, ⟨d1, dl, by omega, h40, ?_⟩, by omega⟩, chk_of (by simp only [List.length_take, List.length_drop]; omega) g4 (by omega), hx, ?_, ?_⟩
    · rw [List.drop_drop] at hz
      exact hz
    · rw [List.drop_drop] at hr2
      exact hr2
    · intro k6
      rw [hcons] at hr
      simp only [Np.run] at hr
      by_cases hR : right x = true
      · simp [stp, hR, k6] at hr
      · simp [stp, hR] at hr
    · intro k11
      rw [hcons] at hr
      simp only [Np.run] at hr
      by_cases hR : right x = true
      · simp [stp, hR, k11] at hr
      · simp [stp, hR] at hr
theorem Stand.done {l : List Nd} {ys : List Nat} (h : Stand l l.length ys) : ys = [] := by
  have hi := h.its
  rw [List.drop_length] at hi
  cases ys with
  | nil => rfl
  | cons y zs =>
    obtain ⟨_, m, hm, _⟩ := hi
    simp [endc] at hm
end Go.Proofs.YtoboecenlangmaaGreat.Np
end
section
namespace Go.Proofs.YtoboecenlangmaaGreat.Np
set_option linter.unusedVariables false

/-- A node's height and depth in a row; no Disc. -/
def rowP (n : Nd) : Int × Int :=
  if n.kind = 1 ∨ n.kind = 2 ∨ n.kind = 3 then (n.ht, n.dp)
  else if n.kind = 4 ∨ n.kind = 5 then (n.ht - n.shift, n.dp + n.shift)
  else (0, 0)
def rstep (s v : Int × Int) : Int × Int := (max s.1 v.1, max s.2 v.2)
def rfold (ra : Nat → Int × Int) : List Nat → Int × Int → Int × Int
  | [], s => s
  | x :: xs, s => rfold ra xs (rstep s (ra x))
/-- No greater than this, and no less than 0. -/
def RB (s : Int × Int) : Prop := 0 ≤ s.1 ∧ s.1 ≤ 2147483646 ∧ 0 ≤ s.2 ∧ s.2 ≤ 2147483646
def RV (v : Int × Int) : Prop := -2147483646 ≤ v.1 ∧ v.1 ≤ 2147483646 ∧ -2147483646 ≤ v.2 ∧ v.2 ≤ 2147483646
theorem RB.step {s v : Int × Int} (h : RB s) (g : RV v) : RB (rstep s v) := by
  unfold RB RV at *
  unfold rstep
  simp only
  omega
theorem RB.rv {s : Int × Int} (h : RB s) : RV s := by unfold RB RV at *; omega
theorem rfold_rb {ra : Nat → Int × Int} : ∀ {xs : List Nat} {s : Int × Int}, RB s → (∀ x ∈ xs, RV (ra x)) → RB (rfold ra xs s)
  | [], s, h, g => h
  | x :: xs, s, h, g => by
    simp only [rfold]
    exact rfold_rb (h.step (g x (by simp))) (fun y hy => g y (by simp [hy]))
theorem rowP_rv {n : Nd} (h : right n = true) : RV (rowP n) := by
  unfold rowP RV
  by_cases h3 : n.kind = 1 ∨ n.kind = 2 ∨ n.kind = 3
  · have hd := right_hd h (by omega)
    unfold dm at hd
    rw [if_pos h3]
    simp only
    omega
  · rw [if_neg h3]
    by_cases h4 : n.kind = 4 ∨ n.kind = 5
    · have hd := right_hd h (by omega)
      unfold dm at hd
      have hs : dimB n.shift = true := by
        rcases h4 with h4 | h4
        · have := right_kind (k := 4) h h4
          simp only [goodK, gBox, Bool.and_eq_true] at this
          exact this.1.2.2.2
        · have := right_kind (k := 5) h h4
          simp only [goodK, gBox, Bool.and_eq_true] at this
          exact this.1.2.2.2
      have hs2 := dm_of hs
      unfold dm at hs2
      rw [if_pos h4]
      simp only
      omega
    · rw [if_neg h4]
      simp only
      omega
def ra0 (l : List Nd) (x : Nat) : Int × Int := match l[x]? with
  | none => (0, 0)
  | some n => rowP n
theorem ra0_rv {l : List Nd} (hr : ∀ x ∈ l, right x = true) (x : Nat) : RV (ra0 l x) := by
  unfold ra0
  split
  · unfold RV; simp only; omega
  · rename_i n hn
    exact rowP_rv (hr n (List.mem_of_getElem? hn))
/-- How high and how deep the item at a place is. -/
def RoV (ns : List Nd) (x : Nat) (v : Int × Int) : Prop :=
  ∃ n, ns[x]? = some n ∧ (if n.kind = 10 then
    ∃ ss m xs, D3 ss (ns.drop (x + 1)) 0 m ∧ Its xs (thr ss (ns.drop (x + 1)) 0 2) 0 ∧ v = rfold (ra0 (thr ss (ns.drop (x + 1)) 0 2)) xs (0, 0)
  else v = rowP n)
theorem RoV.unique {ns : List Nd} {x : Nat} {v u : Int × Int} (h : RoV ns x v) (k : RoV ns x u) : v = u := by
  obtain ⟨n, hn, h⟩ := h
  obtain ⟨n', hn', k⟩ := k
  rw [hn] at hn'
  injection hn' with e
  subst e
  split at h
  · rename_i hc
    rw [if_pos hc] at k
    obtain ⟨ss, m, xs, h1, h2, h3⟩ := h
    obtain ⟨tt, q, ys, k1, k2, k3⟩ := k
    have e1 := D3.unique h1 k1
    subst e1
    have e2 := Its.unique h2 k2
    subst e2
    rw [h3, k3]
  · rename_i hc
    rw [if_neg hc] at k
    rw [h, k]
open Classical in
noncomputable def roD (ns : List Nd) (x : Nat) : Int × Int := if h : ∃ v, RoV ns x v then h.choose else (0, 0)
theorem roD_of {ns : List Nd} {x : Nat} {v : Int × Int} (h : RoV ns x v) : roD ns x = v := by
  have hx : ∃ v, RoV ns x v := ⟨v, h⟩
  unfold roD
  rw [dif_pos hx]
  exact RoV.unique hx.choose_spec h
theorem RoV.rv {ns : List Nd} (hr : ∀ x ∈ ns, right x = true) {x : Nat} {v : Int × Int} (h : RoV ns x v) : RV v := by
  obtain ⟨n, hn, h⟩ := h
  split at h
  · obtain ⟨ss, m, xs, h1, h2, rfl⟩ := h
    refine (rfold_rb (by unfold RB; simp only; omega) fun y _ => ra0_rv (fun z hz => hr z (List.mem_of_mem_drop (thr_mem z hz))) y).rv
  · rw [h]
    exact rowP_rv (hr n (List.mem_of_getElem? hn))
theorem roD_rv {ns : List Nd} (hr : ∀ x ∈ ns, right x = true) (x : Nat) : RV (roD ns x) := by
  unfold roD
  split
  · rename_i h
    exact h.choose_spec.rv hr
  · unfold RV; simp only; omega
/-- One item more, down a column. -/
def cstep (s : Int × Int) (n : Nd) : Int × Int :=
  if n.kind = 3 then (max s.1 n.wd, n.dp)
  else if n.kind = 4 ∨ n.kind = 5 then (max s.1 (n.wd + n.shift), n.dp)
  else (s.1, 0)
def cfold (ns : List Nd) : List Nat → Int × Int → Int × Int
  | [], s => s
  | x :: xs, s => match ns[x]? with
    | none => cfold ns xs s
    | some n => cfold ns xs (cstep s n)
end Go.Proofs.YtoboecenlangmaaGreat.Np
end
section
namespace Go.Proofs.YtoboecenlangmaaGreat.Pk
open Np
set_option linter.unusedVariables false

/-- What stands within an item that opens. -/
def inn (ns : List Nd) (a m : Nat) : List Nd := (ns.drop (a + 1)).take (m - 2)
/-- An item stays, or leaves. -/
def pstep (ns : List Nd) (s : List Nd × List Nd) (a : Nat) : List Nd × List Nd := match ns[a]?, endc (ns.drop a) 0 with
  | some x, some m => if x.kind = 13 ∨ x.kind = 12 then (s.1, s.2 ++ (ns.drop a).take m) else if x.kind = 17 then (s.1, s.2 ++ inn ns a m) else (s.1 ++ (ns.drop a).take m, s.2)
  | _, _ => s
theorem pstep_out {ns : List Nd} {s : List Nd × List Nd} {a m : Nat} {x : Nd} (hx : ns[a]? = some x) (hm : endc (ns.drop a) 0 = some m) (hk : x.kind = 13 ∨ x.kind = 12) : pstep ns s a = (s.1, s.2 ++ (ns.drop a).take m) := by
  unfold pstep; rw [hx, hm]; simp only; rw [if_pos hk]
theorem pstep_in {ns : List Nd} {s : List Nd × List Nd} {a m : Nat} {x : Nd} (hx : ns[a]? = some x) (hm : endc (ns.drop a) 0 = some m) (hk : x.kind = 17) : pstep ns s a = (s.1, s.2 ++ inn ns a m) := by
  unfold pstep; rw [hx, hm]; simp only; rw [if_neg (by omega), if_pos hk]
theorem pstep_stay {ns : List Nd} {s : List Nd × List Nd} {a m : Nat} {x : Nd} (hx : ns[a]? = some x) (hm : endc (ns.drop a) 0 = some m) (h1 : ¬ x.kind = 13) (h2 : ¬ x.kind = 12) (h3 : ¬ x.kind = 17) : pstep ns s a = (s.1 ++ (ns.drop a).take m, s.2) := by
  unfold pstep; rw [hx, hm]; simp only; rw [if_neg (by omega), if_neg h3]
def partF (ns : List Nd) (xs : List Nat) (s : List Nd × List Nd) : List Nd × List Nd := xs.foldl (pstep ns) s
theorem partF_cons (ns : List Nd) (a : Nat) (xs : List Nat) (s : List Nd × List Nd) : partF ns (a :: xs) s = partF ns xs (pstep ns s a) := rfl
/-- Where a list's items begin. -/
noncomputable def itsD (ns : List Nd) : List Nat := Classical.epsilon (fun xs => Its xs ns 0)
theorem itsD_of {ns : List Nd} {xs : List Nat} (h : Its xs ns 0) : itsD ns = xs := Its.unique (Classical.epsilon_spec (p := fun xs => Its xs ns 0) ⟨xs, h⟩) h
theorem itsD_is {ns : List Nd} (h : chk ns = 0) : Its (itsD ns) ns 0 := by
  obtain ⟨xs, hx⟩ := its_of_chk h
  rw [itsD_of hx]; exact hx
noncomputable def partD (ns : List Nd) : List Nd × List Nd := partF ns (itsD ns) ([], [])
/-- A number within what the badness takes, not below 0. -/
def held (x : Int) : Int := if x < 0 then 0 else if 2147483647 < x then 2147483647 else x
theorem held_bd (x : Int) : 0 ≤ held x ∧ held x ≤ 2147483647 := by
  unfold held
  split
  · omega
  · split <;> omega
def fitT (T : Tot) (ex : Int) : Int × Int × Int × Int := Gl.fit (T.st.getD 0 0) (T.st.getD 1 0) (T.st.getD 2 0) (T.st.getD 3 0) (T.sh.getD 0 0) (T.sh.getD 1 0) (T.sh.getD 2 0) (T.sh.getD 3 0) ex
end Go.Proofs.YtoboecenlangmaaGreat.Pk
end
section
namespace Go.Proofs.YtoboecenlangmaaGreat.Sc
set_option linter.unusedVariables false

def farB (x : Int) : Bool := decide (x < -2147483647 ∨ 2147483647 < x)
theorem farB_no {x : Int} (h : farB x = false) : -2147483647 ≤ x ∧ x ≤ 2147483647 := by
  have h1 := of_decide_eq_false h
  omega
theorem farB_yes {x : Int} (h : farB x = true) : x < -2147483647 ∨ 2147483647 < x := of_decide_eq_true h
theorem farB_in {x : Int} (h : -2147483647 ≤ x) (k : x ≤ 2147483647) : farB x = false := decide_eq_false (by omega)
def bigB (x : Int) : Bool := decide (x < -1073741823 ∨ 1073741823 < x)
theorem bigB_no {x : Int} (h : bigB x = false) : -1073741823 ≤ x ∧ x ≤ 1073741823 := by
  have h1 := of_decide_eq_false h
  omega
theorem bigB_yes {x : Int} (h : bigB x = true) : x < -1073741823 ∨ 1073741823 < x := of_decide_eq_true h
theorem bigB_in {x : Int} (h : -1073741823 ≤ x) (k : x ≤ 1073741823) : bigB x = false := decide_eq_false (by omega)
theorem bigB_out {x : Int} (h : x < -1073741823 ∨ 1073741823 < x) : bigB x = true := decide_eq_true h
/-- A dimension, or that it is too great. -/
def dimV (x : Int) : Int := if bigB x = true then 0 else x
def dimE (x : Int) : Int := if bigB x = true then 20 else 0
def addV (a b : Int) : Int := if farB a = true ∨ farB b = true then 0 else dimV (a + b)
def addE (a b : Int) : Int := if farB a = true ∨ farB b = true then 11 else dimE (a + b)
def timV (n x y : Int) : Int := if farB n = true ∨ farB x = true ∨ farB y = true then 0 else dimV (n * x + y)
def timE (n x y : Int) : Int := if farB n = true ∨ farB x = true ∨ farB y = true then 11 else dimE (n * x + y)
def ovQ (x n : Int) : Int := if farB x = true ∨ farB n = true then 0 else if n = 0 then 0 else x.tdiv n
def ovR (x n : Int) : Int := if farB x = true ∨ farB n = true then 0 else if n = 0 then 0 else x.tmod n
def ovE (x n : Int) : Int := if farB x = true ∨ farB n = true then 11 else if n = 0 then 20 else 0
def frQ (x n d : Int) : Int := if farB x = true ∨ farB n = true ∨ farB d = true then 0 else if n < 0 ∨ d < 1 then 0 else if bigB ((x * n).tdiv d) = true then 0 else (x * n).tdiv d
def frR (x n d : Int) : Int := if farB x = true ∨ farB n = true ∨ farB d = true then 0 else if n < 0 ∨ d < 1 then 0 else if bigB ((x * n).tdiv d) = true then 0 else (x * n).tmod d
def frE (x n d : Int) : Int := if farB x = true ∨ farB n = true ∨ farB d = true then 11 else if n < 0 ∨ d < 1 then 1 else if bigB ((x * n).tdiv d) = true then 20 else 0

/-- A product's bounds. -/
theorem mul_bd {a b m n : Int} (ha : -m ≤ a ∧ a ≤ m) (hb : -n ≤ b ∧ b ≤ n) : -(m * n) ≤ a * b ∧ a * b ≤ m * n := by
  have h1 : (a * b).natAbs ≤ (m * n).natAbs := by
    rw [Int.natAbs_mul, Int.natAbs_mul]
    exact Nat.mul_le_mul (by omega) (by omega)
  have h2 : 0 ≤ m * n := Int.mul_nonneg (by omega) (by omega)
  omega

theorem tdiv_bd {a d m : Int} (h : -m ≤ a ∧ a ≤ m) : -m ≤ a.tdiv d ∧ a.tdiv d ≤ m := by
  have h1 : (a.tdiv d).natAbs ≤ a.natAbs := by
    rw [Int.natAbs_tdiv]
    exact Nat.div_le_self _ _
  omega

/-- Rounded: p / d, for p, d from 0 on. -/
def rnd (p d : Nat) : Nat := if d ≤ 2 * (p % d) then p / d + 1 else p / d
def paOk (n d : Int) : Bool := decide (0 ≤ n ∧ n ≤ d ∧ 1 ≤ d ∧ d ≤ 1152921504606846976)
def paV (x n d : Int) : Int := if farB x = true then 0 else if paOk n d = false then 0 else if x < 0 then -(rnd (x.natAbs * n.toNat) d.toNat : Int) else (rnd (x.natAbs * n.toNat) d.toNat : Int)
def paE (x n d : Int) : Int := if farB x = true then 11 else if paOk n d = false then 1 else 0

/-- Badness: the quotient. -/
def bdR (t s : Int) : Int := if t ≤ 7230584 then (297 * t).tdiv s else if 1663497 ≤ s then t.tdiv (s.tdiv 297) else t
def bdV (t s : Int) : Int := if farB t = true ∨ farB s = true then 0 else if t < 0 then 0 else if t = 0 then 0 else if s < 1 then 10000 else if 1290 < bdR t s then 10000 else (bdR t s * bdR t s * bdR t s + 131072) / 262144
def bdE (t s : Int) : Int := if farB t = true ∨ farB s = true then 11 else if t < 0 then 1 else 0
theorem bdR_nonneg {t s : Int} (ht : 0 < t) (hs : 1 ≤ s) : 0 ≤ bdR t s := by
  unfold bdR
  split
  · exact Int.tdiv_nonneg (by omega) (by omega)
  · split
    · exact Int.tdiv_nonneg (by omega) (Int.tdiv_nonneg (by omega) (by omega))
    · omega

/-! ### Texts -/
def digB (c : UInt8) : Bool := decide (48 ≤ c.toNat ∧ c.toNat ≤ 57)
theorem digB_yes {c : UInt8} (h : digB c = true) : 48 ≤ c.toNat ∧ c.toNat ≤ 57 := of_decide_eq_true h
theorem digB_no {c : UInt8} (h : digB c = false) : c.toNat < 48 ∨ 57 < c.toNat := by
  have h1 := of_decide_eq_false h
  omega
def decA : List UInt8 → Int
  | [] => 0
  | c :: l => (decA l + 131072 * ((c.toNat : Int) - 48)) / 10
def decs (l : List UInt8) : Int := (decA (l.take 17) + 1) / 2
theorem decA_bd : ∀ l : List UInt8, l.all digB = true → 0 ≤ decA l ∧ decA l ≤ 131071
  | [], _ => by simp [decA]
  | c :: l, h => by
    simp only [List.all_cons, Bool.and_eq_true] at h
    have h1 := digB_yes h.1
    have h2 := decA_bd l h.2
    simp only [decA]
    omega
theorem all_take {l : List UInt8} {f : UInt8 → Bool} (h : l.all f = true) (n : Nat) : (l.take n).all f = true := by
  rw [List.all_eq_true] at h ⊢
  exact fun x hx => h x (List.mem_of_mem_take hx)
theorem all_drop {l : List UInt8} {f : UInt8 → Bool} (h : l.all f = true) (n : Nat) : (l.drop n).all f = true := by
  rw [List.all_eq_true] at h ⊢
  exact fun x hx => h x (List.mem_of_mem_drop hx)
theorem decs_bd {l : List UInt8} (h : l.all digB = true) : 0 ≤ decs l ∧ decs l ≤ 65536 := by
  have h1 := decA_bd (l.take 17) (all_take h 17)
  unfold decs
  omega
def dcV (l : List UInt8) : Int := if l.all digB = true then decs l else 0
def dcE (l : List UInt8) : Int := if l.all digB = true then 0 else 21
/-- The whole part, held. -/
def whl : List UInt8 → Int → Int
  | [], i => i
  | c :: l, i => whl l (min (10 * i + ((c.toNat : Int) - 48)) 1099511627776)
theorem whl_bd : ∀ (l : List UInt8) (i : Int), l.all digB = true → 0 ≤ i → i ≤ 1099511627776 → 0 ≤ whl l i ∧ whl l i ≤ 1099511627776
  | [], i, _, h0, h1 => ⟨h0, h1⟩
  | c :: l, i, h, h0, h1 => by
    simp only [List.all_cons, Bool.and_eq_true] at h
    have h2 := digB_yes h.1
    exact whl_bd l _ h.2 (by omega) (by omega)
theorem whl_snoc : ∀ (l : List UInt8) (c : UInt8) (i : Int), whl (l ++ [c]) i = min (10 * whl l i + ((c.toNat : Int) - 48)) 1099511627776
  | [], c, i => rfl
  | d :: l, c, i => whl_snoc l c _
def minusB : List UInt8 → Bool
  | 45 :: _ => true
  | _ => false
def bare : List UInt8 → List UInt8
  | 45 :: l => l
  | l => l
def run (l : List UInt8) : List UInt8 := l.takeWhile digB
def rest (l : List UInt8) : List UInt8 := l.dropWhile digB
def pointB : List UInt8 → Bool
  | 46 :: _ => true
  | _ => false
def unpoint : List UInt8 → List UInt8
  | 46 :: l => l
  | l => l
def behind (l : List UInt8) : List UInt8 := if pointB (rest l) = true then run (unpoint (rest l)) else []
def left (l : List UInt8) : List UInt8 := if pointB (rest l) = true then rest (unpoint (rest l)) else rest l
def numOk (l : List UInt8) : Bool := !(run l).isEmpty || !(behind l).isEmpty
def numI (l : List UInt8) : Int := whl (run l) 0
def numF (l : List UInt8) : Int := decs (behind l)
theorem run_all (l : List UInt8) : (run l).all digB = true := by
  rw [List.all_eq_true]
  intro x hx
  exact List.all_eq_true.1 (List.all_takeWhile (l := l) (p := digB)) x hx
theorem behind_all (l : List UInt8) : (behind l).all digB = true := by
  unfold behind
  split
  · exact run_all _
  · rfl
theorem numI_bd (l : List UInt8) : 0 ≤ numI l ∧ numI l ≤ 1099511627776 := whl_bd _ _ (run_all l) (by omega) (by omega)
theorem numF_bd (l : List UInt8) : 0 ≤ numF l ∧ numF l ≤ 65536 := decs_bd (behind_all l)
theorem run_rest (l : List UInt8) : run l ++ rest l = l := List.takeWhile_append_dropWhile
def turn (m : Bool) (x : Int) : Int := if m = true then -x else x
def parV (t : List UInt8) : Int := if numOk (bare t) = true ∧ left (bare t) = [] then turn (minusB t) (dimV (numI (bare t) * 65536 + numF (bare t))) else 0
def parE (t : List UInt8) : Int := if numOk (bare t) = true ∧ left (bare t) = [] then dimE (numI (bare t) * 65536 + numF (bare t)) else 21
/-- Units: their numbers. -/
def unit (l : List UInt8) : Option (Int × Int) :=
  if l = [112, 116] then some (1, 1) else if l = [105, 110] then some (7227, 100) else if l = [112, 99] then some (12, 1) else if l = [99, 109] then some (7227, 254)
  else if l = [109, 109] then some (7227, 2540) else if l = [98, 112] then some (7227, 7200) else if l = [100, 100] then some (1238, 1157) else if l = [99, 99] then some (14856, 1157) else none
/-- A number in a unit. -/
def mea (i f n d : Int) : Int := 65536 * (i * n / d + (n * f + 65536 * (i * n % d)) / d / 65536) + (n * f + 65536 * (i * n % d)) / d % 65536
def diV (t : List UInt8) : Int :=
  if numOk (bare t) = true then
    if left (bare t) = [115, 112] then turn (minusB t) (dimV (numI (bare t)))
    else match unit (left (bare t)) with
      | none => 0
      | some (n, d) => if 2147483647 < numI (bare t) then 0 else turn (minusB t) (dimV (mea (numI (bare t)) (numF (bare t)) n d))
  else 0
def diE (t : List UInt8) : Int :=
  if numOk (bare t) = true then
    if left (bare t) = [115, 112] then dimE (numI (bare t))
    else match unit (left (bare t)) with
      | none => 21
      | some (n, d) => if 2147483647 < numI (bare t) then 20 else dimE (mea (numI (bare t)) (numF (bare t)) n d)
  else 21

/-! ### Print and Roman -/
def dig1 (k : Nat) : UInt8 := UInt8.ofNat (48 + k)
/-- The digits behind the point: so many rounds at most. -/
def frac : Nat → Nat → Nat → List UInt8
  | 0, _, _ => []
  | k + 1, x, delta =>
    let y := if 65536 < delta then x - 17232 else x
    dig1 (y / 65536) :: (if 10 * (y % 65536) ≤ 10 * delta then [] else frac k (10 * (y % 65536)) (10 * delta))
def prA (n : Nat) : List UInt8 := Lib.decDigits (n / 65536) ++ 46 :: frac 5 (10 * (n % 65536) + 5) 10
def prT (s : Int) : List UInt8 := if farB s = true then [] else if s < 0 then 45 :: prA s.natAbs else prA s.natAbs
/-- One place of a numeral. -/
def plc (k : Nat) (a b c : UInt8) : List UInt8 :=
  if k = 9 then [a, c] else if 5 ≤ k then b :: List.replicate (k - 5) a else if k = 4 then [a, b] else List.replicate k a
def roA (n : Nat) : List UInt8 := List.replicate (n / 1000) 109 ++ plc (n / 100 % 10) 99 100 109 ++ plc (n / 10 % 10) 120 108 99 ++ plc (n % 10) 105 118 120
def roT (n : Int) : List UInt8 := if n < 1 ∨ 20000 < n then [] else roA n.toNat
end Go.Proofs.YtoboecenlangmaaGreat.Sc
end
section
namespace Go.Proofs.YtoboecenlangmaaGreat.Ss
open Go.ChangeShapes Go.WideShapes Go.ChangeAt Go.RowKit
open Me Sc
set_option linter.unusedVariables false
set_option linter.unusedSimpArgs false

theorem ret_bool {a b : Bool} (h : a = b) : Ending.returned (.bool a) = .returned (.bool b) := by rw [h]
theorem ret_int {k : IntKind} {a b : Int} (h : a = b) : Ending.returned (.int k a) = .returned (.int k b) := by rw [h]
theorem ret_ints {a b c d : Int} (h : a = c) (k : b = d) : Ending.returned (.tuple #[.int .i64 a, .int .i64 b]) = .returned (.tuple #[.int .i64 c, .int .i64 d]) := by rw [h, k]
theorem ret_ints3 {a b c d e f : Int} (h : a = d) (k : b = e) (l : c = f) : Ending.returned (.tuple #[.int .i64 a, .int .i64 b, .int .i64 c]) = .returned (.tuple #[.int .i64 d, .int .i64 e, .int .i64 f]) := by rw [h, k, l]
theorem far_any (x : Int) (w : World) : Calls Tryz.prog 192 #[.int .i64 x] w fun e w' => e = .returned (.bool (farB x)) ∧ w = w' := by
  by_cases h0 : x < -2147483647
  · go_enter Tryz.func192, Tryz.ntmps192
    go_wp2
    go_ret
    exact ⟨ret_bool (decide_eq_true (.inl h0)).symm, rfl⟩
  · by_cases h1 : 2147483647 < x
    · go_enter Tryz.func192, Tryz.ntmps192
      go_wp2
      go_ret
      exact ⟨ret_bool (decide_eq_true (.inr h1)).symm, rfl⟩
    · go_enter Tryz.func192, Tryz.ntmps192
      go_wp2
      go_ret
      exact ⟨ret_bool (decide_eq_false (by omega)).symm, rfl⟩
end Go.Proofs.YtoboecenlangmaaGreat.Ss
end
section
namespace Go.Proofs.YtoboecenlangmaaGreat.Ss
open Go.ChangeShapes Go.WideShapes Go.ChangeAt Go.RowKit
open Me Sc
set_option linter.unusedVariables false
set_option linter.unusedSimpArgs false

/-- A slice of integers reads as a list. -/
def Ns (w : World) (A : Option Addr) (xs : List Int) : Prop := ∀ k x, xs[k]? = some x → ∃ b off : Nat, A = some ⟨b, off, none⟩ ∧ w.cell? ⟨b, off + k, none⟩ = some (.int .i64 x)
theorem any_snoc {xs : List Int} {k : Nat} {x : Int} (f : Int → Bool) (h : xs[k]? = some x) : (xs.take (k + 1)).any f = ((xs.take k).any f || f x) := by
  rw [List.take_add_one, h]; simp
theorem any_yes {xs : List Int} {k : Nat} {x : Int} {f : Int → Bool} (h : xs[k]? = some x) (hf : f x = true) : xs.any f = true := by
  rw [List.any_eq_true]
  exact ⟨x, List.mem_of_getElem? h, hf⟩
theorem anyFar_any (A : Option Addr) (xs : List Int) (c : Nat) (w : World) (hl : xs.length ≤ 9223372036854775807) (hx : Ns w A xs) :
    Calls Tryz.prog 189 #[.slice A xs.length c] w fun e w' => e = .returned (.bool (xs.any farB)) ∧ w = w' := by
  have HX := Lib.hid hx
  clear hx
  generalize hn : xs.length = n at *
  have HN := Lib.hid hn
  clear hn
  go_enter Tryz.func189, Tryz.ntmps189
  go_wp2_with fail
  go_loop [7] (fun i => ∃ k : Nat, k ≤ n ∧ i = .int .i64 k ∧ (xs.take k).any farB = false) (fun i => n - (intOf i).toNat)
  case atStart => exact ⟨0, Nat.zero_le _, rfl, by simp⟩
  case round =>
    obtain ⟨k, hk, rfl, hs⟩ := hrel
    by_cases hlt : k < n
    · obtain ⟨x, hxk⟩ : ∃ x, xs[k]? = some x := ⟨_, List.getElem?_eq_getElem (by rw [HN.out]; exact hlt)⟩
      obtain ⟨b, off, rfl, cx⟩ := HX.out k x hxk
      have HS := Lib.hid hs
      have HK := Lib.hid hxk
      clear hs hxk
      cases hf : farB x
      · go_wp2_with (go_at_call 192; refine (far_any _ _).mono ?_; rintro e w' ⟨rfl, rfl⟩)
        go_round
        case rel => exact ⟨k + 1, by omega, by go_num, by rw [any_snoc _ HK.out, HS.out, hf]; rfl⟩
        case measure => simp [intOf]; omega
      · go_wp2_with (go_at_call 192; refine (far_any _ _).mono ?_; rintro e w' ⟨rfl, rfl⟩)
        go_ret
        exact ⟨ret_bool (any_yes HK.out hf).symm, rfl⟩
    · obtain rfl : k = n := by omega
      have HS := Lib.hid hs
      clear hs
      go_wp2_with fail
      go_ret
      have hz := HS.out
      rw [List.take_of_length_le (by rw [HN.out]; exact Nat.le_refl _)] at hz
      exact ⟨ret_bool hz.symm, rfl⟩
theorem anyFar2 (b : Nat) (x y : Int) (w : World) (c0 : w.cell? ⟨b, 0, none⟩ = some (.int .i64 x)) (c1 : w.cell? ⟨b, 1, none⟩ = some (.int .i64 y)) :
    Calls Tryz.prog 189 #[.slice (some ⟨b, 0, none⟩) 2 2] w fun e w' => e = .returned (.bool (farB x || farB y)) ∧ w = w' := by
  refine (anyFar_any (some ⟨b, 0, none⟩) [x, y] 2 w (by simp) ?_).mono ?_
  · intro k u hk
    refine ⟨b, 0, rfl, ?_⟩
    match k, hk with
    | 0, hk => simp at hk; subst hk; simpa using c0
    | 1, hk => simp at hk; subst hk; simpa using c1
  · rintro e w' ⟨rfl, rfl⟩
    exact ⟨ret_bool (by simp), rfl⟩
theorem anyFar3 (b : Nat) (x y z : Int) (w : World) (c0 : w.cell? ⟨b, 0, none⟩ = some (.int .i64 x)) (c1 : w.cell? ⟨b, 1, none⟩ = some (.int .i64 y)) (c2 : w.cell? ⟨b, 2, none⟩ = some (.int .i64 z)) :
    Calls Tryz.prog 189 #[.slice (some ⟨b, 0, none⟩) 3 3] w fun e w' => e = .returned (.bool (farB x || (farB y || farB z))) ∧ w = w' := by
  refine (anyFar_any (some ⟨b, 0, none⟩) [x, y, z] 3 w (by simp) ?_).mono ?_
  · intro k u hk
    refine ⟨b, 0, rfl, ?_⟩
    match k, hk with
    | 0, hk => simp at hk; subst hk; simpa using c0
    | 1, hk => simp at hk; subst hk; simpa using c1
    | 2, hk => simp at hk; subst hk; simpa using c2
  · rintro e w' ⟨rfl, rfl⟩
    exact ⟨ret_bool (by simp), rfl⟩
theorem shr18 (a : Int) : a / 2 ^ 18 = a / 262144 := rfl
theorem bd_far {t s : Int} (h : farB t = true ∨ farB s = true) : bdV t s = 0 ∧ bdE t s = 11 := by unfold bdV bdE; rw [if_pos h, if_pos h]; exact ⟨rfl, rfl⟩
theorem bd_neg {t s : Int} (ht : farB t = false) (hs : farB s = false) (h : t < 0) : bdV t s = 0 ∧ bdE t s = 1 := by simp [bdV, bdE, ht, hs, h]
theorem bd_zero {t s : Int} (ht : farB t = false) (hs : farB s = false) (h : t = 0) : bdV t s = 0 ∧ bdE t s = 0 := by subst h; simp [bdV, bdE, ht, hs]
theorem bd_none {t s : Int} (ht : farB t = false) (hs : farB s = false) (h : 0 < t) (h1 : s < 1) : bdV t s = 10000 ∧ bdE t s = 0 := by
  have a : ¬ t < 0 := by omega
  have b : ¬ t = 0 := by omega
  simp [bdV, bdE, ht, hs, a, b, h1]
theorem bd_inf {t s r : Int} (ht : farB t = false) (hs : farB s = false) (h : 0 < t) (h1 : 1 ≤ s) (hr : bdR t s = r) (h2 : 1290 < r) : bdV t s = 10000 ∧ bdE t s = 0 := by
  have a : ¬ t < 0 := by omega
  have b : ¬ t = 0 := by omega
  have c : ¬ s < 1 := by omega
  simp [bdV, bdE, ht, hs, a, b, c, hr, h2]
theorem bd_fin {t s r : Int} (ht : farB t = false) (hs : farB s = false) (h : 0 < t) (h1 : 1 ≤ s) (hr : bdR t s = r) (h2 : r ≤ 1290) : bdV t s = (r * r * r + 131072) / 262144 ∧ bdE t s = 0 := by
  have a : ¬ t < 0 := by omega
  have b : ¬ t = 0 := by omega
  have c : ¬ s < 1 := by omega
  have d : ¬ 1290 < r := by omega
  simp [bdV, bdE, ht, hs, a, b, c, hr, d]
theorem bdR_a {t s : Int} (h : 0 < t) (h1 : 1 ≤ s) (h2 : t ≤ 7230584) : bdR t s = 297 * t / s := by
  unfold bdR
  rw [if_pos h2, Int.tdiv_eq_ediv_of_nonneg (by omega)]
theorem bdR_b {t s : Int} (h : 0 < t) (h2 : 7230584 < t) (h3 : 1663497 ≤ s) : bdR t s = t / (s / 297) := by
  unfold bdR
  rw [if_neg (by omega), if_pos h3, Int.tdiv_eq_ediv_of_nonneg (by omega), Int.tdiv_eq_ediv_of_nonneg (by omega)]
theorem bdR_c {t s : Int} (h2 : 7230584 < t) (h3 : s < 1663497) : bdR t s = t := by
  unfold bdR
  rw [if_neg (by omega), if_neg (by omega)]
theorem cube_bd {r : Int} (h0 : 0 ≤ r) (h1 : r ≤ 1290) : 0 ≤ r * r ∧ r * r ≤ 1664100 ∧ 0 ≤ r * r * r ∧ r * r * r ≤ 2146689000 := by
  have a := Int.mul_nonneg h0 h0
  have b : r * r ≤ 1290 * 1290 := Int.mul_le_mul h1 h1 h0 (by omega)
  have c := Int.mul_nonneg a h0
  have d : r * r * r ≤ 1664100 * 1290 := Int.mul_le_mul (by omega) h1 h0 (by omega)
  exact ⟨a, by omega, c, by omega⟩
set_option maxHeartbeats 1000000 in
theorem bad_any (t s : Int) (w : World) : Calls Tryz.prog 181 #[.int .i64 t, .int .i64 s] w fun e w' => e = .returned (.tuple #[.int .i64 (bdV t s), .int .i64 (bdE t s)]) ∧ Below w.heap.size w w' := by
  cases ht : farB t
  · obtain ⟨t0, t1⟩ := farB_no ht
    have HT := Lib.hid ht
    cases hs : farB s
    · obtain ⟨s0, s1⟩ := farB_no hs
      have HS := Lib.hid hs
      by_cases n0 : t < 0
      · go_enter Tryz.func181, Tryz.ntmps181
        go_wp2_with (first | (go_at_call 189; refine (anyFar2 _ t s _ ((Blk.new' rfl).cell 0) ((Blk.new' rfl).cell 1)).mono ?_; rintro e w' ⟨rfl, rfl⟩))
        go_ret2
        exact ⟨ret_ints (by rw [(bd_neg HT.out HS.out n0).1]) (by rw [(bd_neg HT.out HS.out n0).2]), (by repeat (first | exact Below.refl _ _ | assumption | apply below_drewN | apply andAlloc))⟩
      · by_cases n1 : t = 0
        · have e1 : (t == 0) = true := by simpa using n1
          have N1 := Lib.hid n1
          clear n1
          go_enter Tryz.func181, Tryz.ntmps181
          go_wp2_with (first | (go_at_call 189; refine (anyFar2 _ t s _ ((Blk.new' rfl).cell 0) ((Blk.new' rfl).cell 1)).mono ?_; rintro e w' ⟨rfl, rfl⟩))
          go_ret2
          exact ⟨ret_ints (by rw [(bd_zero HT.out HS.out N1.out).1]) (by rw [(bd_zero HT.out HS.out N1.out).2]), (by repeat (first | exact Below.refl _ _ | assumption | apply below_drewN | apply andAlloc))⟩
        · have hp : 0 < t := by omega
          have e1 : (t == 0) = false := by simpa using n1
          clear n1
          by_cases n2 : s < 1
          · go_enter Tryz.func181, Tryz.ntmps181
            go_wp2_with (first | (go_at_call 189; refine (anyFar2 _ t s _ ((Blk.new' rfl).cell 0) ((Blk.new' rfl).cell 1)).mono ?_; rintro e w' ⟨rfl, rfl⟩))
            go_ret2
            exact ⟨ret_ints (by rw [(bd_none HT.out HS.out hp n2).1]) (by rw [(bd_none HT.out HS.out hp n2).2]), (by repeat (first | exact Below.refl _ _ | assumption | apply below_drewN | apply andAlloc))⟩
          · have hs1 : 1 ≤ s := by omega
            by_cases c1 : t ≤ 7230584
            · have v0 : 0 ≤ t * 297 / s := Int.ediv_nonneg (by omega) (by omega)
              have v1 : t * 297 / s ≤ t * 297 := Int.ediv_le_self _ (by omega)
              by_cases big : 1290 < t * 297 / s
              · go_enter Tryz.func181, Tryz.ntmps181
                go_wp2_with (first | (go_at_call 189; refine (anyFar2 _ t s _ ((Blk.new' rfl).cell 0) ((Blk.new' rfl).cell 1)).mono ?_; rintro e w' ⟨rfl, rfl⟩))
                go_ret2
                exact ⟨ret_ints (by rw [(bd_inf HT.out HS.out hp hs1 (show bdR t s = t * 297 / s by rw [bdR_a hp hs1 c1, Int.mul_comm]) big).1]) (by rw [(bd_inf HT.out HS.out hp hs1 (show bdR t s = t * 297 / s by rw [bdR_a hp hs1 c1, Int.mul_comm]) big).2]), (by repeat (first | exact Below.refl _ _ | assumption | apply below_drewN | apply andAlloc))⟩
              · obtain ⟨u0, u1, u2, u3⟩ := cube_bd (r := t * 297 / s) (by omega) (by omega)
                go_enter Tryz.func181, Tryz.ntmps181
                go_wp2_with (first | (go_at_call 189; refine (anyFar2 _ t s _ ((Blk.new' rfl).cell 0) ((Blk.new' rfl).cell 1)).mono ?_; rintro e w' ⟨rfl, rfl⟩))
                go_ret2
                exact ⟨ret_ints (by rw [(bd_fin HT.out HS.out hp hs1 (show bdR t s = t * 297 / s by rw [bdR_a hp hs1 c1, Int.mul_comm]) (by omega)).1]) (by rw [(bd_fin HT.out HS.out hp hs1 (show bdR t s = t * 297 / s by rw [bdR_a hp hs1 c1, Int.mul_comm]) (by omega)).2]), (by repeat (first | exact Below.refl _ _ | assumption | apply below_drewN | apply andAlloc))⟩
            · by_cases c2 : 1663497 ≤ s
              · have v0 : 0 ≤ t / (s / 297) := Int.ediv_nonneg (by omega) (by omega)
                have v1 : t / (s / 297) ≤ t := Int.ediv_le_self _ (by omega)
                have v2 : 1 ≤ s / 297 := by omega
                by_cases big : 1290 < t / (s / 297)
                · go_enter Tryz.func181, Tryz.ntmps181
                  go_wp2_with (first | (go_at_call 189; refine (anyFar2 _ t s _ ((Blk.new' rfl).cell 0) ((Blk.new' rfl).cell 1)).mono ?_; rintro e w' ⟨rfl, rfl⟩))
                  go_ret2
                  exact ⟨ret_ints (by rw [(bd_inf HT.out HS.out hp hs1 (bdR_b hp (by omega) c2) big).1]) (by rw [(bd_inf HT.out HS.out hp hs1 (bdR_b hp (by omega) c2) big).2]), (by repeat (first | exact Below.refl _ _ | assumption | apply below_drewN | apply andAlloc))⟩
                · obtain ⟨u0, u1, u2, u3⟩ := cube_bd (r := t / (s / 297)) (by omega) (by omega)
                  go_enter Tryz.func181, Tryz.ntmps181
                  go_wp2_with (first | (go_at_call 189; refine (anyFar2 _ t s _ ((Blk.new' rfl).cell 0) ((Blk.new' rfl).cell 1)).mono ?_; rintro e w' ⟨rfl, rfl⟩))
                  go_ret2
                  exact ⟨ret_ints (by rw [(bd_fin HT.out HS.out hp hs1 (bdR_b hp (by omega) c2) (by omega)).1]) (by rw [(bd_fin HT.out HS.out hp hs1 (bdR_b hp (by omega) c2) (by omega)).2]), (by repeat (first | exact Below.refl _ _ | assumption | apply below_drewN | apply andAlloc))⟩
              · have c3 : 1290 < t := by omega
                go_enter Tryz.func181, Tryz.ntmps181
                go_wp2_with (first | (go_at_call 189; refine (anyFar2 _ t s _ ((Blk.new' rfl).cell 0) ((Blk.new' rfl).cell 1)).mono ?_; rintro e w' ⟨rfl, rfl⟩))
                go_ret2
                exact ⟨ret_ints (by rw [(bd_inf HT.out HS.out hp hs1 (bdR_c (by omega) (by omega)) c3).1]) (by rw [(bd_inf HT.out HS.out hp hs1 (bdR_c (by omega) (by omega)) c3).2]), (by repeat (first | exact Below.refl _ _ | assumption | apply below_drewN | apply andAlloc))⟩
    · have HS := Lib.hid hs
      go_enter Tryz.func181, Tryz.ntmps181
      go_wp2_with (first | (go_at_call 189; refine (anyFar2 _ t s _ ((Blk.new' rfl).cell 0) ((Blk.new' rfl).cell 1)).mono ?_; rintro e w' ⟨rfl, rfl⟩))
      go_ret2
      exact ⟨ret_ints (by rw [(bd_far (.inr HS.out)).1]) (by rw [(bd_far (.inr HS.out)).2]), (by repeat (first | exact Below.refl _ _ | assumption | apply below_drewN | apply andAlloc))⟩
  · have HT := Lib.hid ht
    go_enter Tryz.func181, Tryz.ntmps181
    go_wp2_with (first | (go_at_call 189; refine (anyFar2 _ t s _ ((Blk.new' rfl).cell 0) ((Blk.new' rfl).cell 1)).mono ?_; rintro e w' ⟨rfl, rfl⟩))
    go_ret2
    exact ⟨ret_ints (by rw [(bd_far (.inl HT.out)).1]) (by rw [(bd_far (.inl HT.out)).2]), (by repeat (first | exact Below.refl _ _ | assumption | apply below_drewN | apply andAlloc))⟩
end Go.Proofs.YtoboecenlangmaaGreat.Ss
end
section
namespace Go.Proofs.YtoboecenlangmaaGreat.Pk
open Go.ChangeShapes Go.WideShapes Go.ChangeAt Go.RowKit
open Me Np No
set_option linter.unusedVariables false
set_option linter.unusedSimpArgs false

/-- A maker's cells: a node; totals; is it empty? how bad, by how much too full, what went wrong. -/
def mkc (n : Nd) (x a b c d p q r s : Int) (em : Bool) (bad ov wr : Int) : Array Value := #[.int .i64 n.kind, .int .i64 n.font, .int .u8 n.char, .int .i64 n.wd, .int .i64 n.ht, .int .i64 n.dp, .int .i64 n.shift, .int .i64 n.gn, .int .i64 n.gs, .int .i64 n.gh, .int .i64 n.ga, .int .i64 n.gb, .int .i64 n.sign, .int .i64 n.order, .int .i64 n.num, .int .i64 n.den, .int .i64 n.pen, .int .i64 n.sub, .string n.text,
  .int .i64 x, .int .i64 a, .int .i64 b, .int .i64 c, .int .i64 d, .int .i64 p, .int .i64 q, .int .i64 r, .int .i64 s, .bool em, .int .i64 bad, .int .i64 ov, .int .i64 wr]
theorem held_min {t : Int} (h : 0 ≤ t) : min t 2147483647 = held t := by
  unfold held
  rw [if_neg (by omega)]
  split <;> omega
theorem held_max {a : Int} : min (max 0 a) 2147483647 = held a := by
  unfold held
  split
  · omega
  · split <;> omega
theorem held_held (a : Int) : held (max 0 a) = held a := by
  unfold held
  split
  · omega
  · split
    · split
      · omega
      · split <;> omega
    · split
      · omega
      · split <;> omega
open Sc in
set_option maxRecDepth 100000 in
theorem badness_any (t s : Int) (w : World) (ht : 0 ≤ t) (hs : 0 ≤ s) : Calls Tryz.prog 152 #[.int .i64 t, .int .i64 s] w fun e w' => e = .returned (.int .i64 (bdV (held t) (held s))) ∧ Below w.heap.size w w' := by
  have HS := Lib.hid (held_min hs)
  by_cases h : 2147483647 < t
  · have hh : held t = 2147483647 := by unfold held; rw [if_neg (by omega), if_pos h]
    rw [hh]
    go_enter Tryz.func152, Tryz.ntmps152
    go_wp2_with (first | (go_at_call 181; refine (Ss.bad_any _ _ _).mono ?_; rintro e w' ⟨rfl, hb⟩))
    go_ret
    exact ⟨by rw [HS.out]; rfl, hb⟩
  · have hh : held t = t := by unfold held; rw [if_neg (by omega), if_neg h]
    rw [hh]
    go_enter Tryz.func152, Tryz.ntmps152
    go_wp2_with (first | (go_at_call 181; refine (Ss.bad_any _ _ _).mono ?_; rintro e w' ⟨rfl, hb⟩))
    go_ret
    exact ⟨by rw [HS.out]; rfl, hb⟩
theorem grown_blk {w w' : World} {g : Nat} {r : Option Nat} (hb : Below w.heap.size w w') : w.grownBy w' r := ⟨hb.os, hb.tape, hb.output, hb.size, fun k hk _ => hb.block k hk⟩
theorem grown_trans {w a b : World} {r : Option Nat} (h : w.grownBy a r) (k : a.grownBy b r) : w.grownBy b r :=
  ⟨k.os.trans h.os, k.tape.trans h.tape, k.output.trans h.output, Nat.le_trans h.size k.size, fun q hq hne => (k.block q (by have := h.size; omega) hne).trans (h.block q hq hne)⟩
theorem grown_set (w : World) (g j : Nat) (u : Value) : w.grownBy (w.setCell ⟨g, j, none⟩ u) (some g) := ⟨rfl, rfl, rfl, by simp, fun k _ hk => heap_setCell_other w ⟨g, j, none⟩ k u (fun e => hk (by simp [e]))⟩
/-- A maker in memory. -/
def Mk (w : World) (g : Nat) (n : Nd) (x a b c d p q r s : Int) (em : Bool) (bad ov wr : Int) : Prop := Blk w g 111 (mkc n x a b c d p q r s em bad ov wr)
theorem Mk.below {w w' : World} {g : Nat} {n : Nd} {x a b c d p q r s : Int} {em : Bool} {bad ov wr : Int} (h : Mk w g n x a b c d p q r s em bad ov wr) (hb : Below w.heap.size w w') : Mk w' g n x a b c d p q r s em bad ov wr := Blk.below h hb h.lt
theorem Mk.bad {w : World} {g : Nat} {n : Nd} {x a b c d p q r s : Int} {em : Bool} {bad ov wr : Int} (h : Mk w g n x a b c d p q r s em bad ov wr) (z : Int) : Mk (w.setCell ⟨g, 29, none⟩ (.int .i64 z)) g n x a b c d p q r s em z ov wr := Blk.set h 29 (.int .i64 z)
theorem Mk.ov {w : World} {g : Nat} {n : Nd} {x a b c d p q r s : Int} {em : Bool} {bad ov wr : Int} (h : Mk w g n x a b c d p q r s em bad ov wr) (z : Int) : Mk (w.setCell ⟨g, 30, none⟩ (.int .i64 z)) g n x a b c d p q r s em bad z wr := Blk.set h 30 (.int .i64 z)
/-- How bad, where it is stretched. -/
def looseV (n : Nd) (a t bad : Int) : Int := if n.sign = 1 ∧ 0 < n.order then bad else Sc.bdV (held t) (held a)
set_option maxRecDepth 100000 in
set_option maxHeartbeats 1000000 in
theorem loose_any (g : Nat) (n : Nd) (x a b c d p q r s : Int) (em : Bool) (bad ov wr t : Int) (w : World) (hg : Mk w g n x a b c d p q r s em bad ov wr) (ht : 0 ≤ t) :
    Calls Tryz.prog 82 #[.pointer (some ⟨g, 0, none⟩), .int .i64 t] w fun e w' => e = .returned (.tuple #[]) ∧ Mk w' g n x a b c d p q r s em (looseV n a t bad) ov wr ∧ w.grownBy w' (some g) := by
  have hc12 : w.cell? ⟨g, 12, none⟩ = some (.int .i64 n.sign) := Blk.cell hg 12
  have hc13 : w.cell? ⟨g, 13, none⟩ = some (.int .i64 n.order) := Blk.cell hg 13
  have hc20 : w.cell? ⟨g, 20, none⟩ = some (.int .i64 a) := Blk.cell hg 20
  have HG := Lib.hid hg
  by_cases h1 : n.sign = 1
  · by_cases h2 : 0 < n.order
    · have HE := Lib.hid (show looseV n a t bad = bad from if_pos ⟨h1, h2⟩)
      clear hg
      go_enter Tryz.func82, Tryz.ntmps82
      go_wp2_with fail
      go_returns
      exact ⟨rfl, by rw [HE.out]; exact HG.out, grown_blk (g := g) (Below.refl _ _)⟩
    · have HE := Lib.hid (show looseV n a t bad = Sc.bdV (held t) (held a) from if_neg (fun hh => h2 hh.2))
      clear hg
      go_enter Tryz.func82, Tryz.ntmps82
      go_wp2_with (first | (go_at_call 152; refine (badness_any _ _ _ ht (by omega)).mono ?_; rintro e w2 ⟨rfl, hb2⟩; have HB2 := Lib.hid hb2; have hm2 := HG.out.below hb2; have hf2 := Blk.free hm2 29; have hd2 : w2.cell? ⟨g, 29, none⟩ = some (.int .i64 bad) := Blk.cell hm2 29; have HM2 := Lib.hid hm2; clear hm2 hb2))
      go_end0
      exact ⟨rfl, by rw [HE.out, ← held_held a]; exact HM2.out.bad _, grown_trans (grown_blk (g := g) HB2.out) (grown_set _ _ _ _)⟩
  · have HE := Lib.hid (show looseV n a t bad = Sc.bdV (held t) (held a) from if_neg (fun hh => h1 hh.1))
    clear hg
    go_enter Tryz.func82, Tryz.ntmps82
    go_wp2_with (first | (go_at_call 152; refine (badness_any _ _ _ ht (by omega)).mono ?_; rintro e w2 ⟨rfl, hb2⟩; have HB2 := Lib.hid hb2; have hm2 := HG.out.below hb2; have hf2 := Blk.free hm2 29; have hd2 : w2.cell? ⟨g, 29, none⟩ = some (.int .i64 bad) := Blk.cell hm2 29; have HM2 := Lib.hid hm2; clear hm2 hb2))
    go_end0
    exact ⟨rfl, by rw [HE.out, ← held_held a]; exact HM2.out.bad _, grown_trans (grown_blk (g := g) HB2.out) (grown_set _ _ _ _)⟩
/-- How bad, and by how much too full, where it is shrunk. -/
def tightV (n : Nd) (p t : Int) (z : Int × Int) : Int × Int := if n.sign = 2 ∧ 0 < n.order then z else if max 0 p < t then (1000000, t - max 0 p) else (Sc.bdV (held t) (held p), z.2)
set_option maxRecDepth 100000 in
set_option maxHeartbeats 1000000 in
theorem tight_any (g : Nat) (n : Nd) (x a b c d p q r s : Int) (em : Bool) (bad ov wr t : Int) (w : World) (hg : Mk w g n x a b c d p q r s em bad ov wr) (ht : 0 ≤ t) (ht2 : t ≤ 9223372036854775807) :
    Calls Tryz.prog 83 #[.pointer (some ⟨g, 0, none⟩), .int .i64 t] w fun e w' => e = .returned (.tuple #[]) ∧ Mk w' g n x a b c d p q r s em (tightV n p t (bad, ov)).1 (tightV n p t (bad, ov)).2 wr ∧ w.grownBy w' (some g) := by
  have hc12 : w.cell? ⟨g, 12, none⟩ = some (.int .i64 n.sign) := Blk.cell hg 12
  have hc13 : w.cell? ⟨g, 13, none⟩ = some (.int .i64 n.order) := Blk.cell hg 13
  have hc24 : w.cell? ⟨g, 24, none⟩ = some (.int .i64 p) := Blk.cell hg 24
  have hc29 : w.cell? ⟨g, 29, none⟩ = some (.int .i64 bad) := Blk.cell hg 29
  have hc30 : w.cell? ⟨g, 30, none⟩ = some (.int .i64 ov) := Blk.cell hg 30
  have hf29 := Blk.free hg 29
  have hf30 := Blk.free hg 30
  have HG := Lib.hid hg
  have HP := Lib.hid (held_held p)
  by_cases hso : n.sign = 2 ∧ 0 < n.order
  · obtain ⟨h1, h2⟩ := hso
    have HE := Lib.hid (show tightV n p t (bad, ov) = (bad, ov) from if_pos ⟨h1, h2⟩)
    clear hg
    go_enter Tryz.func83, Tryz.ntmps83
    go_wp2_with fail
    go_returns
    exact ⟨rfl, by rw [HE.out]; exact HG.out, grown_blk (g := g) (Below.refl _ _)⟩
  · have hb1 : ((n.sign == 2) && decide (0 < n.order)) = false := by
      cases e : (n.sign == 2) && decide (0 < n.order)
      · rfl
      · simp only [Bool.and_eq_true, beq_iff_eq, decide_eq_true_eq] at e
        exact absurd e hso
    have HSO := Lib.hid hso
    have h12 : ¬ n.sign = 2 ∨ (n.sign = 2 ∧ n.order ≤ 0) := by
      by_cases h1 : n.sign = 2
      · exact .inr ⟨h1, by have : ¬ 0 < n.order := fun h => hso ⟨h1, h⟩; omega⟩
      · exact .inl h1
    clear hso hb1
    by_cases hlt : max 0 p < t
    · have HE := Lib.hid (show tightV n p t (bad, ov) = (1000000, t - max 0 p) by unfold tightV; rw [if_neg HSO.out, if_pos hlt])
      have hmx : 0 ≤ max 0 p := by omega
      clear hg
      rcases h12 with h1 | ⟨h1, h2⟩
      all_goals
        go_enter Tryz.func83, Tryz.ntmps83
        go_wp2_with fail
        go_returns
        exact ⟨rfl, by rw [HE.out]; exact (HG.out.bad _).ov _, grown_trans (grown_set _ _ _ _) (grown_set _ _ _ _)⟩
    · have HE := Lib.hid (show tightV n p t (bad, ov) = (Sc.bdV (held t) (held p), ov) by unfold tightV; rw [if_neg HSO.out, if_neg hlt])
      have hmx : 0 ≤ max 0 p := by omega
      clear hg
      rcases h12 with h1 | ⟨h1, h2⟩
      all_goals
        go_enter Tryz.func83, Tryz.ntmps83
        go_wp2_with (first | (go_at_call 152; refine (badness_any _ _ _ ht hmx).mono ?_; rintro e w2 ⟨rfl, hb2⟩; have HB2 := Lib.hid hb2; have hm2 := HG.out.below hb2; have hf2 := Blk.free hm2 29; have hd2 : w2.cell? ⟨g, 29, none⟩ = some (.int .i64 bad) := Blk.cell hm2 29; have HM2 := Lib.hid hm2; clear hm2 hb2))
        go_end0
        exact ⟨rfl, by rw [HE.out, ← HP.out]; exact HM2.out.bad _, grown_trans (grown_blk (g := g) HB2.out) (grown_set _ _ _ _)⟩
end Go.Proofs.YtoboecenlangmaaGreat.Pk
end
section
namespace Go.Proofs.YtoboecenlangmaaGreat.Gl
open Go.ChangeShapes Go.WideShapes Go.ChangeAt Go.RowKit
open Me
set_option linter.unusedVariables false
set_option linter.unusedSimpArgs false

theorem fit_all (n a b c d p q r s ex : Int) (w : World) (e0 : nearB ex = true) (e1 : nearB a = true) (e2 : nearB p = true) (e3 : nearB b = true) (e4 : nearB q = true) (e5 : nearB c = true) (e6 : nearB r = true) (e7 : nearB d = true) (e8 : nearB s = true) : Calls Tryz.prog 81 #[.agg #[.int .i64 n, .int .i64 a, .int .i64 b, .int .i64 c, .int .i64 d, .int .i64 p, .int .i64 q, .int .i64 r, .int .i64 s], .int .i64 ex] w fun e w' => e = .returned (.tuple #[.int .i64 (fit a b c d p q r s ex).1, .int .i64 (fit a b c d p q r s ex).2.1, .int .i64 (fit a b c d p q r s ex).2.2.1, .int .i64 (fit a b c d p q r s ex).2.2.2, .int .i64 0]) ∧ Below w.heap.size w w' := by
  have hx0 : -70368744177664 ≤ ex := by simp [nearB] at e0; omega
  rcases Int.lt_trichotomy 0 ex with hx | hx | hx
  · rcases great_cases a b c d with ⟨hg, h⟩ | ⟨hg, h⟩ | ⟨hg, h⟩ | ⟨hg, h⟩ | ⟨hg, h⟩
    · exact fit_upm n a b c d p q r s ex w e0 e1 e2 e3 e4 e5 e6 e7 e8 hx0 hx hg
    · exact fit_up0 n a b c d p q r s ex w e0 e1 e2 e3 e4 e5 e6 e7 e8 hx0 hx hg
    · exact fit_up1 n a b c d p q r s ex w e0 e1 e2 e3 e4 e5 e6 e7 e8 hx0 hx hg
    · exact fit_up2 n a b c d p q r s ex w e0 e1 e2 e3 e4 e5 e6 e7 e8 hx0 hx hg
    · exact fit_up3 n a b c d p q r s ex w e0 e1 e2 e3 e4 e5 e6 e7 e8 hx0 hx hg
  · subst hx
    refine (fit_zero n a b c d p q r s w e0 e1 e2 e3 e4 e5 e6 e7 e8).mono ?_
    rintro e w' ⟨rfl, hb⟩
    exact ⟨rfl, hb⟩
  · rcases great_cases p q r s with ⟨hg, h⟩ | ⟨hg, h⟩ | ⟨hg, h⟩ | ⟨hg, h⟩ | ⟨hg, h⟩
    · exact fit_downm n a b c d p q r s ex w e0 e1 e2 e3 e4 e5 e6 e7 e8 hx0 hx hg
    · exact fit_down0 n a b c d p q r s ex w e0 e1 e2 e3 e4 e5 e6 e7 e8 hx0 hx hg
    · exact fit_down1 n a b c d p q r s ex w e0 e1 e2 e3 e4 e5 e6 e7 e8 hx0 hx hg
    · exact fit_down2 n a b c d p q r s ex w e0 e1 e2 e3 e4 e5 e6 e7 e8 hx0 hx hg
    · exact fit_down3 n a b c d p q r s ex w e0 e1 e2 e3 e4 e5 e6 e7 e8 hx0 hx hg
end Go.Proofs.YtoboecenlangmaaGreat.Gl
end
section
namespace Go.Proofs.YtoboecenlangmaaGreat.Pk
open Go.ChangeShapes Go.WideShapes Go.ChangeAt Go.RowKit
open Me Np No
set_option linter.unusedVariables false
set_option linter.unusedSimpArgs false

theorem mkc_node (n : Nd) (x a b c d p q r s : Int) (em : Bool) (bad ov wr : Int) (j : Nat) (u : Value) (h : (nc n).toList[j]? = some u) : (mkc n x a b c d p q r s em bad ov wr)[j]? = some u := by
  match j, h with
  | 0, h => exact h
  | 1, h => exact h
  | 2, h => exact h
  | 3, h => exact h
  | 4, h => exact h
  | 5, h => exact h
  | 6, h => exact h
  | 7, h => exact h
  | 8, h => exact h
  | 9, h => exact h
  | 10, h => exact h
  | 11, h => exact h
  | 12, h => exact h
  | 13, h => exact h
  | 14, h => exact h
  | 15, h => exact h
  | 16, h => exact h
  | 17, h => exact h
  | 18, h => exact h
  | j + 19, h => rw [List.getElem?_eq_none (by rw [nc_list]; omega)] at h; cases h
theorem Mk.node {w : World} {g : Nat} {n : Nd} {x a b c d p q r s : Int} {em : Bool} {bad ov wr : Int} (h : Mk w g n x a b c d p q r s em bad ov wr) : NodeAt w g 0 n := fun j u hu => by
  rw [Nat.zero_add, Blk.cell h]
  exact mkc_node n x a b c d p q r s em bad ov wr j u hu
theorem Mk.fits {w : World} {g : Nat} {n : Nd} {x a b c d p q r s : Int} {em : Bool} {bad ov wr : Int} (h : Mk w g n x a b c d p q r s em bad ov wr) (sg od nu de : Int) :
    Mk ((((w.setCell ⟨g, 12, none⟩ (.int .i64 sg)).setCell ⟨g, 13, none⟩ (.int .i64 od)).setCell ⟨g, 14, none⟩ (.int .i64 nu)).setCell ⟨g, 15, none⟩ (.int .i64 de)) g { n with sign := sg, order := od, num := nu, den := de } x a b c d p q r s em bad ov wr :=
  Blk.set (Blk.set (Blk.set (Blk.set h 12 (.int .i64 sg)) 13 (.int .i64 od)) 14 (.int .i64 nu)) 15 (.int .i64 de)
/-- A node that is set. -/
def fitN (n : Nd) (f : Int × Int × Int × Int) : Nd := { n with sign := f.1, order := f.2.1, num := f.2.2.1, den := f.2.2.2 }
def setV (n : Nd) (a p : Int) (em : Bool) (ex : Int) (z : Int × Int) : Int × Int := if em = true ∨ ex = 0 then z else if 0 < ex then (looseV n a ex z.1, z.2) else tightV n p (-ex) z
set_option maxRecDepth 100000 in
set_option maxHeartbeats 2000000 in
theorem set_any (g : Nat) (n : Nd) (x a b c d p q r s : Int) (em : Bool) (bad ov ex : Int) (w : World) (hg : Mk w g n x a b c d p q r s em bad ov 0) (e0 : Gl.nearB ex = true) (e1 : Gl.nearB a = true) (e2 : Gl.nearB p = true) (e3 : Gl.nearB b = true) (e4 : Gl.nearB q = true) (e5 : Gl.nearB c = true) (e6 : Gl.nearB r = true) (e7 : Gl.nearB d = true) (e8 : Gl.nearB s = true) :
    Calls Tryz.prog 43 #[.pointer (some ⟨g, 0, none⟩), .int .i64 ex] w fun e w' => e = .returned (.tuple #[]) ∧
      Mk w' g (fitN n (Gl.fit a b c d p q r s ex)) x a b c d p q r s em (setV (fitN n (Gl.fit a b c d p q r s ex)) a p em ex (bad, ov)).1 (setV (fitN n (Gl.fit a b c d p q r s ex)) a p em ex (bad, ov)).2 0 ∧ w.grownBy w' (some g) := by
  have HF := Lib.hid (fun w => Gl.fit_all x a b c d p q r s ex w e0 e1 e2 e3 e4 e5 e6 e7 e8)
  have hex : -70368744177664 ≤ ex ∧ ex ≤ 70368744177664 := by simp [Gl.nearB] at e0; omega
  have HEX := Lib.hid hex
  generalize Gl.fit a b c d p q r s ex = F at HF ⊢
  obtain ⟨sg, od, nu, de⟩ := F
  simp only at HF
  clear e0 e1 e2 e3 e4 e5 e6 e7 e8
  have HG := Lib.hid hg
  have hc19 : w.cell? ⟨g, 19, none⟩ = some (.int .i64 x) := Blk.cell hg 19
  have hc20 : w.cell? ⟨g, 20, none⟩ = some (.int .i64 a) := Blk.cell hg 20
  have hc21 : w.cell? ⟨g, 21, none⟩ = some (.int .i64 b) := Blk.cell hg 21
  have hc22 : w.cell? ⟨g, 22, none⟩ = some (.int .i64 c) := Blk.cell hg 22
  have hc23 : w.cell? ⟨g, 23, none⟩ = some (.int .i64 d) := Blk.cell hg 23
  have hc24 : w.cell? ⟨g, 24, none⟩ = some (.int .i64 p) := Blk.cell hg 24
  have hc25 : w.cell? ⟨g, 25, none⟩ = some (.int .i64 q) := Blk.cell hg 25
  have hc26 : w.cell? ⟨g, 26, none⟩ = some (.int .i64 r) := Blk.cell hg 26
  have hc27 : w.cell? ⟨g, 27, none⟩ = some (.int .i64 s) := Blk.cell hg 27
  clear hg
  cases em with
  | true =>
    have HV := Lib.hid (show setV (fitN n (sg, od, nu, de)) a p true ex (bad, ov) = (bad, ov) from if_pos (.inl rfl))
    go_enter Tryz.func43, Tryz.ntmps43
    go_wp2_with (first | (go_at_call 81; go_loud (refine (HF.out _).mono ?_; rintro e w2 ⟨rfl, hb2⟩; have HB2 := Lib.hid hb2; have hm2 := HG.out.below hb2; have hd12 : w2.cell? ⟨g, 12, none⟩ = some (.int .i64 n.sign) := Blk.cell hm2 12; have hf12 := Blk.free hm2 12; have hd13 : w2.cell? ⟨g, 13, none⟩ = some (.int .i64 n.order) := Blk.cell hm2 13; have hf13 := Blk.free hm2 13; have hd14 : w2.cell? ⟨g, 14, none⟩ = some (.int .i64 n.num) := Blk.cell hm2 14; have hf14 := Blk.free hm2 14; have hd15 : w2.cell? ⟨g, 15, none⟩ = some (.int .i64 n.den) := Blk.cell hm2 15; have hf15 := Blk.free hm2 15; have hd28 : w2.cell? ⟨g, 28, none⟩ = some (.bool true) := Blk.cell hm2 28; have HM2 := Lib.hid hm2; clear hm2 hb2)))
    first | go_end0 | go_returns
    exact ⟨rfl, by rw [HV.out]; exact HM2.out.fits sg od nu de, grown_trans (grown_blk (g := g) HB2.out) (grown_trans (grown_trans (grown_trans (grown_set _ _ _ _) (grown_set _ _ _ _)) (grown_set _ _ _ _)) (grown_set _ _ _ _))⟩
  | false =>
    rcases Int.lt_trichotomy 0 ex with hx | hx | hx
    · have HV := Lib.hid (show setV (fitN n (sg, od, nu, de)) a p false ex (bad, ov) = (looseV (fitN n (sg, od, nu, de)) a ex bad, ov) by unfold setV; rw [if_neg (by simp; omega), if_pos hx])
      have hx1 : ¬ ex = 0 := by omega
      have hx2 : 0 ≤ ex := by omega
      go_enter Tryz.func43, Tryz.ntmps43
      go_wp2_with (first | (go_at_call 81; go_loud (refine (HF.out _).mono ?_; rintro e w2 ⟨rfl, hb2⟩; have HB2 := Lib.hid hb2; have hm2 := HG.out.below hb2; have hd12 : w2.cell? ⟨g, 12, none⟩ = some (.int .i64 n.sign) := Blk.cell hm2 12; have hf12 := Blk.free hm2 12; have hd13 : w2.cell? ⟨g, 13, none⟩ = some (.int .i64 n.order) := Blk.cell hm2 13; have hf13 := Blk.free hm2 13; have hd14 : w2.cell? ⟨g, 14, none⟩ = some (.int .i64 n.num) := Blk.cell hm2 14; have hf14 := Blk.free hm2 14; have hd15 : w2.cell? ⟨g, 15, none⟩ = some (.int .i64 n.den) := Blk.cell hm2 15; have hf15 := Blk.free hm2 15; have hd28 : w2.cell? ⟨g, 28, none⟩ = some (.bool false) := Blk.cell hm2 28; have HM2 := Lib.hid hm2; clear hm2 hb2)) | (go_at_call 82; go_loud (refine (loose_any g _ x a b c d p q r s false bad ov 0 ex _ (HM2.out.fits sg od nu de) hx2).mono ?_; rintro e w3 ⟨rfl, hm3, hg3⟩; have HM3 := Lib.hid hm3; have HG3 := Lib.hid hg3; clear hm3 hg3)))
      first | go_end0 | go_returns
      exact ⟨rfl, by rw [HV.out]; exact HM3.out, grown_trans (grown_blk (g := g) HB2.out) (grown_trans (grown_trans (grown_trans (grown_trans (grown_set _ _ _ _) (grown_set _ _ _ _)) (grown_set _ _ _ _)) (grown_set _ _ _ _)) HG3.out)⟩
    · subst hx
      have HV := Lib.hid (show setV (fitN n (sg, od, nu, de)) a p false 0 (bad, ov) = (bad, ov) from if_pos (.inr rfl))
      go_enter Tryz.func43, Tryz.ntmps43
      go_wp2_with (first | (go_at_call 81; go_loud (refine (HF.out _).mono ?_; rintro e w2 ⟨rfl, hb2⟩; have HB2 := Lib.hid hb2; have hm2 := HG.out.below hb2; have hd12 : w2.cell? ⟨g, 12, none⟩ = some (.int .i64 n.sign) := Blk.cell hm2 12; have hf12 := Blk.free hm2 12; have hd13 : w2.cell? ⟨g, 13, none⟩ = some (.int .i64 n.order) := Blk.cell hm2 13; have hf13 := Blk.free hm2 13; have hd14 : w2.cell? ⟨g, 14, none⟩ = some (.int .i64 n.num) := Blk.cell hm2 14; have hf14 := Blk.free hm2 14; have hd15 : w2.cell? ⟨g, 15, none⟩ = some (.int .i64 n.den) := Blk.cell hm2 15; have hf15 := Blk.free hm2 15; have hd28 : w2.cell? ⟨g, 28, none⟩ = some (.bool false) := Blk.cell hm2 28; have HM2 := Lib.hid hm2; clear hm2 hb2)))
      first | go_end0 | go_returns
      exact ⟨rfl, by rw [HV.out]; exact HM2.out.fits sg od nu de, grown_trans (grown_blk (g := g) HB2.out) (grown_trans (grown_trans (grown_trans (grown_set _ _ _ _) (grown_set _ _ _ _)) (grown_set _ _ _ _)) (grown_set _ _ _ _))⟩
    · have HV := Lib.hid (show setV (fitN n (sg, od, nu, de)) a p false ex (bad, ov) = tightV (fitN n (sg, od, nu, de)) p (-ex) (bad, ov) by unfold setV; rw [if_neg (by simp; omega), if_neg (by omega)])
      have hx1 : ¬ ex = 0 := by omega
      have hx2 : 0 ≤ -ex := by omega
      have hx3 : ¬ 0 < ex := by omega
      go_enter Tryz.func43, Tryz.ntmps43
      go_wp2_with (first | (go_at_call 81; go_loud (refine (HF.out _).mono ?_; rintro e w2 ⟨rfl, hb2⟩; have HB2 := Lib.hid hb2; have hm2 := HG.out.below hb2; have hd12 : w2.cell? ⟨g, 12, none⟩ = some (.int .i64 n.sign) := Blk.cell hm2 12; have hf12 := Blk.free hm2 12; have hd13 : w2.cell? ⟨g, 13, none⟩ = some (.int .i64 n.order) := Blk.cell hm2 13; have hf13 := Blk.free hm2 13; have hd14 : w2.cell? ⟨g, 14, none⟩ = some (.int .i64 n.num) := Blk.cell hm2 14; have hf14 := Blk.free hm2 14; have hd15 : w2.cell? ⟨g, 15, none⟩ = some (.int .i64 n.den) := Blk.cell hm2 15; have hf15 := Blk.free hm2 15; have hd28 : w2.cell? ⟨g, 28, none⟩ = some (.bool false) := Blk.cell hm2 28; have HM2 := Lib.hid hm2; clear hm2 hb2)) | (go_at_call 83; go_loud (refine (tight_any g _ x a b c d p q r s false bad ov 0 (-ex) _ (HM2.out.fits sg od nu de) hx2 (by omega)).mono ?_; rintro e w3 ⟨rfl, hm3, hg3⟩; have HM3 := Lib.hid hm3; have HG3 := Lib.hid hg3; clear hm3 hg3)))
      first | go_end0 | go_returns
      exact ⟨rfl, by rw [HV.out]; exact HM3.out, grown_trans (grown_blk (g := g) HB2.out) (grown_trans (grown_trans (grown_trans (grown_trans (grown_set _ _ _ _) (grown_set _ _ _ _)) (grown_set _ _ _ _)) (grown_set _ _ _ _)) HG3.out)⟩
end Go.Proofs.YtoboecenlangmaaGreat.Pk
end
section
namespace Go.Proofs.YtoboecenlangmaaGreat.No
open Go.ChangeShapes Go.WideShapes Go.ChangeAt Go.RowKit
open Me Np
set_option linter.unusedVariables false
set_option linter.unusedSimpArgs false

set_option maxHeartbeats 1000000 in
set_option maxRecDepth 100000 in
theorem totals_bad (A : Option Addr) (ns : List Nd) (c : Nat) (down : Bool) (w : World) (hl : ns.length ≤ 9223372036854775806) (hseg : Seg w w.heap.size A (ns.flatMap ncs)) (hc : ¬ chk ns = 0) :
    Calls Tryz.prog 44 #[.slice A ns.length c, .bool down] w fun e w' => e = .returned (.tuple #[.agg (tc tz), .int .i64 (chk ns)]) ∧ Below w.heap.size w w' := by
  have HC := Lib.hid fun w1 (h : Below w.heap.size w w1) => check_any A ns c w1 (by omega) (Seg.belowW hseg h)
  have e0 : (chk ns != 0) = true := by simp [hc]
  clear hseg hc
  generalize chk ns = v at *
  generalize ns.length = len at *
  go_enter Tryz.func44, Tryz.ntmps44
  go_wp2_with fail
  refine (HC.out _ (andAlloc (Below.refl _ _) _)).mono ?_
  rintro e w1 ⟨rfl, hb1⟩
  have hr1 : Blk w1 w.heap.size 109 (tc tz) := Blk.below (Blk.new' rfl) hb1 (by simp)
  have HL1 := Lib.hid (andThen (andAlloc (Below.refl _ _) _) hb1 : Below w.heap.size w w1)
  clear hb1
  go_wp2_with (first | (refine wpList_store_row (o := ⟨none, .store _ (.tmp 4) _, _, _, _, _⟩) rfl 109 _ _ rfl w.heap.size (tc tz) rfl rfl 109 (tc tz) hr1 tot_info rfl (tc_one _) ?_))
  exact bodyPost_ret (v := .tuple #[.agg (tc tz), .int .i64 v]) (results_cell_tmp rfl _ _ w.heap.size 109 (tc tz) (0, 0) _ _ rfl rfl (Blk.row hr1 _) Tryz.underlying109 rfl tot_info) rfl ⟨rfl, below_setRow HL1.out _ _ (Nat.le_refl _)⟩
end Go.Proofs.YtoboecenlangmaaGreat.No
end
section
namespace Go.Proofs.YtoboecenlangmaaGreat.No
open Go.ChangeShapes Go.WideShapes Go.ChangeAt Go.RowKit
open Me Np
set_option linter.unusedVariables false
set_option linter.unusedSimpArgs false
attribute [local go_sem ↓] ldN_eq
theorem box_shift {n : Nd} (h : right n = true) (h4 : n.kind = 4 ∨ n.kind = 5) : -1073741823 ≤ n.shift ∧ n.shift ≤ 1073741823 := by
  have hs : dimB n.shift = true := by
    rcases h4 with h4 | h4
    · have := right_kind (k := 4) h h4
      simp only [goodK, gBox, Bool.and_eq_true] at this
      exact this.1.2.2.2
    · have := right_kind (k := 5) h h4
      simp only [goodK, gBox, Bool.and_eq_true] at this
      exact this.1.2.2.2
  exact dm_of hs
set_option maxHeartbeats 4000000 in
set_option maxRecDepth 100000 in
theorem row_of (A : Option Addr) (ns : List Nd) (c : Nat) (xs : List Nat) (ra : Nat → Int × Int) (w : World) (hl : ns.length ≤ 2000) (hseg : Seg w w.heap.size A (ns.flatMap ncs)) (hx : Its xs ns 0) (hr : ∀ x ∈ ns, right x = true)
    (hrv : ∀ k ∈ xs, RV (ra k)) (hone : ∀ k ∈ xs, ∀ n, ns[k]? = some n → ¬ n.kind = 10 → ra k = rowP n)
    (hdisc : ∀ k ∈ xs, ∀ n, ns[k]? = some n → n.kind = 10 → ∀ w1, Below w.heap.size w w1 → Calls Tryz.prog 155 #[.slice A ns.length c, .int .i64 (k : Int)] w1 fun e w' => ∃ vs A2 c2 l2, e = .returned (.agg (tc3 vs)) ∧ vs 2 = .slice A2 l2 c2 ∧ Below w1.heap.size w1 w' ∧
      Calls Tryz.prog 86 #[.slice A2 l2 c2] w' fun e w2 => e = .returned (.tuple #[.int .i64 (ra k).1, .int .i64 (ra k).2]) ∧ Below w'.heap.size w' w2) :
    Calls Tryz.prog 86 #[.slice A ns.length c] w fun e w' => e = .returned (.tuple #[.int .i64 (rfold ra xs (0, 0)).1, .int .i64 (rfold ra xs (0, 0)).2]) ∧ Below w.heap.size w w' := by
  have HDI := Lib.hid hdisc
  have HON := Lib.hid hone
  have HRV := Lib.hid hrv
  have HRT := Lib.hid hr
  have HSEG := Lib.hid hseg
  have HITS := Lib.hid (items_any A ns c xs w hl hseg hx)
  have hxl := Its.len hx
  have HLT := Lib.hid (Its.lt hx)
  clear hdisc hone hrv hr hseg hx
  have HL := Lib.hid (rfl : ns.length = ns.length)
  generalize hlen : ns.length = len at hl HDI HITS HL hxl HLT ⊢
  clear HL
  have HL := Lib.hid hlen
  clear hlen
  go_enter Tryz.func86, Tryz.ntmps86
  go_wp2_with fail
  refine HITS.out.mono ?_
  rintro e w1 ⟨v, rfl, ho, hb1⟩
  obtain ⟨A', c', rfl⟩ := made_len ho
  have HO := Lib.hid ho
  have HB1 := Lib.hid hb1
  clear ho hb1
  go_wp2_with fail
  go_loopw [2, 3, 12] (fun h d i wr => ∃ (k : Nat) (s : Int × Int), k ≤ xs.length ∧ i = .int .i64 k ∧ h = .int .i64 s.1 ∧ d = .int .i64 s.2 ∧ RB s ∧ rfold ra (xs.drop k) s = rfold ra xs (0, 0) ∧ Below w1.heap.size w1 wr) (fun _ _ i _ => xs.length - (intOf i).toNat)
  case atStart => exact ⟨0, (0, 0), by omega, rfl, rfl, rfl, by unfold RB; simp only; omega, rfl, Below.refl _ _⟩
  case round =>
    obtain ⟨k, s, hk, rfl, rfl, rfl, hrb, hfo, hlow⟩ := hrel
    have HRB := Lib.hid hrb
    by_cases hlt : k < xs.length
    · obtain ⟨x, hx, hxd⟩ : ∃ x, xs[k]? = some x ∧ xs.drop k = x :: xs.drop (k + 1) := ⟨xs[k], List.getElem?_eq_getElem hlt, List.drop_eq_getElem_cons hlt⟩
      have hxm : x ∈ xs := List.mem_of_getElem? hx
      have hxl2 := (HLT.out x hxm).2
      obtain ⟨n, hn, hnd⟩ := get_drop (l := ns) (k := x) (by rw [HL.out]; omega)
      have HRN := Lib.hid (HRT.out n (List.mem_of_getElem? hn))
      have HNN := Lib.hid hn
      obtain ⟨b, off, rfl, hb, hnode⟩ := seg_node HSEG.out hn
      have HLW := Lib.hid (andThen HB1.out hlow)
      have hnr : NodeAt wr b (off + x * 19) n := hnode.below HLW.out hb
      have hld0 : (ldN ⟨b, off + x * 19, none⟩).run Tryz.prog wr = .ok (.agg (nc n)) wr := run_ldN hnr
      rw [hxd] at hfo
      have HFO := Lib.hid (show rfold ra (xs.drop (k + 1)) (rstep s (ra x)) = rfold ra xs (0, 0) from hfo)
      obtain ⟨g, rfl, hg⟩ : ∃ g, A' = some ⟨g, 0, none⟩ ∧ g < w1.heap.size := by
        rcases id HO.out.2 with ⟨_, h5⟩ | ⟨g, _, _, h5, _, h6, _⟩
        · omega
        · simp at h5
          exact ⟨g, h5.1, (Array.getElem?_eq_some_iff.1 h6).1⟩
      have hxc : wr.cell? ⟨g, k, none⟩ = some (.int .i64 x) := by
        rw [hlow.cell (p := ⟨g, k, none⟩) hg, World.ownsRow.cellAt HO.out k (by omega), List.getElem?_map, hx]
        rfl
      clear hn hnd hx hnode hxd hfo hnr hrb
      by_cases h10 : n.kind = 10
      · have e1 : (n.kind == 1) = false := by simp [h10]
        have e2 : (n.kind == 2) = false := by simp [h10]
        have e3 : (n.kind == 3) = false := by simp [h10]
        have e4 : (n.kind == 4) = false := by simp [h10]
        have e5 : (n.kind == 5) = false := by simp [h10]
        have e10 : (n.kind == 10) = true := by simp [h10]
        have HD3 := Lib.hid (HDI.out x hxm n HNN.out h10 (wr.alloc (.cells (nc n) 101)) (andAlloc HLW.out _))
        have hlw2 := andAlloc hlow (.cells (nc n) 101)
        clear h10
        go_wp2_with (first | (with_reducible show wpList _ _ _ _ _ _; refine wpList_alloc_node rfl rfl ?_) | (with_reducible show wpList _ _ _ _ _ _; refine wpList_store_node rfl _ _ rfl _ _ _ rfl rfl _ (by repeat (first | (apply Blk.new'; first | rfl | (simp; done)) | assumption | apply Blk.alloc)) ?_))
        refine HD3.out.mono ?_
        rintro e w4 ⟨vs, A2, c2, l2, rfl, hv2, hb4, hsum⟩
        have HSU := Lib.hid hsum
        have hlw4 := andThen hlw2 hb4
        have hix : ∀ w, (Instr.index 221 (.agg (tc3 vs)) (.int .i64 2)).run Tryz.prog w = .ok (vs 2) w := fun w => idx2 _ _ _ w
        rw [hv2] at hix
        clear hsum hv2 hb4 HD3 hlw2
        generalize tc3 vs = cs3 at hix ⊢
        go_wp2_with fail
        refine HSU.out.mono ?_
        rintro e w5 ⟨rfl, hb5⟩
        have hlw5 := andThen hlw4 hb5
        clear hb5 hlw4 HSU hix
        go_wp2_with fail
        go_roundw
        case rel => exact ⟨k + 1, rstep s (ra x), by omega, by go_num, rfl, rfl, HRB.out.step (HRV.out x hxm), HFO.out, by repeat (first | exact hlw5 | refine below_drewN ?_ _ | refine andAlloc ?_ _)⟩
        case measure => simp [intOf]; omega
      · by_cases hk5 : n.kind = 1 ∨ n.kind = 2 ∨ n.kind = 3 ∨ n.kind = 4 ∨ n.kind = 5
        · rcases hk5 with hk | hk | hk | hk | hk
          · have e1 : (n.kind == 1) = true := by simp [hk]
            have hra := HON.out x hxm n HNN.out (by omega)
            rw [show rowP n = (n.ht, n.dp) by unfold rowP; rw [if_pos (by omega)]] at hra
            have HRA := Lib.hid hra
            clear hra hk
            go_wp2_with (first | (with_reducible show wpList _ _ _ _ _ _; refine wpList_alloc_node rfl rfl ?_) | (with_reducible show wpList _ _ _ _ _ _; refine wpList_store_node rfl _ _ rfl _ _ _ rfl rfl _ (by repeat (first | (apply Blk.new'; first | rfl | (simp; done)) | assumption | apply Blk.alloc)) ?_))
            go_quiet (fail)
            go_wp2_with fail
            go_roundw
            case rel => exact ⟨k + 1, rstep s (n.ht, n.dp), by omega, by go_num, rfl, rfl, by rw [← HRA.out]; exact HRB.out.step (HRV.out x hxm), by rw [← HRA.out]; exact HFO.out, by repeat (first | exact hlow | refine below_drewN ?_ _ | refine andAlloc ?_ _)⟩
            case measure => simp [intOf]; omega
          · have e1 : (n.kind == 1) = false := by simp [hk]
            have e2 : (n.kind == 2) = true := by simp [hk]
            have hra := HON.out x hxm n HNN.out (by omega)
            rw [show rowP n = (n.ht, n.dp) by unfold rowP; rw [if_pos (by omega)]] at hra
            have HRA := Lib.hid hra
            clear hra hk
            go_wp2_with (first | (with_reducible show wpList _ _ _ _ _ _; refine wpList_alloc_node rfl rfl ?_) | (with_reducible show wpList _ _ _ _ _ _; refine wpList_store_node rfl _ _ rfl _ _ _ rfl rfl _ (by repeat (first | (apply Blk.new'; first | rfl | (simp; done)) | assumption | apply Blk.alloc)) ?_))
            go_quiet (fail)
            go_wp2_with fail
            go_roundw
            case rel => exact ⟨k + 1, rstep s (n.ht, n.dp), by omega, by go_num, rfl, rfl, by rw [← HRA.out]; exact HRB.out.step (HRV.out x hxm), by rw [← HRA.out]; exact HFO.out, by repeat (first | exact hlow | refine below_drewN ?_ _ | refine andAlloc ?_ _)⟩
            case measure => simp [intOf]; omega
          · have e1 : (n.kind == 1) = false := by simp [hk]
            have e2 : (n.kind == 2) = false := by simp [hk]
            have e3 : (n.kind == 3) = true := by simp [hk]
            have hra := HON.out x hxm n HNN.out (by omega)
            rw [show rowP n = (n.ht, n.dp) by unfold rowP; rw [if_pos (by omega)]] at hra
            have HRA := Lib.hid hra
            clear hra hk
            go_wp2_with (first | (with_reducible show wpList _ _ _ _ _ _; refine wpList_alloc_node rfl rfl ?_) | (with_reducible show wpList _ _ _ _ _ _; refine wpList_store_node rfl _ _ rfl _ _ _ rfl rfl _ (by repeat (first | (apply Blk.new'; first | rfl | (simp; done)) | assumption | apply Blk.alloc)) ?_))
            go_quiet (fail)
            go_wp2_with fail
            go_roundw
            case rel => exact ⟨k + 1, rstep s (n.ht, n.dp), by omega, by go_num, rfl, rfl, by rw [← HRA.out]; exact HRB.out.step (HRV.out x hxm), by rw [← HRA.out]; exact HFO.out, by repeat (first | exact hlow | refine below_drewN ?_ _ | refine andAlloc ?_ _)⟩
            case measure => simp [intOf]; omega
          · have e1 : (n.kind == 1) = false := by simp [hk]
            have e2 : (n.kind == 2) = false := by simp [hk]
            have e3 : (n.kind == 3) = false := by simp [hk]
            have e4 : (n.kind == 4) = true := by simp [hk]
            have hra := HON.out x hxm n HNN.out (by omega)
            rw [show rowP n = (n.ht - n.shift, n.dp + n.shift) by unfold rowP; rw [if_neg (by omega), if_pos (by omega)]] at hra
            have hd := right_hd HRN.out (by omega)
            unfold dm at hd
            have hsh := box_shift HRN.out (by omega)
            have hw1 : IntKind.i64.wrap (n.ht - n.shift) = n.ht - n.shift := IntWalk.i64_in _ (by omega)
            have hw2 : IntKind.i64.wrap (n.dp + n.shift) = n.dp + n.shift := IntWalk.i64_in _ (by omega)
            clear hd hsh
            have HRA := Lib.hid hra
            clear hra hk
            go_wp2_with (first | (with_reducible show wpList _ _ _ _ _ _; refine wpList_alloc_node rfl rfl ?_) | (with_reducible show wpList _ _ _ _ _ _; refine wpList_store_node rfl _ _ rfl _ _ _ rfl rfl _ (by repeat (first | (apply Blk.new'; first | rfl | (simp; done)) | assumption | apply Blk.alloc)) ?_))
            go_quiet (fail)
            go_wp2_with fail
            go_roundw
            case rel => exact ⟨k + 1, rstep s (n.ht - n.shift, n.dp + n.shift), by omega, by go_num, rfl, rfl, by rw [← HRA.out]; exact HRB.out.step (HRV.out x hxm), by rw [← HRA.out]; exact HFO.out, by repeat (first | exact hlow | refine below_drewN ?_ _ | refine andAlloc ?_ _)⟩
            case measure => simp [intOf]; omega
          · have e1 : (n.kind == 1) = false := by simp [hk]
            have e2 : (n.kind == 2) = false := by simp [hk]
            have e3 : (n.kind == 3) = false := by simp [hk]
            have e4 : (n.kind == 4) = false := by simp [hk]
            have e5 : (n.kind == 5) = true := by simp [hk]
            have hra := HON.out x hxm n HNN.out (by omega)
            rw [show rowP n = (n.ht - n.shift, n.dp + n.shift) by unfold rowP; rw [if_neg (by omega), if_pos (by omega)]] at hra
            have hd := right_hd HRN.out (by omega)
            unfold dm at hd
            have hsh := box_shift HRN.out (by omega)
            have hw1 : IntKind.i64.wrap (n.ht - n.shift) = n.ht - n.shift := IntWalk.i64_in _ (by omega)
            have hw2 : IntKind.i64.wrap (n.dp + n.shift) = n.dp + n.shift := IntWalk.i64_in _ (by omega)
            clear hd hsh
            have HRA := Lib.hid hra
            clear hra hk
            go_wp2_with (first | (with_reducible show wpList _ _ _ _ _ _; refine wpList_alloc_node rfl rfl ?_) | (with_reducible show wpList _ _ _ _ _ _; refine wpList_store_node rfl _ _ rfl _ _ _ rfl rfl _ (by repeat (first | (apply Blk.new'; first | rfl | (simp; done)) | assumption | apply Blk.alloc)) ?_))
            go_quiet (fail)
            go_wp2_with fail
            go_roundw
            case rel => exact ⟨k + 1, rstep s (n.ht - n.shift, n.dp + n.shift), by omega, by go_num, rfl, rfl, by rw [← HRA.out]; exact HRB.out.step (HRV.out x hxm), by rw [← HRA.out]; exact HFO.out, by repeat (first | exact hlow | refine below_drewN ?_ _ | refine andAlloc ?_ _)⟩
            case measure => simp [intOf]; omega
        · have e1 : (n.kind == 1) = false := by simp; omega
          have e2 : (n.kind == 2) = false := by simp; omega
          have e3 : (n.kind == 3) = false := by simp; omega
          have e4 : (n.kind == 4) = false := by simp; omega
          have e5 : (n.kind == 5) = false := by simp; omega
          have e10 : (n.kind == 10) = false := by simp; omega
          have hra := HON.out x hxm n HNN.out h10
          rw [show rowP n = (0, 0) by unfold rowP; rw [if_neg (by omega), if_neg (by omega)]] at hra
          have HRA := Lib.hid hra
          clear hra h10 hk5
          go_wp2_with (first | (with_reducible show wpList _ _ _ _ _ _; refine wpList_alloc_node rfl rfl ?_) | (with_reducible show wpList _ _ _ _ _ _; refine wpList_store_node rfl _ _ rfl _ _ _ rfl rfl _ (by repeat (first | (apply Blk.new'; first | rfl | (simp; done)) | assumption | apply Blk.alloc)) ?_))
          go_roundw
          case rel => exact ⟨k + 1, rstep s (0, 0), by omega, by go_num, rfl, rfl, by have hh := HRB.out.step (HRV.out x hxm); rw [HRA.out] at hh; exact hh, by have hf := HFO.out; rw [HRA.out] at hf; exact hf, by repeat (first | exact hlow | refine below_drewN ?_ _ | refine andAlloc ?_ _)⟩
          case measure => simp [intOf]; omega
    · obtain rfl : k = xs.length := by omega
      rw [List.drop_of_length_le (Nat.le_refl _)] at hfo
      have hfo : s = rfold ra xs (0, 0) := hfo
      subst hfo
      have HLW := Lib.hid (andThen HB1.out hlow)
      go_wp2_with fail
      go_ret2
      exact ⟨rfl, HLW.out⟩
end Go.Proofs.YtoboecenlangmaaGreat.No
end
section
namespace Go.Proofs.YtoboecenlangmaaGreat.No
open Go.ChangeShapes Go.WideShapes Go.ChangeAt Go.RowKit
open Me Np
set_option linter.unusedVariables false
set_option linter.unusedSimpArgs false
attribute [local go_sem ↓] ldN_eq
set_option maxHeartbeats 4000000 in
set_option maxRecDepth 100000 in
theorem column_of (A : Option Addr) (ns : List Nd) (c : Nat) (xs : List Nat) (w : World) (hl : ns.length ≤ 2000) (hseg : Seg w w.heap.size A (ns.flatMap ncs)) (hx : Its xs ns 0) (hr : ∀ x ∈ ns, right x = true) :
    Calls Tryz.prog 87 #[.slice A ns.length c] w fun e w' => e = .returned (.tuple #[.int .i64 (cfold ns xs (0, 0)).1, .int .i64 (cfold ns xs (0, 0)).2]) ∧ Below w.heap.size w w' := by
  have HRT := Lib.hid hr
  have HSEG := Lib.hid hseg
  have HITS := Lib.hid (items_any A ns c xs w hl hseg hx)
  have hxl := Its.len hx
  have HLT := Lib.hid (Its.lt hx)
  clear hr hseg hx
  have HL := Lib.hid (rfl : ns.length = ns.length)
  generalize hlen : ns.length = len at hl HITS HL hxl HLT ⊢
  clear HL
  have HL := Lib.hid hlen
  clear hlen
  go_enter Tryz.func87, Tryz.ntmps87
  go_wp2_with fail
  refine HITS.out.mono ?_
  rintro e w1 ⟨v, rfl, ho, hb1⟩
  obtain ⟨A', c', rfl⟩ := made_len ho
  have HO := Lib.hid ho
  have HB1 := Lib.hid hb1
  clear ho hb1
  go_wp2_with fail
  go_loopw [2, 3, 10] (fun h d i wr => ∃ (k : Nat) (s : Int × Int), k ≤ xs.length ∧ i = .int .i64 k ∧ h = .int .i64 s.1 ∧ d = .int .i64 s.2 ∧ cfold ns (xs.drop k) s = cfold ns xs (0, 0) ∧ Below w1.heap.size w1 wr) (fun _ _ i _ => xs.length - (intOf i).toNat)
  case atStart => exact ⟨0, (0, 0), by omega, rfl, rfl, rfl, rfl, Below.refl _ _⟩
  case round =>
    obtain ⟨k, s, hk, rfl, rfl, rfl, hfo, hlow⟩ := hrel
    by_cases hlt : k < xs.length
    · obtain ⟨x, hx, hxd⟩ : ∃ x, xs[k]? = some x ∧ xs.drop k = x :: xs.drop (k + 1) := ⟨xs[k], List.getElem?_eq_getElem hlt, List.drop_eq_getElem_cons hlt⟩
      have hxm : x ∈ xs := List.mem_of_getElem? hx
      have hxl2 := (HLT.out x hxm).2
      obtain ⟨n, hn, hnd⟩ := get_drop (l := ns) (k := x) (by rw [HL.out]; omega)
      have HRN := Lib.hid (HRT.out n (List.mem_of_getElem? hn))
      have HNN := Lib.hid hn
      obtain ⟨b, off, rfl, hb, hnode⟩ := seg_node HSEG.out hn
      have HLW := Lib.hid (andThen HB1.out hlow)
      have hnr : NodeAt wr b (off + x * 19) n := hnode.below HLW.out hb
      have hld0 : (ldN ⟨b, off + x * 19, none⟩).run Tryz.prog wr = .ok (.agg (nc n)) wr := run_ldN hnr
      rw [hxd] at hfo
      have HFO := Lib.hid (show cfold ns (xs.drop (k + 1)) (cstep s n) = cfold ns xs (0, 0) by simpa [cfold, hn] using hfo)
      obtain ⟨g, rfl, hg⟩ : ∃ g, A' = some ⟨g, 0, none⟩ ∧ g < w1.heap.size := by
        rcases id HO.out.2 with ⟨_, h5⟩ | ⟨g, _, _, h5, _, h6, _⟩
        · omega
        · simp at h5
          exact ⟨g, h5.1, (Array.getElem?_eq_some_iff.1 h6).1⟩
      have hxc : wr.cell? ⟨g, k, none⟩ = some (.int .i64 x) := by
        rw [hlow.cell (p := ⟨g, k, none⟩) hg, World.ownsRow.cellAt HO.out k (by omega), List.getElem?_map, hx]
        rfl
      have hgl : g < wr.heap.size := Nat.lt_of_lt_of_le hg hlow.size
      clear hn hnd hx hnode hxd hfo hnr
      by_cases hk5 : n.kind = 3 ∨ n.kind = 4 ∨ n.kind = 5
      · rcases hk5 with hk | hk | hk
        · have e3 : (n.kind == 3) = true := by simp [hk]
          have HST := Lib.hid (show cstep s n = (max s.1 n.wd, n.dp) by unfold cstep; rw [if_pos (by omega)])
          clear hk
          go_wp2_with (first | (with_reducible show wpList _ _ _ _ _ _; refine wpList_alloc_node rfl rfl ?_) | (with_reducible show wpList _ _ _ _ _ _; refine wpList_store_node rfl _ _ rfl _ _ _ rfl rfl _ (by repeat (first | (apply Blk.new'; first | rfl | (simp; done)) | assumption | apply Blk.alloc)) ?_))
          go_region
          all_goals go_wp2_with fail
          all_goals go_roundw
          all_goals first | (case measure => simp [intOf]; omega) | (case rel => exact ⟨k + 1, (max s.1 n.wd, n.dp), by omega, by go_num, rfl, rfl, by have hf := HFO.out; rw [HST.out] at hf; exact hf, by repeat (first | exact hlow | refine below_drewN ?_ _ | refine andAlloc ?_ _)⟩)
        · have e3 : (n.kind == 3) = false := by simp [hk]
          have e4 : (n.kind == 4) = true := by simp [hk]
          have HST := Lib.hid (show cstep s n = (max s.1 (n.wd + n.shift), n.dp) by unfold cstep; rw [if_neg (by omega), if_pos (by omega)])
          have hd := right_wd HRN.out (by omega)
          unfold dm at hd
          have hsh := box_shift HRN.out (by omega)
          have hw1 : IntKind.i64.wrap (n.wd + n.shift) = n.wd + n.shift := IntWalk.i64_in _ (by omega)
          clear hd hsh
          clear hk
          go_wp2_with (first | (with_reducible show wpList _ _ _ _ _ _; refine wpList_alloc_node rfl rfl ?_) | (with_reducible show wpList _ _ _ _ _ _; refine wpList_store_node rfl _ _ rfl _ _ _ rfl rfl _ (by repeat (first | (apply Blk.new'; first | rfl | (simp; done)) | assumption | apply Blk.alloc)) ?_))
          go_region
          all_goals go_wp2_with fail
          all_goals go_roundw
          all_goals first | (case measure => simp [intOf]; omega) | (case rel => exact ⟨k + 1, (max s.1 (n.wd + n.shift), n.dp), by omega, by go_num, rfl, rfl, by have hf := HFO.out; rw [HST.out] at hf; exact hf, by repeat (first | exact hlow | refine below_drewN ?_ _ | refine andAlloc ?_ _)⟩)
        · have e3 : (n.kind == 3) = false := by simp [hk]
          have e4 : (n.kind == 4) = false := by simp [hk]
          have e5 : (n.kind == 5) = true := by simp [hk]
          have HST := Lib.hid (show cstep s n = (max s.1 (n.wd + n.shift), n.dp) by unfold cstep; rw [if_neg (by omega), if_pos (by omega)])
          have hd := right_wd HRN.out (by omega)
          unfold dm at hd
          have hsh := box_shift HRN.out (by omega)
          have hw1 : IntKind.i64.wrap (n.wd + n.shift) = n.wd + n.shift := IntWalk.i64_in _ (by omega)
          clear hd hsh
          clear hk
          go_wp2_with (first | (with_reducible show wpList _ _ _ _ _ _; refine wpList_alloc_node rfl rfl ?_) | (with_reducible show wpList _ _ _ _ _ _; refine wpList_store_node rfl _ _ rfl _ _ _ rfl rfl _ (by repeat (first | (apply Blk.new'; first | rfl | (simp; done)) | assumption | apply Blk.alloc)) ?_))
          go_region
          all_goals go_wp2_with fail
          all_goals go_roundw
          all_goals first | (case measure => simp [intOf]; omega) | (case rel => exact ⟨k + 1, (max s.1 (n.wd + n.shift), n.dp), by omega, by go_num, rfl, rfl, by have hf := HFO.out; rw [HST.out] at hf; exact hf, by repeat (first | exact hlow | refine below_drewN ?_ _ | refine andAlloc ?_ _)⟩)
      · have e3 : (n.kind == 3) = false := by simp; omega
        have e4 : (n.kind == 4) = false := by simp; omega
        have e5 : (n.kind == 5) = false := by simp; omega
        have HST := Lib.hid (show cstep s n = (s.1, 0) by unfold cstep; rw [if_neg (by omega), if_neg (by omega)])
        clear hk5
        go_wp2_with (first | (with_reducible show wpList _ _ _ _ _ _; refine wpList_alloc_node rfl rfl ?_) | (with_reducible show wpList _ _ _ _ _ _; refine wpList_store_node rfl _ _ rfl _ _ _ rfl rfl _ (by repeat (first | (apply Blk.new'; first | rfl | (simp; done)) | assumption | apply Blk.alloc)) ?_))
        go_roundw
        case rel => exact ⟨k + 1, (s.1, 0), by omega, by go_num, rfl, rfl, by have hf := HFO.out; rw [HST.out] at hf; exact hf, by repeat (first | exact hlow | refine below_drewN ?_ _ | refine andAlloc ?_ _)⟩
        case measure => simp [intOf]; omega
    · obtain rfl : k = xs.length := by omega
      rw [List.drop_of_length_le (Nat.le_refl _)] at hfo
      have hfo : s = cfold ns xs (0, 0) := hfo
      subst hfo
      have HLW := Lib.hid (andThen HB1.out hlow)
      go_wp2_with fail
      go_ret2
      exact ⟨rfl, HLW.out⟩
end Go.Proofs.YtoboecenlangmaaGreat.No
end
section
namespace Go.Proofs.YtoboecenlangmaaGreat.No
open Go.ChangeShapes Go.WideShapes Go.ChangeAt Go.RowKit
open Me Np
set_option linter.unusedVariables false
set_option linter.unusedSimpArgs false

/-- A list's height and depth in a row. -/
noncomputable def rowD (ns : List Nd) (xs : List Nat) : Int × Int := rfold (roD ns) xs (0, 0)
/-- A list's extent. -/
noncomputable def extD (ns : List Nd) (down : Bool) (xs : List Nat) : Int × Int := if down = true then cfold ns xs (0, 0) else rowD ns xs
/-- What Extent answers. -/
def extV (P : Int × Int) : Value := .tuple #[.int .i64 (if (dimB P.1 && dimB P.2) = true then P.1 else 0), .int .i64 (if (dimB P.1 && dimB P.2) = true then P.2 else 0), .int .i64 (if (dimB P.1 && dimB P.2) = true then 0 else 20)]
theorem ext_yes {P : Int × Int} (h : (dimB P.1 && dimB P.2) = true) : Ending.returned (.tuple #[.int .i64 P.1, .int .i64 P.2, .int .i64 0]) = .returned (extV P) := by unfold extV; rw [if_pos h, if_pos h, if_pos h]
theorem ext_no {P : Int × Int} (h : (dimB P.1 && dimB P.2) = false) : Ending.returned (.tuple #[.int .i64 0, .int .i64 0, .int .i64 20]) = .returned (extV P) := by unfold extV; rw [if_neg (by rw [h]; decide), if_neg (by rw [h]; decide), if_neg (by rw [h]; decide)]
theorem row_any (A : Option Addr) (ns : List Nd) (c : Nat) (xs : List Nat) (w : World) (hc : chk ns = 0) (hcap : ns.length ≤ c) (hseg : Seg w w.heap.size A (ns.flatMap ncs)) (hx : Its xs ns 0) :
    Calls Tryz.prog 86 #[.slice A ns.length c] w fun e w' => e = .returned (.tuple #[.int .i64 (rowD ns xs).1, .int .i64 (rowD ns xs).2]) ∧ Below w.heap.size w w' := by
  have hl := (chk_run hc).1
  have hr := chk_right hc
  refine row_of A ns c xs (roD ns) w hl hseg hx hr (fun k _ => roD_rv hr k) ?_ ?_
  · intro k hk n hn h10
    exact roD_of ⟨n, hn, by rw [if_neg h10]⟩
  · intro k hk n hn h10 w1 hb1
    obtain ⟨m, hm⟩ := item_ends hc hn (by omega) (by omega)
    obtain ⟨hm2, ss, hss⟩ := disc_steps hc hn h10 hm
    obtain ⟨xs', hxs, hsm⟩ := thr_its 2 0 hss
    have hv : RoV ns k (rfold (ra0 (thr ss (ns.drop (k + 1)) 0 2)) xs' (0, 0)) := ⟨n, hn, by rw [if_pos h10]; exact ⟨ss, m - 2, xs', hss, hxs, rfl⟩⟩
    rw [roD_of hv]
    have hr3 : ∀ y ∈ thr ss (ns.drop (k + 1)) 0 2, right y = true := fun y hy => hr y (List.mem_of_mem_drop (thr_mem y hy))
    have hlen : (thr ss (ns.drop (k + 1)) 0 2).length ≤ 2000 := by
      have h1 := thr_len (j := 2) hss
      have h2 := hss.le
      rw [List.length_drop] at h2
      omega
    refine (three_any A ns c k m ss n w1 hc hcap (Seg.belowW hseg hb1) hn hm hss hm2).mono ?_
    rintro e w2 ⟨vs, rfl, ho, hb2⟩
    obtain ⟨A2, c2, h2, hc2, _, hs2⟩ := Seg.of_own (ho.own 2 (by omega))
    refine ⟨vs, A2, c2, _, rfl, h2, hb2, ?_⟩
    have hsm' : ∀ x ∈ xs', ∀ y, (thr ss (ns.drop (k + 1)) 0 2)[x]? = some y → smallB y = true := fun x hx' y hy => by
      obtain ⟨y', hy', hs⟩ := hsm x hx'
      rw [Nat.sub_zero, hy] at hy'
      injection hy' with e
      rw [e]
      exact hs
    refine row_of A2 (thr ss (ns.drop (k + 1)) 0 2) c2 xs' (ra0 (thr ss (ns.drop (k + 1)) 0 2)) w2 hlen hs2 hxs hr3 (fun x _ => ra0_rv hr3 x) (fun x hx' y hy _ => by simp [ra0, hy]) (fun x hx' y hy h => ?_)
    have := hsm' x hx' y hy
    simp [smallB, h] at this
set_option maxHeartbeats 1000000 in
set_option maxRecDepth 100000 in
theorem extent_bad (A : Option Addr) (ns : List Nd) (c : Nat) (down : Bool) (w : World) (hl : ns.length ≤ 9223372036854775806) (hseg : Seg w w.heap.size A (ns.flatMap ncs)) (hc : ¬ chk ns = 0) :
    Calls Tryz.prog 45 #[.slice A ns.length c, .bool down] w fun e w' => e = .returned (.tuple #[.int .i64 0, .int .i64 0, .int .i64 (chk ns)]) ∧ Below w.heap.size w w' := by
  have HC := Lib.hid (check_any A ns c w (by omega) hseg)
  have e0 : (chk ns != 0) = true := by simp [hc]
  clear hseg hc
  generalize chk ns = v at *
  generalize ns.length = len at *
  go_enter Tryz.func45, Tryz.ntmps45
  go_wp2_with fail
  refine HC.out.mono ?_
  rintro e w1 ⟨rfl, hb1⟩
  go_wp2_with fail
  go_ret3
  exact ⟨rfl, hb1⟩
set_option maxHeartbeats 1000000 in
set_option maxRecDepth 100000 in
theorem extent_good (A : Option Addr) (ns : List Nd) (c : Nat) (xs : List Nat) (down : Bool) (w : World) (hc : chk ns = 0) (hcap : ns.length ≤ c) (hseg : Seg w w.heap.size A (ns.flatMap ncs)) (hx : Its xs ns 0) :
    Calls Tryz.prog 45 #[.slice A ns.length c, .bool down] w fun e w' => e = .returned (extV (extD ns down xs)) ∧ Below w.heap.size w w' := by
  have hl := (chk_run hc).1
  have hr := chk_right hc
  have HC := Lib.hid (check_any A ns c w (by omega) hseg)
  have HR := Lib.hid fun w1 (h : Below w.heap.size w w1) => row_any A ns c xs w1 hc hcap (Seg.belowW hseg h) hx
  have HCO := Lib.hid fun w1 (h : Below w.heap.size w w1) => column_of A ns c xs w1 hl (Seg.belowW hseg h) hx hr
  rw [hc] at HC
  have HE0 := Lib.hid (show down = false → extD ns down xs = rowD ns xs from fun h => by rw [h]; rfl)
  have HE1 := Lib.hid (show down = true → extD ns down xs = cfold ns xs (0, 0) from fun h => by rw [h]; rfl)
  generalize extD ns down xs = E at *
  clear hseg hc hx hr hcap
  generalize hQ : cfold ns xs (0, 0) = Q at *
  generalize hP0 : rowD ns xs = P0 at *
  clear hQ hP0
  generalize ns.length = len at *
  go_enter Tryz.func45, Tryz.ntmps45
  go_wp2_with fail
  refine HC.out.mono ?_
  rintro e w1 ⟨rfl, hb1⟩
  go_wp2_with fail
  refine (HR.out _ hb1).mono ?_
  rintro e w2 ⟨rfl, hb2⟩
  have hb12 := andThen hb1 hb2
  cases down
  · have HLX := Lib.hid hb12
    clear hb1 hb2 hb12
    have hE := HE0.out (by first | rfl | trivial)
    clear HE0 HE1
    subst hE
    cases hD : dimB E.1 && dimB E.2
    all_goals
      have HD := Lib.hid hD
      clear hD
      go_wp2_with (go_at_call 85; refine (dimen2 _ E.1 E.2 _ (by simp [go_sem]) (by simp [go_sem])).mono ?_; rintro e w' ⟨rfl, rfl⟩; simp only [HD.out])
      go_ret3
      exact ⟨by first | exact ext_no HD.out | exact ext_yes HD.out, andAlloc HLX.out _⟩
  · go_wp2_with fail
    refine (HCO.out _ hb12).mono ?_
    rintro e w3 ⟨rfl, hb3⟩
    have HLX := Lib.hid (andThen hb12 hb3)
    clear hb1 hb2 hb12 hb3
    have hE := HE1.out (by first | rfl | trivial)
    clear HE0 HE1
    subst hE
    cases hD : dimB E.1 && dimB E.2
    all_goals
      have HD := Lib.hid hD
      clear hD
      go_wp2_with (go_at_call 85; refine (dimen2 _ E.1 E.2 _ (by simp [go_sem]) (by simp [go_sem])).mono ?_; rintro e w' ⟨rfl, rfl⟩; simp only [HD.out])
      go_ret3
      exact ⟨by first | exact ext_no HD.out | exact ext_yes HD.out, andAlloc HLX.out _⟩
end Go.Proofs.YtoboecenlangmaaGreat.No
end
section
namespace Go.Proofs.YtoboecenlangmaaGreat.No
open Go.ChangeShapes Go.WideShapes Go.ChangeAt Go.RowKit
open Me Np
set_option linter.unusedVariables false
set_option linter.unusedSimpArgs false

theorem run_append_seg {w : World} (ty : TypeId) (base : Nat) (hbase : base ≤ w.heap.size) (v : Value) (n : Nat) (xs : List Value) (hown : w.ownsRow base 101 19 v n xs) (B : Nat) (A : Option Addr) (c : Nat) (l : List Nd) (hs : Seg w B A (l.flatMap ncs)) (hA : A = none → c = 0) (hn : n + l.length ≤ 100000) :
    ∃ v' w', (Builtin.append_ #[39, 39] ty #[v, .slice A l.length c]).run Tryz.prog w = .ok v' w' ∧ w'.ownsRow base 101 19 v' (n + l.length) (xs ++ l.flatMap ncs) ∧ w.grownBy w' v.ownBlock := by
  obtain ⟨i, hi, hz, hsi, hbi⟩ := info_parts node_row
  have hl0 : l.flatMap ncs = [] → l = [] := fun h => by
    have := flat_length ncs_length l
    rw [h] at this
    simp only [List.length_nil] at this
    exact List.eq_nil_of_length_eq_zero (by omega)
  cases A with
  | none =>
    obtain rfl := hA rfl
    have hl : l = [] := by
      rcases hs with h | ⟨b, off, e, _⟩
      · exact hl0 h
      · cases e
    subst hl
    exact ⟨v, w, run_append_owned_none w base 39 ty 101 i 19 Tryz.underlying39 hi v n xs hown, by simpa using hown, rfl, rfl, rfl, Nat.le_refl _, fun k _ _ => rfl⟩
  | some ad =>
    have hc : ∀ j u, (l.flatMap ncs)[j]? = some u → w.cell? (ad.add j) = some u := by
      rcases hs with h | ⟨b, off, e, _, h⟩
      · intro j u hu
        rw [h] at hu
        simp at hu
      · injection e with e
        subst e
        intro j u hu
        have hadd : (⟨b, off, none⟩ : Addr).add j = ⟨b, off + j, none⟩ := by unfold Addr.add; split <;> simp_all
        rw [hadd]
        exact h j u hu
    obtain ⟨v', w', hr, h2, h3, _⟩ := run_append_own (P := Tryz.prog) w base 39 ty 101 i _ 19 160 Tryz.underlying39 hi hz hsi hbi rfl (by decide) v n xs hown ad l.length c (l.flatMap ncs) (flat_length ncs_length l) hc (ncs_one l) (by simp only [maxLen]; omega) (by omega) hbase
    exact ⟨v', w', hr, h2, h3⟩
theorem wpList_append_seg {ops : Array Oper} {rest : List Oper} {o : Oper} {a : Act} {w : World} {Q : Exit → Act → World → Prop} (hgd : o.guard = none) (s x : Operand) (ho : o.op = .call { callee := .builtin .append, args := #[s, x], argTypes := #[39, 39] })
    (base : Nat) (hbase : base ≤ w.heap.size) (v : Value) (n : Nat) (xs : List Value) (hs : a.eval s = v) (hown : w.ownsRow base 101 19 v n xs) (B : Nat) (A : Option Addr) (c len : Nat) (l : List Nd) (hx : a.eval x = .slice A len c) (hlen : len = l.length) (hseg : Seg w B A (l.flatMap ncs)) (hA : A = none → c = 0) (hn : n + l.length ≤ 100000)
    (h : ∀ v' w', w'.ownsRow base 101 19 v' (n + l.length) (xs ++ l.flatMap ncs) → w.grownBy w' v.ownBlock → wpList Tryz.prog ops Q rest (a.put o.dst v') w') : wpList Tryz.prog ops Q (o :: rest) a w :=
  wpList_plain hgd fun K hK => by
    subst hlen
    obtain ⟨v', w', hr, h2, h3⟩ := run_append_seg o.type base hbase v n xs hown B A c l hseg hA hn
    unfold Oper.wp execOp
    simp only [ho, resolve, invoke, builtin, Sem.run_bind, Sem.run_pure, Result.andThen_ok, List.map_toArray, List.map_cons, List.map_nil, hs, hx, hr]
    exact hK _ _ (h v' w' h2 h3)

end Go.Proofs.YtoboecenlangmaaGreat.No
end
section
namespace Go.Proofs.YtoboecenlangmaaGreat.No
open Go.ChangeShapes Go.WideShapes Go.ChangeAt Go.RowKit
open Me Np
set_option linter.unusedVariables false
set_option linter.unusedSimpArgs false

theorem own_one (w : World) (n : Nd) : (w.alloc (.cells (nc n) 101)).ownsRow w.heap.size 101 19 (.slice (some ⟨w.heap.size, 0, none⟩) 1 1) 1 (ncs n) :=
  ⟨by rw [ncs_length], .inr ⟨w.heap.size, 1, nc n, rfl, Nat.le_refl _, heap_alloc_new w _, Nat.le_refl _, by simp [maxLen], by simp [nc_size], List.take_of_length_le (by rw [nc_list]; omega)⟩⟩
attribute [local go_sem ↓] ldN_eq bldN_eq
set_option maxHeartbeats 2000000 in
set_option maxRecDepth 100000 in
theorem wrap_ok (n : Nd) (A : Option Addr) (l : List Nd) (c : Nat) (w : World) (hsrc : Src w A c l) (hr : right n = true) (ho : opensB n = true) (h10 : ¬ n.kind = 10) (hc : chk l = 0) (hw : chk (wrapL n l) = 0) :
    Calls Tryz.prog 88 #[.agg (nc n), .slice A l.length c] w (MadeNE w (wrapL n l)) := by
  have hl := (chk_run hc).1
  have e10 : (n.kind == 10) = false := by simp [h10]
  have HO := Lib.hid ho
  have HR := Lib.hid hr
  have HC := Lib.hid fun w1 (h : Below w.heap.size w w1) => check_any A l c w1 (by omega) (Src.below hsrc h).seg
  have HE := Lib.hid hc
  have HS := Lib.hid hsrc
  have HW := Lib.hid hw
  rw [HE.out] at HC
  clear hc ho hr hsrc hw h10
  go_enter Tryz.func88, Tryz.ntmps88
  go_wp2_with fail
  refine (kinds_any _).mono ?_
  rintro e w1 ⟨rfl, hq, hz1, hb1⟩
  have HQ := Lib.hid hq
  have HZ1 := Lib.hid hz1
  have hn1 : NodeAt w1 w.heap.size 0 n := NodeAt.below (Blk.node (Blk.new' rfl)) hb1 (by simp)
  have hl1 : Below w.heap.size w w1 := andThen (andAlloc (Below.refl _ _) _) hb1
  clear hq hz1 hb1
  have hld1 : ∀ o : Obj, (ldN ⟨w.heap.size, 0, none⟩).run Tryz.prog (w1.alloc o) = .ok (.agg (nc n)) (w1.alloc o) := fun o => run_ldN (hn1.alloc o)
  go_wp2_with (first
    | (refine wpList_store_row rfl 168 _ _ rfl w1.heap.size (ktab (w.heap.size + 1 + 1)) rfl rfl 168 Tryz.zeroCells168 (Blk.new' rfl) (by rw [ktab_size]; exact kinds_info) (by rw [ktab_size]; exact zero_size) (ktab_one _) ?_)
    | fail)
  have hq2 : (w1.alloc (.cells (ktab (w.heap.size + 1 + 1)) 168)).cell? ⟨w.heap.size + 1 + 1, 0, none⟩ = some (.func (.func 125) #[] #[]) := by
    have h1 := HQ.out
    have h2 := HZ1.out
    simp at h1 h2
    exact (World.cell?_alloc_past (w := w1) _ _ _ (by omega)).trans h1
  have hw2 := andAlloc hl1 (.cells (ktab (w.heap.size + 1 + 1)) 168)
  have hn2 := hn1.alloc (.cells (ktab (w.heap.size + 1 + 1)) 168)
  refine (right_any n w1.heap.size (w.heap.size + 1 + 1) _ (Blk.new' rfl) hq2).mono ?_
  rintro e w2 ⟨rfl, hb2⟩
  have hl2 := andThen hw2 hb2
  have hn2' := hn2.below hb2 hn2.lt
  have hc2 : w2.cell? ⟨w.heap.size, 0, none⟩ = some (.int .i64 n.kind) := hn2' 0 _ rfl
  have hz2 := hn2'.lt
  rw [HR.out]
  have hld2 : (ldN ⟨w.heap.size, 0, none⟩).run Tryz.prog w2 = .ok (.agg (nc n)) w2 := run_ldN hn2'
  have hld3 : ∀ o : Obj, (ldN ⟨w.heap.size, 0, none⟩).run Tryz.prog (w2.alloc o) = .ok (.agg (nc n)) (w2.alloc o) := fun o => run_ldN (hn2'.alloc o)
  clear hq2 hw2 hn2 hb2 hn1 hl1 HQ HZ1 hld1
  go_wp2_with (first
    | (go_at_call 79; (with_reducible refine (opens_any _ _).mono ?_); rintro e w' ⟨rfl, rfl⟩; simp only [HO.out]))
  have hl3 := andAlloc hl2 (.cells (nc n) 101)
  have hn3 := hn2'.alloc (.cells (nc n) 101)
  refine (HC.out _ hl3).mono ?_
  rintro e w3 ⟨rfl, hb3⟩
  have HL3 := Lib.hid (andThen hl3 hb3)
  have hn4 := hn3.below hb3 hn3.lt
  have hld4 : (ldN ⟨w.heap.size, 0, none⟩).run Tryz.prog w3 = .ok (.agg (nc n)) w3 := run_ldN hn4
  have hb6 := run_bldN 6
  have HSR := Lib.hid (fun (W : World) (h : Below w.heap.size w W) => Src.below HS.out h)
  have HO1 := Lib.hid (own_one w3 n)
  have HLA := Lib.hid (andAlloc HL3.out (.cells (nc n) 101))
  clear hl2 hn2' hc2 hz2 hld2 hld3 hl3 hn3 hb3 hn4 HC
  go_wp2_with (first
    | (refine wpList_ex (o := ⟨some 30, _, _, _, _, _⟩) (v := .slice (some ⟨w3.heap.size, 0, none⟩) 1 1) (w' := w3.alloc (.cells (nc n) 101)) rfl (by kernel_rfl) ?_)
    | (at_builtin; refine wpList_append_nodes rfl (.tmp 30) (.tmp 31) rfl w3.heap.size ?_ _ 1 _ rfl HO1.out A c l rfl (HSR.out _ HLA.out) ?_ ?_; simp; omega; intro v1 W1 hown1 hg1; have hlw1 : Below w.heap.size w W1 := below_grown (Nat.le_refl _) HLA.out hg1 (fun g hg => by have hh := HL3.out.size; have hg' : some w3.heap.size = some g := hg; injection hg' with hg'; omega))
    | (refine wpList_build_eq (o := ⟨some 34, _, _, _, _, _⟩) rfl _ _ rfl (nc (nz 6)) (by kernel_rfl) ?_)
    | (refine wpList_ex (o := ⟨some 35, _, _, _, _, _⟩) (v := .slice (some ⟨W1.heap.size, 0, none⟩) 1 1) (w' := W1.alloc (.cells (nc (nz 6)) 101)) rfl (by kernel_rfl) ?_)
    | (at_builtin; refine wpList_push rfl (.tmp 33) (.tmp 35) 39 rfl w3.heap.size 101 _ 19 160 Tryz.underlying39 node_row rfl (by decide) (by decide) _ _ _ rfl hown1 ?_ _ rfl rfl rfl rfl ?_ ?_; (have hh := hg1.size; simp at hh; omega); omega; intro v2 W2 hown2 hg2 hnn2)
    | fail)
  have hg2' : (W1.alloc (.cells (nc (nz 6)) 101)).grownBy W2 v1.ownBlock := hg2
  clear hg2 hnn2
  have hlw2 : Below w.heap.size w W2 := below_grown (Nat.le_refl _) (andAlloc hlw1 _) hg2' (fun g hg => by
    have h1 := hown1.lt g hg
    have h2 := HL3.out.size
    omega)
  have hfl : (wrapL n l).flatMap ncs = ncs n ++ l.flatMap ncs ++ (nc (nz 6)).toList := by
    show _ = ncs n ++ l.flatMap ncs ++ ncs (nz 6)
    simp [wrapL, List.flatMap_append]
  have hln : 1 + l.length + 1 = (wrapL n l).length := by
    simp [wrapL]
    omega
  rw [← hfl, hln] at hown2
  have HOW := Lib.hid (own_base hown2 (show w.heap.size ≤ w3.heap.size from HL3.out.size))
  obtain ⟨A2, c2, rfl, hc2, hm2, hs2⟩ := Seg.of_own hown2
  have hch := check_any A2 (wrapL n l) c2 W2 (by rw [← hln]; omega) hs2
  rw [HW.out] at hch
  have HLW2 := Lib.hid hlw2
  clear hg2' hown2 hown1 hg1 hlw1 hlw2 hfl hs2 hm2 HSR HO1 HLA hld4 hb6
  generalize hwl : (wrapL n l).length = wl at *
  have HWL := Lib.hid hwl
  clear hwl
  refine hch.mono ?_
  rintro e w5 ⟨rfl, hb5⟩
  have HF := Lib.hid (own_below HOW.out hb5)
  have HLF := Lib.hid (andThen HLW2.out hb5)
  clear hch hb5 HOW HLW2
  go_wp2_with fail
  go_ret2
  exact ⟨.slice A2 wl c2, rfl, by rw [HWL.out]; exact HF.out, HLF.out⟩
end Go.Proofs.YtoboecenlangmaaGreat.No
end
section
namespace Go.Proofs.YtoboecenlangmaaGreat.Pk
open Go.ChangeShapes Go.WideShapes Go.ChangeAt Go.RowKit
open Me Np No
set_option linter.unusedVariables false
set_option linter.unusedSimpArgs false

/-- What a list measures. -/
structure Msr (l : List Nd) (down : Bool) (x a b c d p q r s e1 h v e2 : Int) : Prop where
  tot : ∀ (A : Option Addr) (k : Nat) (w : World), l.length ≤ k → Seg w w.heap.size A (l.flatMap ncs) → Calls Tryz.prog 44 #[.slice A l.length k, .bool down] w fun e w' => e = .returned (.tuple #[.agg #[.int .i64 x, .int .i64 a, .int .i64 b, .int .i64 c, .int .i64 d, .int .i64 p, .int .i64 q, .int .i64 r, .int .i64 s], .int .i64 e1]) ∧ Below w.heap.size w w'
  ext : ∀ (A : Option Addr) (k : Nat) (w : World), l.length ≤ k → Seg w w.heap.size A (l.flatMap ncs) → Calls Tryz.prog 45 #[.slice A l.length k, .bool down] w fun e w' => e = .returned (.tuple #[.int .i64 h, .int .i64 v, .int .i64 e2]) ∧ Below w.heap.size w w'
  nat : e1 = 0 → dimB x = true
  near : e1 = 0 → Gl.nearB a = true ∧ Gl.nearB b = true ∧ Gl.nearB c = true ∧ Gl.nearB d = true ∧ Gl.nearB p = true ∧ Gl.nearB q = true ∧ Gl.nearB r = true ∧ Gl.nearB s = true
  err : e1 = 0 → e2 = 0 ∨ e2 = 20
  hv : e2 = 0 → dimB h = true ∧ dimB v = true
theorem near_of {z : Int} (h : -(1073741823 * ((2000 : Nat) : Int)) ≤ z ∧ z ≤ 1073741823 * ((2000 : Nat) : Int)) : Gl.nearB z = true := by
  unfold Gl.nearB
  rw [decide_eq_true_eq]
  omega
attribute [local go_sem ↓] ldN_eq
set_option maxRecDepth 100000 in
/-- The maker's wrap. -/
theorem mwrap_any (g : Nat) (n : Nd) (x a b c d p q r s : Int) (em : Bool) (bad ov : Int) (S L : List Nd) (e0 : Int) (A : Option Addr) (k : Nat) (w : World) (hg : Mk w g n x a b c d p q r s em bad ov 0)
    (hw : ∀ (A : Option Addr) (c : Nat) (w : World), Src w A c S → Calls Tryz.prog 88 #[.agg (nc n), .slice A S.length c] w fun e' w' => ∃ v, e' = .returned (.tuple #[v, .int .i64 e0]) ∧ w'.ownsRow w.heap.size 101 19 v L.length (L.flatMap ncs) ∧ Below w.heap.size w w') (hs : Src w A k S) :
    Calls Tryz.prog 46 #[.pointer (some ⟨g, 0, none⟩), .slice A S.length k] w fun e' w' => ∃ v, e' = .returned (.tuple #[v, .int .i64 e0]) ∧ w'.ownsRow w.heap.size 101 19 v L.length (L.flatMap ncs) ∧ Below w.heap.size w w' := by
  have hc31 : w.cell? ⟨g, 31, none⟩ = some (.int .i64 0) := Blk.cell hg 31
  have hld := run_ldN hg.node
  have HW := Lib.hid (hw A k w hs)
  clear hg hw hs
  generalize S.length = len at *
  go_enter Tryz.func46, Tryz.ntmps46
  go_wp2_with fail
  refine HW.out.mono ?_
  rintro e w1 ⟨v, rfl, ho, hb⟩
  have HO := Lib.hid (And.intro ho hb)
  clear ho hb HW
  go_wp2_with fail
  go_ret2
  exact ⟨v, rfl, HO.out.1, HO.out.2⟩
end Go.Proofs.YtoboecenlangmaaGreat.Pk
end
section
namespace Go.Proofs.YtoboecenlangmaaGreat.Pk
open Go.ChangeShapes Go.WideShapes Go.ChangeAt Go.RowKit
open Me Np No
set_option linter.unusedVariables false
set_option linter.unusedSimpArgs false

/-- An append of nodes that lie somewhere; where the answer lies. -/
theorem wpList_append_at {ops : Array Oper} {rest : List Oper} {o : Oper} {a : Act} {w : World} {Q : Exit → Act → World → Prop} (hgd : o.guard = none) (s x : Operand) (ho : o.op = .call { callee := .builtin .append, args := #[s, x], argTypes := #[39, 39] })
    (base : Nat) (hbase : base ≤ w.heap.size) (v : Value) (n : Nat) (xs : List Value) (hs : a.eval s = v) (hown : w.ownsRow base 101 19 v n xs) (b off c len : Nat) (l : List Nd) (hx : a.eval x = .slice (some ⟨b, off, none⟩) len c) (hlen : len = l.length) (hb : l = [] ∨ b < w.heap.size) (hc : ∀ j u, (l.flatMap ncs)[j]? = some u → w.cell? ⟨b, off + j, none⟩ = some u) (hn : n + l.length ≤ 100000)
    (h : ∀ v' w', w'.ownsRow base 101 19 v' (n + l.length) (xs ++ l.flatMap ncs) → w.grownBy w' v.ownBlock → (v'.ownBlock = v.ownBlock ∨ v'.ownBlock = some w.heap.size) → wpList Tryz.prog ops Q rest (a.put o.dst v') w') : wpList Tryz.prog ops Q (o :: rest) a w :=
  wpList_plain hgd fun K hK => by
    subst hlen
    obtain ⟨v', w', hr, h2, h3, h4⟩   := Go.Proofs.YtoboecenlangmaaGreat.No.run_append_own_at o.type base hbase v n xs hown b off c l hb hc hn
    unfold Oper.wp execOp
    simp only [ho, resolve, invoke, builtin, Sem.run_bind, Sem.run_pure, Result.andThen_ok, List.map_toArray, List.map_cons, List.map_nil, hs, hx, hr]
    exact hK _ _ (h v' w' h2 h3 h4)
theorem beg_of {ns : List Nd} {a : Nat} {x : Nd} (hx : ns[a]? = some x) (h6 : ¬ x.kind = 6) (h11 : ¬ x.kind = 11) : begB ns a = true := by
  simp [begB, hx, h6, h11]
/-- Two rows of the call's own, each of its own block. -/
structure Own2 (w : World) (base : Nat) (v u : Value) (l m : List Nd) : Prop where
  one : w.ownsRow base 101 19 v l.length (l.flatMap ncs)
  two : w.ownsRow base 101 19 u m.length (m.flatMap ncs)
  dist : v.ownBlock = none ∨ v.ownBlock ≠ u.ownBlock
  dist' : u.ownBlock = none ∨ u.ownBlock ≠ v.ownBlock
theorem Own2.below {w w' : World} {base : Nat} {v u : Value} {l m : List Nd} (h : Own2 w base v u l m) (hb : Below w.heap.size w w') : Own2 w' base v u l m := ⟨own_below h.one hb, own_below h.two hb, h.dist, h.dist'⟩
theorem Own2.swap {w : World} {base : Nat} {v u : Value} {l m : List Nd} (h : Own2 w base v u l m) : Own2 w base u v m l := ⟨h.two, h.one, h.dist', h.dist⟩
theorem Own2.grow {w w' : World} {base : Nat} {v v' u : Value} {l m k : List Nd} (h : Own2 w base v u l m) (ho : w'.ownsRow base 101 19 v' (l.length + k.length) (l.flatMap ncs ++ k.flatMap ncs)) (hg : w.grownBy w' v.ownBlock) (hw : v'.ownBlock = v.ownBlock ∨ v'.ownBlock = some w.heap.size) : Own2 w' base v' u (l ++ k) m := by
  have hu : ∀ q, u.ownBlock = some q → q < w.heap.size := fun q hq => (h.two.lt q hq).2
  have hd : v'.ownBlock = none ∨ v'.ownBlock ≠ u.ownBlock := by
    rcases hw with e | e
    · rw [e]; exact h.dist
    · refine .inr ?_
      rw [e]
      intro e2
      have := hu _ e2.symm
      omega
  refine ⟨by rw [List.length_append, List.flatMap_append]; exact ho, h.two.kept hg h.dist', hd, ?_⟩
  cases e : u.ownBlock with
  | none => exact .inl rfl
  | some q =>
    refine .inr ?_
    rw [← e]
    rcases hd with hd | hd
    · rw [hd, e]; intro e2; cases e2
    · exact fun e2 => hd e2.symm
/-- What the loop of parted holds. -/
structure InvQ (ns : List Nd) (w : World) (R : List Nd × List Nd) (a : Nat) (v u : Value) (wr : World) : Prop where
  rest : ∃ ys s, Stand ns a ys ∧ partF ns ys s = R ∧ s.1.length ≤ a ∧ s.2.length ≤ a ∧ Own2 wr w.heap.size v u s.1 s.2
  low : Below w.heap.size w wr
theorem take_len {ns : List Nd} {a m : Nat} (h : a + m ≤ ns.length) : ((ns.drop a).take m).length = m := by
  rw [List.length_take, List.length_drop]; omega
theorem inn_len {ns : List Nd} {a m : Nat} (h : a + m ≤ ns.length) (h2 : 2 ≤ m) : (inn ns a m).length = m - 2 := by
  unfold inn
  rw [List.length_take, List.length_drop]; omega
set_option maxHeartbeats 4000000 in
set_option maxRecDepth 100000 in
theorem parted_any (A : Option Addr) (ns : List Nd) (c : Nat) (w : World) (hc : chk ns = 0) (hcap : ns.length ≤ c) (hseg : Seg w w.heap.size A (ns.flatMap ncs)) :
    Calls Tryz.prog 42 #[.slice A ns.length c] w fun e w' => ∃ v u, e = .returned (.tuple #[v, u]) ∧ Own2 w' w.heap.size v u (partD ns).1 (partD ns).2 ∧ Below w.heap.size w w' := by
  have hl := (chk_run hc).1
  have HIT := Lib.hid (fun (a m : Nat) w1 (h : Below w.heap.size w w1) hb hm => item_ok A ns c a m w1 (by omega) (Seg.belowW hseg h) hc hb hm)
  have HSG := Lib.hid hseg
  have HST := Lib.hid (stand0 hc (itsD_is hc))
  have HCK := Lib.hid hc
  have HR := Lib.hid (show partF ns (itsD ns) ([], []) = partD ns from rfl)
  generalize partD ns = R at HR ⊢
  clear hc hseg
  have hl0 := Lib.hid hl
  generalize hlen : ns.length = len at *
  have HL := Lib.hid hlen
  clear hlen
  go_enter Tryz.func42, Tryz.ntmps42
  go_wp2_with fail
  go_loopw [2, 3, 4] (fun v2 v3 v4 wr => ∃ a : Nat, v4 = .int .i64 (a : Int) ∧ InvQ ns w R a v2 v3 wr) (fun _ _ v4 _ => len - (intOf v4).toNat)
  case atStart => exact ⟨0, rfl, ⟨itsD ns, ([], []), HST.out, HR.out, by simp, by simp, World.ownsRow_nil _ _ _ _, World.ownsRow_nil _ _ _ _, .inl rfl, .inl rfl⟩, Below.refl _ _⟩
  case round =>
    obtain ⟨a, rfl, hI⟩ := hrel
    obtain ⟨ys, s, hst, hR, h1, h2, hO⟩ := hI.rest
    have HLOW := Lib.hid hI.low
    have hal := hst.le
    rw [HL.out] at hal
    by_cases hlt : a < len
    · obtain ⟨m, zs, x, rfl, hm, hm1, ham, hst', _, hx, h6, h11⟩ := hst.step (by rw [HL.out]; exact hl) (by rw [HL.out]; exact hlt)
      rw [HL.out] at ham
      obtain ⟨b, off, rfl, hb, hnode⟩ := seg_node HSG.out hx
      have HNO := Lib.hid hnode
      have HS := Lib.hid (And.intro hst' (And.intro hR hO))
      have HX := Lib.hid (And.intro hx hm)
      have HB := Lib.hid (beg_of hx h6 h11)
      have HH := Lib.hid (And.intro h1 h2)
      clear hst' hR hO hx hm hnode hI hst h1 h2
      have hifs : (if c = a then some (⟨b, off, none⟩ : Addr) else some ⟨b, off + a * 19, none⟩) = some ⟨b, off + a * 19, none⟩ := if_neg (by omega)
      have HIF := Lib.hid hifs
      have HTL := Lib.hid (show ((ns.drop a).take m).length = m from take_len (by rw [HL.out]; exact ham))
      have HAD := Lib.hid (fun w1 (h : Below w.heap.size w w1) => show ∀ j u, (((ns.drop a).take m).flatMap ncs)[j]? = some u → w1.cell? ⟨b, off + a * 19 + j, none⟩ = some u by
        rw [flat_take ncs_length, flat_drop ncs_length]
        intro j u hu
        have := seg_cells (Seg.take (Seg.drop (HSG.out.below h) (a * 19)) (m * 19)) j u hu
        have hadd : (⟨b, off + a * 19, none⟩ : Addr).add j = ⟨b, off + a * 19 + j, none⟩ := by unfold Addr.add; split <;> simp_all
        rwa [hadd] at this)
      clear hifs
      have hal1 : (a : Int) + m ≤ len := by omega
      have hal2 : (a : Int) + m ≤ c := by omega
      have hal3 : (a : Int) ≤ a + m := by omega
      have HTI : (inn ns a m).length ≤ m := by unfold inn; rw [List.length_take]; omega
      by_cases k13 : x.kind = 13
      · have e13 : (x.kind == 13) = true := by simp [k13]
        have HP := Lib.hid (pstep_out (s := s) HX.out.1 HX.out.2 (.inl k13))
        clear k13 h6 h11
        go_wp2_with (first | (go_at_call 80; refine (HIT.out a m _ HLOW.out HB.out HX.out.2).mono ?_; rintro e w1 ⟨rfl, hb1⟩; have hn1 : w1.cell? ⟨b, off + a * 19, none⟩ = some (.int .i64 x.kind) := (HNO.out.below HLOW.out hb).below hb1 (Nat.lt_of_lt_of_le hb HLOW.out.size) 0 _ rfl; have HB1 := Lib.hid hb1; have HO1 := Lib.hid (HS.out.2.2.below hb1); have HL1 := Lib.hid (andThen HLOW.out hb1); clear hb1) | (at_builtin; go_loud (refine wpList_append_at rfl (.tmp 28) (.tmp 32) rfl w.heap.size HL1.out.size _ _ _ rfl HO1.out.two b (off + a * 19) (c - a) (a + m - a) ((ns.drop a).take m) rfl (by rw [HTL.out]; omega) (.inr (Nat.lt_of_lt_of_le hb HL1.out.size)) (HAD.out _ HL1.out) (by rw [HTL.out]; have := HH.out.2; omega) ?_; intro v3 W3 hown3 hg3 hv3; have HG3 := Lib.hid (HO1.out.swap.grow hown3 hg3 hv3); have hlow3 := below_grown (Nat.le_refl _) HL1.out hg3 (fun q hq => (HO1.out.two.lt q hq).1); have HLW3 := Lib.hid hlow3; clear hown3 hg3 hv3 hlow3)))
        go_roundw
        case rel =>
          refine ⟨a + m, by go_num, ⟨zs, _, HS.out.1, HS.out.2.1, ?_, ?_, ?_⟩, HLW3.out⟩
          · rw [HP.out]; have := HH.out; have := HTL.out; simp only [List.length_append]; omega
          · rw [HP.out]; have := HH.out; have := HTL.out; have := HTI; simp only [List.length_append]; omega
          · rw [HP.out]; exact HG3.out.swap
        case measure => simp [intOf]; omega
      · have e13 : (x.kind == 13) = false := by simp [k13]
        by_cases k12 : x.kind = 12
        · have e12 : (x.kind == 12) = true := by simp [k12]
          have HP := Lib.hid (pstep_out (s := s) HX.out.1 HX.out.2 (.inr k12))
          clear k13 k12 h6 h11
          go_wp2_with (first | (go_at_call 80; refine (HIT.out a m _ HLOW.out HB.out HX.out.2).mono ?_; rintro e w1 ⟨rfl, hb1⟩; have hn1 : w1.cell? ⟨b, off + a * 19, none⟩ = some (.int .i64 x.kind) := (HNO.out.below HLOW.out hb).below hb1 (Nat.lt_of_lt_of_le hb HLOW.out.size) 0 _ rfl; have HB1 := Lib.hid hb1; have HO1 := Lib.hid (HS.out.2.2.below hb1); have HL1 := Lib.hid (andThen HLOW.out hb1); clear hb1) | (at_builtin; go_loud (refine wpList_append_at rfl (.tmp 28) (.tmp 32) rfl w.heap.size HL1.out.size _ _ _ rfl HO1.out.two b (off + a * 19) (c - a) (a + m - a) ((ns.drop a).take m) rfl (by rw [HTL.out]; omega) (.inr (Nat.lt_of_lt_of_le hb HL1.out.size)) (HAD.out _ HL1.out) (by rw [HTL.out]; have := HH.out.2; omega) ?_; intro v3 W3 hown3 hg3 hv3; have HG3 := Lib.hid (HO1.out.swap.grow hown3 hg3 hv3); have hlow3 := below_grown (Nat.le_refl _) HL1.out hg3 (fun q hq => (HO1.out.two.lt q hq).1); have HLW3 := Lib.hid hlow3; clear hown3 hg3 hv3 hlow3)))
          go_roundw
          case rel =>
            refine ⟨a + m, by go_num, ⟨zs, _, HS.out.1, HS.out.2.1, ?_, ?_, ?_⟩, HLW3.out⟩
            · rw [HP.out]; have := HH.out; have := HTL.out; simp only [List.length_append]; omega
            · rw [HP.out]; have := HH.out; have := HTL.out; have := HTI; simp only [List.length_append]; omega
            · rw [HP.out]; exact HG3.out.swap
          case measure => simp [intOf]; omega
        · have e12 : (x.kind == 12) = false := by simp [k12]
          by_cases k17 : x.kind = 17
          · have e17 : (x.kind == 17) = true := by simp [k17]
            have HP := Lib.hid (pstep_in (s := s) HX.out.1 HX.out.2 k17)
            have hm2 : 2 ≤ m := endc_two HX.out.1 (by simp [opensB, k17]) HX.out.2
            have HTN := Lib.hid (inn_len (ns := ns) (by rw [HL.out]; exact ham) hm2)
            have HAI := Lib.hid (fun w1 (h : Below w.heap.size w w1) => show ∀ j u, ((inn ns a m).flatMap ncs)[j]? = some u → w1.cell? ⟨b, off + (a + 1) * 19 + j, none⟩ = some u by
              unfold inn
              rw [flat_take ncs_length, flat_drop ncs_length]
              intro j u hu
              have := seg_cells (Seg.take (Seg.drop (HSG.out.below h) ((a + 1) * 19)) ((m - 2) * 19)) j u hu
              have hadd : (⟨b, off + (a + 1) * 19, none⟩ : Addr).add j = ⟨b, off + (a + 1) * 19 + j, none⟩ := by unfold Addr.add; split <;> simp_all
              rwa [hadd] at this)
            clear k13 k12 k17 h6 h11
            go_wp2_with (first | (go_at_call 80; refine (HIT.out a m _ HLOW.out HB.out HX.out.2).mono ?_; rintro e w1 ⟨rfl, hb1⟩; have hn1 : w1.cell? ⟨b, off + a * 19, none⟩ = some (.int .i64 x.kind) := (HNO.out.below HLOW.out hb).below hb1 (Nat.lt_of_lt_of_le hb HLOW.out.size) 0 _ rfl; have HB1 := Lib.hid hb1; have HO1 := Lib.hid (HS.out.2.2.below hb1); have HL1 := Lib.hid (andThen HLOW.out hb1); clear hb1) | (at_builtin; go_loud (refine wpList_append_at rfl (.tmp 34) (.tmp 40) rfl w.heap.size HL1.out.size _ _ _ rfl HO1.out.two b (off + (a + 1) * 19) (c - (a + 1)) (a + m - 1 - (a + 1)) (inn ns a m) rfl (by rw [HTN.out]; omega) (.inr (Nat.lt_of_lt_of_le hb HL1.out.size)) (HAI.out _ HL1.out) (by rw [HTN.out]; have := HH.out.2; omega) ?_; intro v3 W3 hown3 hg3 hv3; have HG3 := Lib.hid (HO1.out.swap.grow hown3 hg3 hv3); have hlow3 := below_grown (Nat.le_refl _) HL1.out hg3 (fun q hq => (HO1.out.two.lt q hq).1); have HLW3 := Lib.hid hlow3; clear hown3 hg3 hv3 hlow3)))
            go_roundw
            case rel =>
              refine ⟨a + m, by go_num, ⟨zs, _, HS.out.1, HS.out.2.1, ?_, ?_, ?_⟩, HLW3.out⟩
              · rw [HP.out]; have := HH.out; simp only; omega
              · rw [HP.out]; have := HH.out; have := HTI; simp only [List.length_append]; omega
              · rw [HP.out]; exact HG3.out.swap
            case measure => simp [intOf]; omega
          · have e17 : (x.kind == 17) = false := by simp [k17]
            have HP := Lib.hid (pstep_stay (s := s) HX.out.1 HX.out.2 k13 k12 k17)
            clear k13 k12 k17 h6 h11
            go_wp2_with (first | (go_at_call 80; refine (HIT.out a m _ HLOW.out HB.out HX.out.2).mono ?_; rintro e w1 ⟨rfl, hb1⟩; have hn1 : w1.cell? ⟨b, off + a * 19, none⟩ = some (.int .i64 x.kind) := (HNO.out.below HLOW.out hb).below hb1 (Nat.lt_of_lt_of_le hb HLOW.out.size) 0 _ rfl; have HB1 := Lib.hid hb1; have HO1 := Lib.hid (HS.out.2.2.below hb1); have HL1 := Lib.hid (andThen HLOW.out hb1); clear hb1) | (at_builtin; go_loud (refine wpList_append_at rfl (.tmp 42) (.tmp 46) rfl w.heap.size HL1.out.size _ _ _ rfl HO1.out.one b (off + a * 19) (c - a) (a + m - a) ((ns.drop a).take m) rfl (by rw [HTL.out]; omega) (.inr (Nat.lt_of_lt_of_le hb HL1.out.size)) (HAD.out _ HL1.out) (by rw [HTL.out]; have := HH.out.1; omega) ?_; intro v3 W3 hown3 hg3 hv3; have HG3 := Lib.hid (HO1.out.grow hown3 hg3 hv3); have hlow3 := below_grown (Nat.le_refl _) HL1.out hg3 (fun q hq => (HO1.out.one.lt q hq).1); have HLW3 := Lib.hid hlow3; clear hown3 hg3 hv3 hlow3)))
            go_roundw
            case rel =>
              refine ⟨a + m, by go_num, ⟨zs, _, HS.out.1, HS.out.2.1, ?_, ?_, ?_⟩, HLW3.out⟩
              · rw [HP.out]; have := HH.out; have := HTL.out; simp only [List.length_append]; omega
              · rw [HP.out]; have := HH.out; have := HTL.out; have := HTI; simp only [List.length_append]; omega
              · rw [HP.out]; exact HG3.out
            case measure => simp [intOf]; omega
    · obtain rfl : a = len := by omega
      have he : ys = [] := (show Stand ns ns.length ys from HL.out ▸ hst).done
      subst he
      have HS := Lib.hid (And.intro hR hO)
      clear hI hst hR hO h1 h2
      go_wp2_with fail
      go_ret2
      exact ⟨_, _, rfl, HS.out.1 ▸ HS.out.2, HLOW.out⟩
end Go.Proofs.YtoboecenlangmaaGreat.Pk
end
section
namespace Go.Proofs.YtoboecenlangmaaGreat.Pk
open Go.ChangeShapes Go.WideShapes Go.ChangeAt Go.RowKit
open Me Np No
set_option linter.unusedVariables false
set_option linter.unusedSimpArgs false

/-- What Hpack holds: the maker, and two rows. -/
structure Hs (w0 : World) (v u : Value) (S O : List Nd) (g : Nat) (n : Nd) (x a b c d p q r s : Int) (em : Bool) (bad ov wr : Int) (w : World) : Prop where
  mkr : Mk w g n x a b c d p q r s em bad ov wr
  own : Own2 w w0.heap.size v u S O
  low : Below w0.heap.size w0 w
  gl : w0.heap.size ≤ g
theorem Hs.below {w0 : World} {v u : Value} {S O : List Nd} {g : Nat} {n : Nd} {x a b c d p q r s : Int} {em : Bool} {bad ov wr : Int} {w w' : World} (h : Hs w0 v u S O g n x a b c d p q r s em bad ov wr w) (hb : Below w.heap.size w w') : Hs w0 v u S O g n x a b c d p q r s em bad ov wr w' :=
  ⟨h.mkr.below hb, h.own.below hb, andThen h.low hb, h.gl⟩
theorem ne_maker : (101 : Nat) ≠ 111 := by decide
theorem own_not_g {w w' : World} {base n g : Nat} {v : Value} {xs : List Value} {cs : Array Value} (h : w.ownsRow base 101 19 v n xs) (hb : Blk w g 111 cs) (hg : w.grownBy w' (some g)) : w'.ownsRow base 101 19 v n xs := by
  refine h.kept hg ?_
  rcases h.2 with ⟨rfl, _⟩ | ⟨q, cap, cur, rfl, _, hq, _⟩
  · exact .inl rfl
  · refine .inr ?_
    intro e
    have e' : q = g := by injection e
    subst e'
    have hp : w.heap[q]? = some (.cells _ 111 (0, 0)) := hb
    rw [hq] at hp
    simp only [Option.some.injEq, Obj.cells.injEq] at hp
    exact ne_maker hp.2.1
theorem Hs.turn {w0 : World} {v u : Value} {S O : List Nd} {g : Nat} {n n' : Nd} {x a b c d p q r s : Int} {x' a' b' c' d' p' q' r' s' : Int} {em : Bool} {bad ov wr bad' ov' wr' : Int} {w w' : World} (h : Hs w0 v u S O g n x a b c d p q r s em bad ov wr w) (hg : w.grownBy w' (some g)) (hm : Mk w' g n' x' a' b' c' d' p' q' r' s' em bad' ov' wr') :
    Hs w0 v u S O g n' x' a' b' c' d' p' q' r' s' em bad' ov' wr' w' :=
  ⟨hm, ⟨own_not_g h.own.one h.mkr hg, own_not_g h.own.two h.mkr hg, h.own.dist, h.own.dist'⟩, ⟨hg.os.trans h.low.os, hg.tape.trans h.low.tape, hg.output.trans h.low.output, Nat.le_trans h.low.size hg.size, fun q hq => (hg.block q (by have := h.low.size; omega) (by intro e; injection e with e; have := h.gl; omega)).trans (h.low.block q hq)⟩, h.gl⟩
/-- What Hpack answers. -/
def HOut (R : List Nd × List Nd × Int × Int × Int) (w : World) (e : Ending) (w' : World) : Prop := ∃ v u, e = .returned (.tuple #[v, u, .int .i64 R.2.2.1, .int .i64 R.2.2.2.1, .int .i64 R.2.2.2.2]) ∧ Own2 w' w.heap.size v u R.1 R.2.1 ∧ Below w.heap.size w w'
theorem HOut.no {w w' : World} (hb : Below w.heap.size w w') (E : Int) : HOut ([], [], 0, 0, E) w (.returned (.tuple #[.slice none 0 0, .slice none 0 0, .int .i64 0, .int .i64 0, .int .i64 E])) w' := ⟨_, _, rfl, ⟨World.ownsRow_nil _ _ _ _, World.ownsRow_nil _ _ _ _, .inl rfl, .inl rfl⟩, hb⟩
theorem dimen_any (z : Int) (w : World) : Calls Tryz.prog 41 #[.int .i64 z] w fun e w' => e = .returned (.bool (dimB z)) ∧ w = w' := by
  by_cases h0 : -1073741823 ≤ z
  · by_cases h1 : z ≤ 1073741823
    · have HD := Lib.hid (show dimB z = true by simp [dimB, h0, h1])
      go_enter Tryz.func41, Tryz.ntmps41
      go_wp2
      go_ret
      exact ⟨ret_bool (by rw [HD.out]), rfl⟩
    · have HD := Lib.hid (show dimB z = false by simp [dimB]; omega)
      go_enter Tryz.func41, Tryz.ntmps41
      go_wp2
      go_ret
      exact ⟨ret_bool (by rw [HD.out]), rfl⟩
  · have HD := Lib.hid (show dimB z = false by simp [dimB]; omega)
    go_enter Tryz.func41, Tryz.ntmps41
    go_wp2
    go_ret
    exact ⟨ret_bool (by rw [HD.out]), rfl⟩
theorem hpack_err (A : Option Addr) (ns : List Nd) (k : Nat) (tw : Int) (ex : Bool) (w : World) (hl : ns.length ≤ 9223372036854775806) (hseg : Seg w w.heap.size A (ns.flatMap ncs)) (hc : ¬ chk ns = 0) :
    Calls Tryz.prog 16 #[.slice A ns.length k, .int .i64 tw, .bool ex] w (HOut ([], [], 0, 0, chk ns) w) := by
  have e0 : (chk ns != 0) = true := by simp [hc]
  have HC := Lib.hid (check_any A ns k w (by omega) hseg)
  clear hseg hc
  generalize chk ns = q0 at *
  generalize ns.length = len at *
  go_enter Tryz.func16, Tryz.ntmps16
  go_wp2_with fail
  refine HC.out.mono ?_
  rintro e w1 ⟨rfl, hb1⟩
  go_wp2_with fail
  go_returns
  exact HOut.no hb1 _
theorem hpack_far (A : Option Addr) (ns : List Nd) (k : Nat) (tw : Int) (ex : Bool) (w : World) (hl : ns.length ≤ 9223372036854775806) (hseg : Seg w w.heap.size A (ns.flatMap ncs)) (hc : chk ns = 0) (ht : dimB tw = false) :
    Calls Tryz.prog 16 #[.slice A ns.length k, .int .i64 tw, .bool ex] w (HOut ([], [], 0, 0, 11) w) := by
  have HC := Lib.hid (check_any A ns k w (by omega) hseg)
  rw [hc] at HC
  have HD := Lib.hid (fun w => dimen_any tw w)
  rw [ht] at HD
  clear hseg hc
  generalize ns.length = len at *
  go_enter Tryz.func16, Tryz.ntmps16
  go_wp2_with fail
  refine HC.out.mono ?_
  rintro e w1 ⟨rfl, hb1⟩
  go_wp2_with (go_at_call 41; refine (HD.out _).mono ?_; rintro e w' ⟨rfl, rfl⟩)
  go_returns
  exact HOut.no hb1 _
theorem Mk.s19 {w : World} {g : Nat} {n : Nd} {x a b c d p q r s : Int} {em : Bool} {bad ov wr : Int} (h : Mk w g n x a b c d p q r s em bad ov wr) (z : Int) : Mk (w.setCell ⟨g, 19, none⟩ (.int .i64 z)) g n z a b c d p q r s em bad ov wr := Blk.set h 19 (.int .i64 z)
theorem Mk.s20 {w : World} {g : Nat} {n : Nd} {x a b c d p q r s : Int} {em : Bool} {bad ov wr : Int} (h : Mk w g n x a b c d p q r s em bad ov wr) (z : Int) : Mk (w.setCell ⟨g, 20, none⟩ (.int .i64 z)) g n x z b c d p q r s em bad ov wr := Blk.set h 20 (.int .i64 z)
theorem Mk.s21 {w : World} {g : Nat} {n : Nd} {x a b c d p q r s : Int} {em : Bool} {bad ov wr : Int} (h : Mk w g n x a b c d p q r s em bad ov wr) (z : Int) : Mk (w.setCell ⟨g, 21, none⟩ (.int .i64 z)) g n x a z c d p q r s em bad ov wr := Blk.set h 21 (.int .i64 z)
theorem Mk.s22 {w : World} {g : Nat} {n : Nd} {x a b c d p q r s : Int} {em : Bool} {bad ov wr : Int} (h : Mk w g n x a b c d p q r s em bad ov wr) (z : Int) : Mk (w.setCell ⟨g, 22, none⟩ (.int .i64 z)) g n x a b z d p q r s em bad ov wr := Blk.set h 22 (.int .i64 z)
theorem Mk.s23 {w : World} {g : Nat} {n : Nd} {x a b c d p q r s : Int} {em : Bool} {bad ov wr : Int} (h : Mk w g n x a b c d p q r s em bad ov wr) (z : Int) : Mk (w.setCell ⟨g, 23, none⟩ (.int .i64 z)) g n x a b c z p q r s em bad ov wr := Blk.set h 23 (.int .i64 z)
theorem Mk.s24 {w : World} {g : Nat} {n : Nd} {x a b c d p q r s : Int} {em : Bool} {bad ov wr : Int} (h : Mk w g n x a b c d p q r s em bad ov wr) (z : Int) : Mk (w.setCell ⟨g, 24, none⟩ (.int .i64 z)) g n x a b c d z q r s em bad ov wr := Blk.set h 24 (.int .i64 z)
theorem Mk.s25 {w : World} {g : Nat} {n : Nd} {x a b c d p q r s : Int} {em : Bool} {bad ov wr : Int} (h : Mk w g n x a b c d p q r s em bad ov wr) (z : Int) : Mk (w.setCell ⟨g, 25, none⟩ (.int .i64 z)) g n x a b c d p z r s em bad ov wr := Blk.set h 25 (.int .i64 z)
theorem Mk.s26 {w : World} {g : Nat} {n : Nd} {x a b c d p q r s : Int} {em : Bool} {bad ov wr : Int} (h : Mk w g n x a b c d p q r s em bad ov wr) (z : Int) : Mk (w.setCell ⟨g, 26, none⟩ (.int .i64 z)) g n x a b c d p q z s em bad ov wr := Blk.set h 26 (.int .i64 z)
theorem Mk.s27 {w : World} {g : Nat} {n : Nd} {x a b c d p q r s : Int} {em : Bool} {bad ov wr : Int} (h : Mk w g n x a b c d p q r s em bad ov wr) (z : Int) : Mk (w.setCell ⟨g, 27, none⟩ (.int .i64 z)) g n x a b c d p q r z em bad ov wr := Blk.set h 27 (.int .i64 z)
theorem Mk.n3 {w : World} {g : Nat} {n : Nd} {x a b c d p q r s : Int} {em : Bool} {bad ov wr : Int} (h : Mk w g n x a b c d p q r s em bad ov wr) (z : Int) : Mk (w.setCell ⟨g, 3, none⟩ (.int .i64 z)) g { n with wd := z } x a b c d p q r s em bad ov wr := Blk.set h 3 (.int .i64 z)
theorem Mk.n4 {w : World} {g : Nat} {n : Nd} {x a b c d p q r s : Int} {em : Bool} {bad ov wr : Int} (h : Mk w g n x a b c d p q r s em bad ov wr) (z : Int) : Mk (w.setCell ⟨g, 4, none⟩ (.int .i64 z)) g { n with ht := z } x a b c d p q r s em bad ov wr := Blk.set h 4 (.int .i64 z)
theorem Mk.n5 {w : World} {g : Nat} {n : Nd} {x a b c d p q r s : Int} {em : Bool} {bad ov wr : Int} (h : Mk w g n x a b c d p q r s em bad ov wr) (z : Int) : Mk (w.setCell ⟨g, 5, none⟩ (.int .i64 z)) g { n with dp := z } x a b c d p q r s em bad ov wr := Blk.set h 5 (.int .i64 z)
theorem mk_tot {w : World} {g : Nat} {n : Nd} {em : Bool} {bad ov wr : Int} {x' a' b' c' d' p' q' r' s' : Int} (h : Mk w g n x' a' b' c' d' p' q' r' s' em bad ov wr) (x a b c d p q r s : Int) : Mk (w.setCells g 19 [.int .i64 x, .int .i64 a, .int .i64 b, .int .i64 c, .int .i64 d, .int .i64 p, .int .i64 q, .int .i64 r, .int .i64 s]) g n x a b c d p q r s em bad ov wr := by
  simp only [World.setCells]
  exact (((((((((h.s19 x).s20 a).s21 b).s22 c).s23 d).s24 p).s25 q).s26 r).s27 s)
theorem mk_there {w : World} {g : Nat} {n : Nd} {em : Bool} {bad ov wr : Int} {x a b c d p q r s : Int} (h : Mk w g n x a b c d p q r s em bad ov wr) : w.there g 19 9 := by
  intro j hj
  refine ⟨?_, Blk.free h _⟩
  rw [Blk.cell h]
  rw [Array.getElem?_eq_getElem (by show 19 + j < 32; omega)]
  rfl
end Go.Proofs.YtoboecenlangmaaGreat.Pk
end
section
namespace Go.Proofs.YtoboecenlangmaaGreat.Pk
open Go.ChangeShapes Go.WideShapes Go.ChangeAt Go.RowKit
open Me Np No
set_option linter.unusedVariables false
set_option linter.unusedSimpArgs false

theorem Hs.seg {w0 w : World} {A : Option Addr} {l k : Nat} {u : Value} {S O : List Nd} {g : Nat} {n : Nd} {x a b c d p q r s : Int} {em : Bool} {bad ov wr : Int} (h : Hs w0 (.slice A l k) u S O g n x a b c d p q r s em bad ov wr w) : Seg w w.heap.size A (S.flatMap ncs) := by
  obtain ⟨A', c, e, _, _, hs⟩ := Seg.of_own h.own.one
  injection e with e _ _
  subst e
  exact hs
theorem t9_one (x a b c d p q r s : Int) : (#[.int .i64 x, .int .i64 a, .int .i64 b, .int .i64 c, .int .i64 d, .int .i64 p, .int .i64 q, .int .i64 r, .int .i64 s] : Array Value).all (·.oneCell') = true := by simp [Value.oneCell']
theorem grown_cells (g : Nat) : ∀ (vs : List Value) (o : Nat) (w : World), w.grownBy (w.setCells g o vs) (some g)
  | [], _, w => ⟨rfl, rfl, rfl, Nat.le_refl _, fun _ _ _ => rfl⟩
  | v :: r, o, w => grown_trans (grown_set w g o v) (grown_cells g r (o + 1) _)
theorem Hs.n45 {w0 : World} {v u : Value} {S O : List Nd} {g : Nat} {n : Nd} {x a b c d p q r s : Int} {em : Bool} {bad ov wr : Int} {w : World} (h : Hs w0 v u S O g n x a b c d p q r s em bad ov wr w) (z y : Int) : Hs w0 v u S O g { n with ht := z, dp := y } x a b c d p q r s em bad ov wr ((w.setCell ⟨g, 4, none⟩ (.int .i64 z)).setCell ⟨g, 5, none⟩ (.int .i64 y)) :=
  h.turn (grown_trans (grown_set _ _ _ _) (grown_set _ _ _ _)) ((h.mkr.n4 z).n5 y)
theorem Hs.n3 {w0 : World} {v u : Value} {S O : List Nd} {g : Nat} {n : Nd} {x a b c d p q r s : Int} {em : Bool} {bad ov wr : Int} {w : World} (h : Hs w0 v u S O g n x a b c d p q r s em bad ov wr w) (z : Int) : Hs w0 v u S O g { n with wd := z } x a b c d p q r s em bad ov wr (w.setCell ⟨g, 3, none⟩ (.int .i64 z)) :=
  h.turn (grown_set _ _ _ _) (h.mkr.n3 z)
theorem Hs.src {w0 w : World} {A : Option Addr} {l k : Nat} {u : Value} {S O : List Nd} {g : Nat} {n : Nd} {x a b c d p q r s : Int} {em : Bool} {bad ov wr : Int} (h : Hs w0 (.slice A l k) u S O g n x a b c d p q r s em bad ov wr w) : Src w A k S := by
  obtain ⟨A', c, e, _, _, hs⟩ := Src.own h.own.one
  injection e with e1 e2 e3
  subst e1
  subst e3
  exact hs
theorem Hs.out {w0 w w' : World} {v : Value} {u : Value} {S O L : List Nd} {g : Nat} {n : Nd} {x a b c d p q r s : Int} {em : Bool} {bad ov wr : Int} (h : Hs w0 v u S O g n x a b c d p q r s em bad ov wr w) {vL : Value} (ho : w'.ownsRow w.heap.size 101 19 vL L.length (L.flatMap ncs)) (hb : Below w.heap.size w w') (y z : Int) :
    HOut (L, O, y, z, 0) w0 (.returned (.tuple #[vL, u, .int .i64 y, .int .i64 z, .int .i64 0])) w' := by
  have hq : ∀ q, vL.ownBlock = some q → u.ownBlock ≠ some q := fun q h1 h2 => by
    have := (ho.lt q h1).1
    have := (h.own.two.lt q h2).2
    omega
  refine ⟨vL, u, rfl, ⟨own_base ho h.low.size, own_below h.own.two hb, ?_, ?_⟩, andThen h.low hb⟩
  · cases e : vL.ownBlock with
    | none => exact .inl rfl
    | some q => exact .inr (fun e' => hq q e e'.symm)
  · cases e : u.ownBlock with
    | none => exact .inl rfl
    | some q => exact .inr (fun e' => hq q e'.symm e)
theorem HOut.drewN {R : List Nd × List Nd × Int × Int × Int} {w w' : World} {e : Ending} (h : HOut R w e w') (n : Nat) : HOut R w e (w'.drewN n) := by
  obtain ⟨v, u, rfl, ho, hb⟩ := h
  exact ⟨v, u, rfl, ho.below (below_drewN (Below.refl _ _) n), below_drewN hb n⟩
theorem partF_len {ns : List Nd} (hl : ns.length ≤ 2000) : ∀ (ys : List Nat) (a : Nat) (s : List Nd × List Nd), Stand ns a ys → s.1.length ≤ a → s.2.length ≤ a → (partF ns ys s).1.length ≤ ns.length ∧ (partF ns ys s).2.length ≤ ns.length
  | [], a, s, h, h1, h2 => by have := h.le; exact ⟨Nat.le_trans h1 this, Nat.le_trans h2 this⟩
  | y :: ys, a, s, h, h1, h2 => by
    have hi := h.its
    obtain ⟨rfl, m0, hm0, _⟩ := hi
    have hb := endc_bd hm0
    rw [List.length_drop] at hb
    obtain ⟨m, zs, x, he, hm, hm1, ham, hst, _, hx, h6, h11⟩ := h.step hl (by omega)
    injection he with _ he
    subst he
    rw [partF_cons]
    have hti : ((ns.drop y).take m).length = m := by rw [List.length_take, List.length_drop]; omega
    have hin : (inn ns y m).length ≤ m := by unfold inn; rw [List.length_take]; omega
    refine partF_len hl ys (y + m) _ hst ?_ ?_
    · by_cases k1 : x.kind = 13 ∨ x.kind = 12
      · rw [pstep_out hx hm k1]; show s.1.length ≤ _; omega
      · by_cases k2 : x.kind = 17
        · rw [pstep_in hx hm k2]; show s.1.length ≤ _; omega
        · rw [pstep_stay hx hm (by omega) (by omega) k2]; simp only [List.length_append]; omega
    · by_cases k1 : x.kind = 13 ∨ x.kind = 12
      · rw [pstep_out hx hm k1]; simp only [List.length_append]; omega
      · by_cases k2 : x.kind = 17
        · rw [pstep_in hx hm k2]; simp only [List.length_append]; omega
        · rw [pstep_stay hx hm (by omega) (by omega) k2]; show s.2.length ≤ _; omega
theorem partD_len {ns : List Nd} (hc : chk ns = 0) : (partD ns).1.length ≤ 2000 ∧ (partD ns).2.length ≤ 2000 := by
  have hl := (chk_run hc).1
  have := partF_len hl (itsD ns) 0 ([], []) (stand0 hc (itsD_is hc)) (by simp) (by simp)
  exact ⟨Nat.le_trans this.1 hl, Nat.le_trans this.2 hl⟩
/-- What Hpack comes to, where the list is one and the width may be. -/
def hpkR (e1 e2 : Int) (dW : Bool) (e3 : Int) (L O : List Nd) (bad ov : Int) : List Nd × List Nd × Int × Int × Int :=
  if e1 = 0 then (if e2 = 0 then (if dW = true then (if e3 = 0 then (L, O, bad, ov, 0) else ([], [], 0, 0, e3)) else ([], [], 0, 0, 20)) else ([], [], 0, 0, e2)) else ([], [], 0, 0, e1)
def hN (W h v : Int) : Nd := { nz 4 with wd := W, ht := h, dp := v }
end Go.Proofs.YtoboecenlangmaaGreat.Pk
end
section
namespace Go.Proofs.YtoboecenlangmaaGreat.Dv

theorem split_mul (q y1 y0 : Int) : q * (y1 * 4294967296 + y0) = q * y1 * 4294967296 + q * y0 := by
  rw [Int.mul_add, ← Int.mul_assoc]

/-- The trial quotient is too great. -/
theorem too_great {q y1 y0 r un u1 : Int} (hy0 : 0 ≤ y0) (hy1 : 1 ≤ y1) (hI : un = q * y1 + r) (_hu1 : 0 ≤ u1) (hu1' : u1 < 4294967296) (hun : un < y1 * 4294967296 + y0)
    (ht : 4294967296 ≤ q ∨ r * 4294967296 + u1 < q * y0) : (un * 4294967296 + u1) / (y1 * 4294967296 + y0) ≤ q - 1 := by
  have hy : 0 < y1 * 4294967296 + y0 := by omega
  have h : un * 4294967296 + u1 < q * (y1 * 4294967296 + y0) := by
    rcases ht with h | h
    · have := Int.mul_le_mul_of_nonneg_right h (Int.le_of_lt hy)
      omega
    · rw [split_mul, hI]
      omega
  have := Int.ediv_lt_of_lt_mul hy h
  omega

theorem fits {q y1 y0 r un u1 : Int} (hI : un = q * y1 + r) (hle : q * y0 ≤ r * 4294967296 + u1) : q * (y1 * 4294967296 + y0) ≤ un * 4294967296 + u1 := by
  rw [split_mul, hI]
  omega

/-- It is the quotient: it is no less, and it fits. -/
theorem just {q y1 y0 r un u1 : Int} (hy0 : 0 ≤ y0) (hy1 : 1 ≤ y1) (hI : un = q * y1 + r) (hq : (un * 4294967296 + u1) / (y1 * 4294967296 + y0) ≤ q)
    (hle : q * y0 ≤ r * 4294967296 + u1) : (un * 4294967296 + u1) / (y1 * 4294967296 + y0) = q := by
  have hy : 0 < y1 * 4294967296 + y0 := by omega
  have := Int.le_ediv_of_mul_le hy (fits hI hle)
  omega

/-- Behind a break: the rest is past one word, so the quotient fits. -/
theorem breaks {q y1 y0 r un u1 : Int} (hy0 : 0 ≤ y0) (hy0' : y0 < 4294967296) (hy1 : 1 ≤ y1) (hI : un = q * y1 + r) (hq0 : 0 ≤ q) (hu1 : 0 ≤ u1) (hr : 4294967296 ≤ r)
    (hun : un < y1 * 4294967296 + y0) : q * y0 ≤ r * 4294967296 + u1 := by
  have hq : q < 4294967296 := by
    rcases Int.lt_or_le q 4294967296 with h | h
    · exact h
    · have := Int.mul_le_mul_of_nonneg_right h (show 0 ≤ y1 by omega)
      omega
  have h1 := Int.mul_le_mul_of_nonneg_left (show y0 ≤ 4294967296 by omega) hq0
  omega

/-- The first trial: no less than the quotient. -/
theorem first_ge {y1 y0 un u1 : Int} (hy0 : 0 ≤ y0) (hy1 : 1 ≤ y1) (hun : 0 ≤ un) (hu1' : u1 < 4294967296) :
    (un * 4294967296 + u1) / (y1 * 4294967296 + y0) ≤ un / y1 := by
  have hy : 0 < y1 * 4294967296 + y0 := by omega
  have h1 := Int.mul_ediv_add_emod un y1
  have h2 := Int.emod_lt_of_pos un (show 0 < y1 by omega)
  have h0 : 0 ≤ un / y1 := Int.ediv_nonneg hun (by omega)
  have h : un * 4294967296 + u1 < (un / y1 + 1) * (y1 * 4294967296 + y0) := by
    rw [split_mul, Int.add_mul (un / y1) 1 y1, Int.add_mul (un / y1) 1 y0, Int.one_mul, Int.one_mul]
    have h3 := Int.mul_nonneg h0 hy0
    rw [Int.mul_comm] at h1
    omega
  have := Int.ediv_lt_of_lt_mul hy h
  omega

theorem first_rest (un y1 : Int) : un = un / y1 * y1 + (un - un / y1 * y1) := by omega

theorem rest_eq {N y q : Int} (h : N / y = q) : N - q * y = N % y := by
  subst h
  have := Int.mul_ediv_add_emod N y
  rw [Int.mul_comm] at this
  omega
/-! ### The loop that mends a trial: what holds at each round's head, and what it leaves -/

/-- At a round's head. -/
def Tr (un u1 y1 y0 q r : Int) : Prop := un = q * y1 + r ∧ 0 ≤ r ∧ r < 4294967296 ∧ 0 ≤ q ∧ q < 18446744073709551616 ∧ (un * 4294967296 + u1) / (y1 * 4294967296 + y0) ≤ q

theorem Tr.first {un u1 y1 y0 : Int} (hy0 : 0 ≤ y0) (hy1 : 2147483648 ≤ y1) (hy1' : y1 < 4294967296) (hun : 0 ≤ un) (hun' : un < 18446744073709551616) (hu1' : u1 < 4294967296) :
    Tr un u1 y1 y0 (un / y1) (un - un / y1 * y1) := by
  have h1 := Int.mul_ediv_add_emod un y1
  have h2 := Int.emod_lt_of_pos un (show 0 < y1 by omega)
  have h3 := Int.emod_nonneg un (show y1 ≠ 0 by omega)
  have h4 : un / y1 ≤ un := Int.ediv_le_self _ hun
  rw [Int.mul_comm] at h1
  exact ⟨by omega, by omega, by omega, Int.ediv_nonneg hun (by omega), by omega, first_ge hy0 (by omega) hun hu1'⟩

/-- The test says no: it is the quotient. -/
theorem Tr.stop {un u1 y1 y0 q r : Int} (hy0 : 0 ≤ y0) (hy1 : 1 ≤ y1) (h : Tr un u1 y1 y0 q r) (hle : q * y0 ≤ 4294967296 * r + u1) : (un * 4294967296 + u1) / (y1 * 4294967296 + y0) = q :=
  just hy0 hy1 h.1 h.2.2.2.2.2 (by omega)

/-- The test says yes: one less, and a greater rest; q y0 of a word. -/
theorem Tr.less {un u1 y1 y0 q r : Int} (hy0 : 0 ≤ y0) (hy1 : 2147483648 ≤ y1) (hun0 : 0 ≤ un) (hu1 : 0 ≤ u1) (hu1' : u1 < 4294967296) (hun : un < y1 * 4294967296 + y0) (h : Tr un u1 y1 y0 q r)
    (ht : 4294967296 ≤ q ∨ 4294967296 * r + u1 < q * y0) : 1 ≤ q ∧ un = (q - 1) * y1 + (r + y1) ∧ (un * 4294967296 + u1) / (y1 * 4294967296 + y0) ≤ q - 1 := by
  have hg := too_great hy0 (by omega) h.1 hu1 hu1' hun (by omega)
  have h0 : 0 ≤ (un * 4294967296 + u1) / (y1 * 4294967296 + y0) := Int.ediv_nonneg (by omega) (by omega)
  refine ⟨by omega, ?_, hg⟩
  have := h.1
  rw [Int.sub_mul, Int.one_mul]
  omega

theorem Tr.next {un u1 y1 y0 q r : Int} (hy1 : 2147483648 ≤ y1) (h : Tr un u1 y1 y0 q r) (hl : 1 ≤ q ∧ un = (q - 1) * y1 + (r + y1) ∧ (un * 4294967296 + u1) / (y1 * 4294967296 + y0) ≤ q - 1)
    (hr : r + y1 < 4294967296) : Tr un u1 y1 y0 (q - 1) (r + y1) := by
  obtain ⟨_, h2, h3, h4, h5, _⟩ := h
  exact ⟨hl.2.1, by omega, hr, by omega, by omega, hl.2.2⟩

theorem Tr.out {un u1 y1 y0 q r : Int} (hy0 : 0 ≤ y0) (hy0' : y0 < 4294967296) (hy1 : 2147483648 ≤ y1) (hu1 : 0 ≤ u1) (hun : un < y1 * 4294967296 + y0)
    (hl : 1 ≤ q ∧ un = (q - 1) * y1 + (r + y1) ∧ (un * 4294967296 + u1) / (y1 * 4294967296 + y0) ≤ q - 1) (hr : 4294967296 ≤ r + y1) :
    (un * 4294967296 + u1) / (y1 * 4294967296 + y0) = q - 1 :=
  just hy0 (by omega) hl.2.1 hl.2.2 (breaks hy0 hy0' (by omega) hl.2.1 (by omega) hu1 hr hun)

theorem word_mul {q y : Int} (q0 : 0 ≤ q) (q1 : q < 4294967296) (y0 : 0 ≤ y) (y1 : y < 4294967296) : 0 ≤ q * y ∧ q * y ≤ 18446744065119617025 := by
  refine ⟨Int.mul_nonneg q0 y0, ?_⟩
  have h1 := Int.mul_le_mul_of_nonneg_left (show y ≤ 4294967295 by omega) q0
  omega
/-- What a round of division leaves. -/
theorem leaves {un u1 Y Q : Int} (hY : 0 < Y) (hun0 : 0 ≤ un) (hun : un < Y) (hu1 : 0 ≤ u1) (hu1' : u1 < 4294967296) (h : (un * 4294967296 + u1) / Y = Q) :
    0 ≤ Q ∧ Q < 4294967296 ∧ (un * 4294967296 + u1) % Y = un * 4294967296 + u1 - Q * Y ∧ 0 ≤ un * 4294967296 + u1 - Q * Y ∧ un * 4294967296 + u1 - Q * Y < Y := by
  have e := rest_eq h
  have e0 := Int.emod_nonneg (un * 4294967296 + u1) (show Y ≠ 0 by omega)
  have e1 := Int.emod_lt_of_pos (un * 4294967296 + u1) hY
  refine ⟨?_, ?_, e.symm, by omega, by omega⟩
  · rw [← h]; exact Int.ediv_nonneg (by omega) (by omega)
  · rw [← h]; exact Int.ediv_lt_of_lt_mul hY (by omega)
end Go.Proofs.YtoboecenlangmaaGreat.Dv
end
section
namespace Go.Proofs.YtoboecenlangmaaGreat.Dv

theorem len_spec (y : Nat) (h0 : y ≠ 0) (h1 : y < 18446744073709551616) : 1 ≤ Lib.bitLen y ∧ Lib.bitLen y ≤ 64 ∧ 2 ^ (Lib.bitLen y - 1) ≤ y ∧ y < 2 ^ Lib.bitLen y := by
  obtain ⟨a, b, c⟩ := Lib.bitLenAux_bounds 64 y (by simpa using h1) h0
  refine ⟨a, ?_, b, c⟩
  unfold Lib.bitLen
  rcases Nat.lt_or_ge 64 (Lib.bitLenAux 64 y) with h | h
  · have : 2 ^ 64 ≤ 2 ^ (Lib.bitLenAux 64 y - 1) := Nat.pow_le_pow_right (by omega) (by omega)
    omega
  · exact h

theorem pow_join {s : Nat} (h : s ≤ 64) : 2 ^ (64 - s) * 2 ^ s = 18446744073709551616 := by
  rw [← Nat.pow_add, Nat.sub_add_cancel h]

theorem norm {y s : Nat} (h0 : y ≠ 0) (h1 : y < 18446744073709551616) (hs : s + Lib.bitLen y = 64) : 9223372036854775808 ≤ y * 2 ^ s ∧ y * 2 ^ s < 18446744073709551616 := by
  obtain ⟨a, b, c, d⟩ := len_spec y h0 h1
  have e1 : 2 ^ (Lib.bitLen y - 1) * 2 ^ s = 9223372036854775808 := by rw [← Nat.pow_add, show Lib.bitLen y - 1 + s = 63 by omega]
  have e2 : 2 ^ Lib.bitLen y * 2 ^ s = 18446744073709551616 := by rw [← Nat.pow_add, show Lib.bitLen y + s = 64 by omega]
  have hp : 0 < 2 ^ s := Nat.two_pow_pos s
  refine ⟨?_, ?_⟩
  · rw [← e1]; exact Nat.mul_le_mul_right _ c
  · rw [← e2]; exact Nat.mul_lt_mul_of_pos_right d hp

theorem low_split {lo s : Nat} (hs : s ≤ 64) : lo * 2 ^ s = lo / 2 ^ (64 - s) * 18446744073709551616 + lo * 2 ^ s % 18446744073709551616 := by
  have h := Nat.mul_div_mul_right lo (2 ^ (64 - s)) (Nat.two_pow_pos s)
  rw [pow_join hs] at h
  rw [← h]
  omega

theorem low_lt {lo s : Nat} (hl : lo < 18446744073709551616) (hs : s ≤ 64) : lo / 2 ^ (64 - s) < 2 ^ s := by
  rw [Nat.div_lt_iff_lt_mul (Nat.two_pow_pos _), Nat.mul_comm, pow_join hs]
  exact hl

/-- The upper word, shifted. -/
theorem upper {hi lo y s : Nat} (hl : lo < 18446744073709551616) (hh : hi < y) (hs : s ≤ 64) :
    (hi * 2 ^ s + lo / 2 ^ (64 - s)) * 18446744073709551616 + lo * 2 ^ s % 18446744073709551616 = (hi * 18446744073709551616 + lo) * 2 ^ s ∧ hi * 2 ^ s + lo / 2 ^ (64 - s) < y * 2 ^ s := by
  have e := low_split (lo := lo) hs
  have l := low_lt hl hs
  refine ⟨?_, ?_⟩
  · rw [Nat.add_mul (hi * 18446744073709551616) lo, Nat.add_mul, Nat.mul_right_comm hi]
    omega
  · have h1 : (hi + 1) * 2 ^ s ≤ y * 2 ^ s := Nat.mul_le_mul_right _ hh
    rw [Nat.add_mul, Nat.one_mul] at h1
    omega

theorem or_join {hi lo s : Nat} (hl : lo < 18446744073709551616) (hs : s ≤ 64) : hi * 2 ^ s ||| lo / 2 ^ (64 - s) = hi * 2 ^ s + lo / 2 ^ (64 - s) :=
  nat_join s _ _ (Nat.mul_mod_left _ _) (low_lt hl hs)

/-- Both halves together. -/
theorem whole {un u1 u0 y Q1 R1 : Int} (hy : 0 < y) (h1 : (un * 4294967296 + u1) / y = Q1) (h2 : (un * 4294967296 + u1) % y = R1) :
    (un * 18446744073709551616 + (u1 * 4294967296 + u0)) / y = Q1 * 4294967296 + (R1 * 4294967296 + u0) / y ∧ (un * 18446744073709551616 + (u1 * 4294967296 + u0)) % y = (R1 * 4294967296 + u0) % y := by
  have e := Int.mul_ediv_add_emod (un * 4294967296 + u1) y
  rw [h1, h2] at e
  have hx : un * 18446744073709551616 + (u1 * 4294967296 + u0) = (R1 * 4294967296 + u0) + y * (Q1 * 4294967296) := by
    rw [← Int.mul_assoc]
    omega
  rw [hx, Int.add_mul_ediv_left _ _ (by omega), Int.add_mul_emod_self_left]
  exact ⟨by omega, rfl⟩

/-- Shifted back. -/
theorem back {X y p : Int} (hp : 0 < p) : X * p / (y * p) = X / y ∧ X * p % (y * p) / p = X % y := by
  refine ⟨Int.mul_ediv_mul_of_pos_left _ _ hp, ?_⟩
  have h : X * p % (y * p) = X % y * p := by
    rw [Int.emod_def, Int.emod_def, Int.mul_ediv_mul_of_pos_left _ _ hp, Int.sub_mul, Int.mul_right_comm y p]
  rw [h, Int.mul_ediv_cancel _ (by omega)]

/-- A word's worth of a difference that fits in one word. -/
theorem wrap_diff (a b P : Int) (h0 : 0 ≤ a * 4294967296 + b - P) (h1 : a * 4294967296 + b - P ≤ 18446744073709551615) :
    IntKind.u64.wrap (IntKind.u64.wrap (IntKind.u64.wrap (a * 4294967296) + b) - IntKind.u64.wrap P) = a * 4294967296 + b - P := by
  have e : ∀ n : Int, IntKind.u64.wrap n = n % 18446744073709551616 := fun n => by simp [IntKind.wrap, IntKind.bits, IntKind.signed]
  rw [e, e, e, e]
  omega
theorem u64_wrap (n : Int) : IntKind.u64.wrap n = n % 18446744073709551616 := by simp [IntKind.wrap, IntKind.bits, IntKind.signed]
theorem low_mask (Y : Nat) (h : Y < 18446744073709551616) : bits .and .u64 (Y : Int) 4294967295 = ((Y % 4294967296 : Nat) : Int) := by
  have h1 := u64_and_nat Y 4294967295 h (by omega)
  rw [show (Y &&& 4294967295) = Y % 4294967296 from Nat.and_two_pow_sub_one_eq_mod Y 32] at h1
  exact h1
/-- What Div64's first lines make: letters for each word, and what is known of them. -/
theorem laid {hi lo y s : Nat} (hl1 : lo < 18446744073709551616) (hh0 : 1 ≤ hi) (hhy : hi < y) (hy1 : y < 18446744073709551616) (hs : s + Lib.bitLen y = 64) (hs63 : s ≤ 63) :
    ∃ Y y1 y0 un lw u1 u0 : Int, IntKind.u64.wrap ((y : Int) * 2 ^ s) = Y ∧ Y / 4294967296 = y1 ∧ bits .and .u64 Y 4294967295 = y0 ∧
      bits .or .u64 (IntKind.u64.wrap ((hi : Int) * 2 ^ s)) ((lo : Int) / 2 ^ (64 - s)) = un ∧ IntKind.u64.wrap ((lo : Int) * 2 ^ s) = lw ∧ lw / 4294967296 = u1 ∧ bits .and .u64 lw 4294967295 = u0 ∧
      Y = y1 * 4294967296 + y0 ∧ 2147483648 ≤ y1 ∧ y1 < 4294967296 ∧ 0 ≤ y0 ∧ y0 < 4294967296 ∧ lw = u1 * 4294967296 + u0 ∧ 0 ≤ u1 ∧ u1 < 4294967296 ∧ 0 ≤ u0 ∧ u0 < 4294967296 ∧ 0 ≤ un ∧ un < Y ∧
      un * 18446744073709551616 + lw = ((hi : Int) * 18446744073709551616 + lo) * 2 ^ s ∧ Y = y * 2 ^ s := by
  obtain ⟨y63, y64⟩ := norm (by omega) hy1 hs
  obtain ⟨hU, hlt⟩ := upper hl1 hhy (show s ≤ 64 by omega)
  have hor := or_join (hi := hi) hl1 (show s ≤ 64 by omega)
  have hh64 : hi * 2 ^ s < 18446744073709551616 := Nat.lt_of_le_of_lt (Nat.le_add_right _ _) (Nat.lt_trans hlt y64)
  have hl64 : lo / 2 ^ (64 - s) < 18446744073709551616 := Nat.lt_of_le_of_lt (Nat.div_le_self _ _) hl1
  have small : ∀ n : Nat, n < 18446744073709551616 → IntKind.u64.wrap (n : Int) = n := fun n hn => by rw [u64_wrap]; omega
  have hY : IntKind.u64.wrap ((y : Int) * 2 ^ s) = ((y * 2 ^ s : Nat) : Int) := by
    rw [show (y : Int) * 2 ^ s = ((y * 2 ^ s : Nat) : Int) by push_cast; rfl]
    exact small _ y64
  have hH : IntKind.u64.wrap ((hi : Int) * 2 ^ s) = ((hi * 2 ^ s : Nat) : Int) := by
    rw [show (hi : Int) * 2 ^ s = ((hi * 2 ^ s : Nat) : Int) by push_cast; rfl]
    exact small _ hh64
  have hL : IntKind.u64.wrap ((lo : Int) * 2 ^ s) = ((lo * 2 ^ s % 18446744073709551616 : Nat) : Int) := by
    rw [u64_wrap, show (lo : Int) * 2 ^ s = ((lo * 2 ^ s : Nat) : Int) by push_cast; rfl]
    exact (Int.natCast_emod _ _).symm
  have hO : bits .or .u64 (IntKind.u64.wrap ((hi : Int) * 2 ^ s)) ((lo : Int) / 2 ^ (64 - s)) = ((hi * 2 ^ s + lo / 2 ^ (64 - s) : Nat) : Int) := by
    rw [hH, show (lo : Int) / 2 ^ (64 - s) = ((lo / 2 ^ (64 - s) : Nat) : Int) by push_cast; rfl, u64_or_nat _ _ hh64 hl64, hor]
  have hU' : ((hi * 2 ^ s + lo / 2 ^ (64 - s) : Nat) : Int) * 18446744073709551616 + ((lo * 2 ^ s % 18446744073709551616 : Nat) : Int) = ((hi : Int) * 18446744073709551616 + lo) * 2 ^ s := by
    have := congrArg (fun n : Nat => (n : Int)) hU
    simpa using this
  have hYc : ((y * 2 ^ s : Nat) : Int) = (y : Int) * 2 ^ s := by push_cast; rfl
  generalize hYg : y * 2 ^ s = Y at *
  generalize hi * 2 ^ s + lo / 2 ^ (64 - s) = un at *
  generalize hLg : lo * 2 ^ s % 18446744073709551616 = lw at *
  have hlw64 : lw < 18446744073709551616 := by rw [← hLg]; exact Nat.mod_lt _ (by omega)
  refine ⟨Y, Y / 4294967296, ((Y % 4294967296 : Nat) : Int), un, lw, lw / 4294967296, ((lw % 4294967296 : Nat) : Int), hY, rfl, low_mask Y y64, hO, hL, rfl, low_mask lw hlw64, ?_⟩
  refine ⟨by omega, by omega, by omega, by omega, by omega, by omega, by omega, by omega, by omega, by omega, by omega, by omega, hU', hYc⟩
end Go.Proofs.YtoboecenlangmaaGreat.Dv
end
section
namespace Go.Proofs.YtoboecenlangmaaGreat.Dv
open Go.ChangeShapes Go.WideShapes Go.ChangeAt Go.RowKit

theorem ret_two' {k l : IntKind} {a b c d : Int} (h : a = b) (h' : c = d) : Ending.returned (.tuple #[.int k a, .int l c]) = .returned (.tuple #[.int k b, .int l d]) := by rw [h, h']

set_option maxHeartbeats 1000000 in
theorem div_small (lo y : Int) (w : World) (hl0 : 0 ≤ lo) (hl1 : lo ≤ 18446744073709551615) (hy0 : 1 ≤ y) (hy1 : y ≤ 18446744073709551615) :
    Calls Tryz.prog 191 #[.int .u64 0, .int .u64 lo, .int .u64 y] w fun e w' => e = .returned (.tuple #[.int .u64 (lo / y), .int .u64 (lo % y)]) ∧ ∃ n, w' = w.drewN n := by
  go_enter Tryz.func191, Tryz.ntmps191
  go_wp2_with fail
  go_quiet (fail)
  go_wp2
  go_ret2
  exact ⟨rfl, _, rfl⟩

/-- Leading zeros, as a shift that brings y up to a full word. -/
theorem lead (y : Nat) (h0 : y ≠ 0) (h1 : y < 18446744073709551616) : ∃ s : Nat, s + Lib.bitLen y = 64 ∧ s ≤ 63 ∧ ∀ w : World,
    Calls Tryz.prog 193 #[.int .u64 y] w fun e w' => e = .returned (.int .i64 s) ∧ w = w' := by
  obtain ⟨a, b, _, _⟩ := len_spec y h0 h1
  refine ⟨64 - Lib.bitLen y, by omega, by omega, fun w => (Tryz.bits_LeadingZeros64 y w (by omega) (by omega)).mono fun e w' h => ⟨?_, h.2.symm⟩⟩
  rw [h.1, Int.toNat_natCast]
  congr 2
  omega

set_option maxHeartbeats 1000000 in
theorem div_great (hi lo y : Nat) (w : World) (hl1 : lo < 18446744073709551616) (hh0 : 1 ≤ hi) (hhy : hi < y) (hy1 : y < 18446744073709551616) :
    Calls Tryz.prog 191 #[.int .u64 hi, .int .u64 lo, .int .u64 y] w fun e w' => e = .returned (.tuple #[.int .u64 (((hi : Int) * 18446744073709551616 + lo) / y), .int .u64 (((hi : Int) * 18446744073709551616 + lo) % y)]) ∧ w = w' := by
  obtain ⟨s, hs, hs63, hlz⟩ := lead y (by omega) hy1
  obtain ⟨Y, y1, y0, un, lw, u1, u0, eY, ey1, ey0, eun, elw, eu1, eu0, fY, y1a, y1b, y0a, y0b, flw, u1a, u1b, u0a, u0b, una, unb, fU, fYs⟩ := laid hl1 hh0 hhy hy1 hs hs63
  have hmin : min s 64 = s := by omega
  have HLZ := Lib.hid hlz
  have FU := Lib.hid fU
  have FYS := Lib.hid fYs
  have FY := Lib.hid fY
  have FLW := Lib.hid flw
  clear hlz fU fYs fY flw hs
  have Ya : 1 ≤ Y := by have := FY.out; omega
  have Yb : Y ≤ 18446744073709551615 := by have := FY.out; omega
  have d1 : IntKind.u64.wrap (un.tdiv y1) = un / y1 := by
    rw [IntWalk.u64_quo _ _ ⟨una, by omega, by omega⟩]
  have q0 : 0 ≤ un / y1 := Int.ediv_nonneg una (by omega)
  have p0 : 0 ≤ un / y1 * y1 := Int.mul_nonneg q0 (by omega)
  have p1 : un / y1 * y1 ≤ un := Int.ediv_mul_le _ (by omega)
  go_enter Tryz.func191, Tryz.ntmps191
  go_upto_block 0 with (go_at_call 193; refine (HLZ.out _).mono ?_; rintro e w' ⟨rfl, rfl⟩)
  go_cut [15, 16] (fun v15 v16 wx => (∃ Q1 : Int, v15 = .int .u64 Q1 ∧ (un * 4294967296 + u1) / (y1 * 4294967296 + y0) = Q1) ∧ (∃ z : Int, v16 = .int .u64 z) ∧ w = wx)
  case first =>
    go_wp2_with fail
    go_loop [15, 16] (fun q r => ∃ a b : Int, q = .int .u64 a ∧ r = .int .u64 b ∧ Tr un u1 y1 y0 a b) (fun q _ => (intOf q).toNat)
    case atStart => exact ⟨_, _, rfl, rfl, Tr.first y0a y1a y1b una (by omega) u1b⟩
    case round =>
      obtain ⟨q, r, rfl, rfl, hT⟩ := hrel
      have hr0 : 0 ≤ r := hT.2.1
      have hr1 : r < 4294967296 := hT.2.2.1
      have hq0 : 0 ≤ q := hT.2.2.2.1
      have hq1 : q < 18446744073709551616 := hT.2.2.2.2.1
      have hun' : un < y1 * 4294967296 + y0 := by have := FY.out; omega
      by_cases hq : 4294967296 ≤ q
      · have hl := Tr.less y0a y1a una u1a u1b hun' hT (.inl hq)
        have HL := Lib.hid hl
        have HT := Lib.hid hT
        have hl1 := hl.1
        clear hl hT d1 q0 p0 p1
        go_wp2_with fail
        · have hx : 4294967296 ≤ r + y1 := by assumption
          go_meet
          exact ⟨⟨_, rfl, Tr.out y0a y0b y1a u1a hun' HL.out hx⟩, ⟨_, rfl⟩, rfl⟩
        · have hx : r + y1 < 4294967296 := by assumption
          go_round
          case rel => exact ⟨_, _, rfl, rfl, Tr.next y1a HT.out HL.out hx⟩
          case measure => simp [intOf]; omega
      · obtain ⟨m0, m1⟩ := word_mul hq0 (by omega) y0a y0b
        by_cases hm : 4294967296 * r + u1 < q * y0
        · have hl := Tr.less y0a y1a una u1a u1b hun' hT (.inr hm)
          have HL := Lib.hid hl
          have HT := Lib.hid hT
          have hl1 := hl.1
          clear hl hT d1 q0 p0 p1
          go_wp2_with fail
          · have hx : 4294967296 ≤ r + y1 := by assumption
            go_meet
            exact ⟨⟨_, rfl, Tr.out y0a y0b y1a u1a hun' HL.out hx⟩, ⟨_, rfl⟩, rfl⟩
          · have hx : r + y1 < 4294967296 := by assumption
            go_round
            case rel => exact ⟨_, _, rfl, rfl, Tr.next y1a HT.out HL.out hx⟩
            case measure => simp [intOf]; omega
        · have hs := Tr.stop y0a (by omega) hT (by omega)
          have HS := Lib.hid hs
          clear hs hT d1 q0 p0 p1
          go_wp2_with fail
          go_meet
          exact ⟨⟨_, rfl, HS.out⟩, ⟨_, rfl⟩, rfl⟩
  case rest =>
    obtain ⟨⟨Q1, rfl, hQ1⟩, ⟨z, rfl⟩, rfl⟩ := hcut
    rw [← FY.out] at hQ1
    obtain ⟨Qa, Qb, eR, Ra, Rb⟩ := leaves (by omega) una unb u1a u1b hQ1
    have eW := wrap_diff un u1 (Q1 * Y) Ra (by omega)
    rw [← eR] at eW Ra Rb
    have HQ1 := Lib.hid hQ1
    clear d1 q0 p0 p1 hQ1 eR
    generalize hR1 : (un * 4294967296 + u1) % Y = R1 at *
    have HR1 := Lib.hid hR1
    clear hR1
    have d1 : IntKind.u64.wrap (R1.tdiv y1) = R1 / y1 := by
      rw [IntWalk.u64_quo _ _ ⟨Ra, by omega, by omega⟩]
    have q0 : 0 ≤ R1 / y1 := Int.ediv_nonneg Ra (by omega)
    have p0 : 0 ≤ R1 / y1 * y1 := Int.mul_nonneg q0 (by omega)
    have p1 : R1 / y1 * y1 ≤ R1 := Int.ediv_mul_le _ (by omega)
    go_upto_block 2 with fail
    go_cut [18, 16] (fun v18 v16 wx => (∃ Q0 : Int, v18 = .int .u64 Q0 ∧ (R1 * 4294967296 + u0) / (y1 * 4294967296 + y0) = Q0) ∧ (∃ z : Int, v16 = .int .u64 z) ∧ w = wx)
    case first =>
      go_wp2_with fail
      go_loop [18, 16] (fun q r => ∃ a b : Int, q = .int .u64 a ∧ r = .int .u64 b ∧ Tr R1 u0 y1 y0 a b) (fun q _ => (intOf q).toNat)
      case atStart => exact ⟨_, _, rfl, rfl, Tr.first y0a y1a y1b Ra (by omega) u0b⟩
      case round =>
        obtain ⟨q, r, rfl, rfl, hT⟩ := hrel
        have hr0 : 0 ≤ r := hT.2.1
        have hr1 : r < 4294967296 := hT.2.2.1
        have hq0 : 0 ≤ q := hT.2.2.2.1
        have hq1 : q < 18446744073709551616 := hT.2.2.2.2.1
        have hun' : R1 < y1 * 4294967296 + y0 := by have := FY.out; omega
        by_cases hq : 4294967296 ≤ q
        · have hl := Tr.less y0a y1a Ra u0a u0b hun' hT (.inl hq)
          have HL := Lib.hid hl
          have HT := Lib.hid hT
          have hl1 := hl.1
          clear hl hT d1 q0 p0 p1
          go_wp2_with fail
          · have hx : 4294967296 ≤ r + y1 := by assumption
            go_meet
            exact ⟨⟨_, rfl, Tr.out y0a y0b y1a u0a hun' HL.out hx⟩, ⟨_, rfl⟩, rfl⟩
          · have hx : r + y1 < 4294967296 := by assumption
            go_round
            case rel => exact ⟨_, _, rfl, rfl, Tr.next y1a HT.out HL.out hx⟩
            case measure => simp [intOf]; omega
        · obtain ⟨m0, m1⟩ := word_mul hq0 (by omega) y0a y0b
          by_cases hm : 4294967296 * r + u0 < q * y0
          · have hl := Tr.less y0a y1a Ra u0a u0b hun' hT (.inr hm)
            have HL := Lib.hid hl
            have HT := Lib.hid hT
            have hl1 := hl.1
            clear hl hT d1 q0 p0 p1
            go_wp2_with fail
            · have hx : 4294967296 ≤ r + y1 := by assumption
              go_meet
              exact ⟨⟨_, rfl, Tr.out y0a y0b y1a u0a hun' HL.out hx⟩, ⟨_, rfl⟩, rfl⟩
            · have hx : r + y1 < 4294967296 := by assumption
              go_round
              case rel => exact ⟨_, _, rfl, rfl, Tr.next y1a HT.out HL.out hx⟩
              case measure => simp [intOf]; omega
          · have hs := Tr.stop y0a (by omega) hT (by omega)
            have HS := Lib.hid hs
            clear hs hT d1 q0 p0 p1
            go_wp2_with fail
            go_meet
            exact ⟨⟨_, rfl, HS.out⟩, ⟨_, rfl⟩, rfl⟩
    case rest =>
      obtain ⟨⟨Q0, rfl, hQ0⟩, ⟨z, rfl⟩, rfl⟩ := hcut
      rw [← FY.out] at hQ0
      obtain ⟨Q0a, Q0b, eR0, R0a, R0b⟩ := leaves (by omega) Ra Rb u0a u0b hQ0
      have eW0 := wrap_diff R1 u0 (Q0 * Y) R0a (by omega)
      rw [← eR0] at eW0
      obtain ⟨w1, w2⟩ := whole (u0 := u0) (y := Y) (by omega) HQ1.out HR1.out
      rw [← FLW.out, FU.out, FYS.out] at w1 w2
      have hp : (0 : Int) < 2 ^ s := Int.pow_pos (by omega)
      obtain ⟨b1, b2⟩ := back (X := (hi : Int) * 18446744073709551616 + lo) (y := y) hp
      rw [w2] at b2
      rw [w1] at b1
      rw [← FYS.out] at b1 b2
      rw [hQ0] at b1
      have B1 := Lib.hid b1
      have B2 := Lib.hid b2
      clear b1 b2 w1 w2 hQ0 eR0 d1 q0 p0 p1
      go_wp2
      go_ret2
      exact ⟨ret_two' B1.out B2.out, rfl⟩
/-- Div64, in letters. -/
theorem div_any (hi lo y : Nat) (hl1 : lo < 18446744073709551616) (hhy : hi < y) (hy1 : y < 18446744073709551616) :
    ∃ Q R : Nat, (hi * 18446744073709551616 + lo) / y = Q ∧ (hi * 18446744073709551616 + lo) % y = R ∧ ∀ w : World,
      Calls Tryz.prog 191 #[.int .u64 hi, .int .u64 lo, .int .u64 y] w fun e w' => e = .returned (.tuple #[.int .u64 Q, .int .u64 R]) ∧ ∃ n, w' = w.drewN n := by
  refine ⟨_, _, rfl, rfl, fun w => ?_⟩
  rcases Nat.eq_zero_or_pos hi with h | h
  · subst h
    refine (div_small lo y w (by omega) (by omega) (by omega) (by omega)).mono fun e w' h => ⟨?_, h.2⟩
    rw [h.1]
    simp
  · refine (div_great hi lo y w hl1 h hhy hy1).mono fun e w' h => ⟨?_, 0, h.2.symm⟩
    rw [h.1]
    simp

/-- Mul64, in letters. -/
theorem mul_any (x y : Nat) (hx : x < 18446744073709551616) (hy : y < 18446744073709551616) :
    ∃ H L : Nat, H * 18446744073709551616 + L = x * y ∧ L < 18446744073709551616 ∧ ∀ w : World,
      Calls Tryz.prog 190 #[.int .u64 x, .int .u64 y] w fun e w' => e = .returned (.tuple #[.int .u64 H, .int .u64 L]) ∧ w = w' :=
  ⟨x * y / 18446744073709551616, x * y % 18446744073709551616, by omega, by omega, fun w => (Tryz.bits_Mul64 x y hx hy w).mono fun _ _ h => ⟨h.1, h.2.symm⟩⟩
end Go.Proofs.YtoboecenlangmaaGreat.Dv
end
section
namespace Go.Proofs.YtoboecenlangmaaGreat.Gl
open Go.ChangeShapes Go.WideShapes Go.ChangeAt Go.RowKit

def RoundIs (p d : Int) (e : Ending) : Prop := if pOk p d = true then e = .returned (.tuple #[.int .i64 (pq p d), .bool true]) else ∃ v, e = .returned (.tuple #[.int .i64 v, .bool false])
theorem RoundIs.yes {p d a : Int} {b : Bool} (h : pOk p d = true) (ha : a = pq p d) (hb : b = true) : RoundIs p d (.returned (.tuple #[.int .i64 a, .bool b])) := by
  unfold RoundIs; rw [if_pos h, ha, hb]
theorem RoundIs.no {p d a : Int} {b : Bool} (h : pOk p d = false) (hb : b = false) : RoundIs p d (.returned (.tuple #[.int .i64 a, .bool b])) := by
  unfold RoundIs; rw [if_neg (by simp [h]), hb]; exact ⟨_, rfl⟩

/-- glue.round, wrap and all. -/
theorem round_any (N S D : Nat) (hN : N ≤ 70368744177664) (hS : S ≤ 70368744177664) (hD0 : 0 < D) (hD : D ≤ 70368744177664) (w : World) :
    Calls Tryz.prog 184 #[.int .i64 N, .int .i64 S, .int .i64 D] w fun e w' => RoundIs ((N : Int) * S) D e ∧ ∃ n, w' = w.drewN n := by
  obtain ⟨H, L, hHL, hL, hmul⟩ := Dv.mul_any N S (by omega) (by omega)
  have HM := Lib.hid hmul
  clear hmul
  have hHLi : (H : Int) * 18446744073709551616 + L = (N : Int) * S := by
    have h := congrArg (fun n : Nat => (n : Int)) hHL
    rw [← Int.natCast_mul, ← h]
    omega
  by_cases hDH : D ≤ H
  · have hfar : pOk ((N : Int) * S) D = false := by
      refine pOk_far (Int.le_ediv_of_mul_le (by omega) ?_)
      rw [W64_eq]
      omega
    have HF := Lib.hid hfar
    have HH := Lib.hid hHL
    clear hHL hHLi hfar
    go_enter Tryz.func184, Tryz.ntmps184
    go_wp2_with (go_at_call 190; refine (HM.out _).mono ?_; rintro e w' ⟨rfl, rfl⟩)
    go_ret2
    exact ⟨.no HF.out rfl, 0, rfl⟩
  · obtain ⟨Q, R, hQ, hR, hdiv⟩ := Dv.div_any H L D hL (by omega) (by omega)
    rw [hHL] at hQ hR
    have hQi : (N : Int) * S / D = Q := by rw [← hQ]; push_cast; rfl
    have hRi : (N : Int) * S % D = R := by rw [← hR]; push_cast; rfl
    have hRD : R < D := by rw [← hR]; exact Nat.mod_lt _ hD0
    have hQu : (Q : Int) < 18446744073709551616 := by
      rw [← hQi]
      exact Int.ediv_lt_of_lt_mul (by omega) (by omega)
    have hP := pOk_near (p := (N : Int) * S) (d := D) (by rw [hQi, W64_eq]; exact hQu)
    have HD := Lib.hid hdiv
    have HH := Lib.hid hHL
    have hQu' : (Q : Int) ≤ 18446744073709551615 := by omega
    have hL' : L ≤ 18446744073709551615 := by omega
    clear hdiv hHL hHLi hQ hR hQu hL
    by_cases hup : D - R ≤ R
    · have hr := pq_up (p := (N : Int) * S) (d := D) (by rw [hRi]; omega)
      rw [W64_eq] at hr
      have e1 : IntKind.u64.wrap ((Q : Int) + 1) = ((Q : Int) + 1) % 18446744073709551616 := Dv.u64_wrap _
      rw [hQi] at hr
      have v0 := Int.emod_nonneg ((Q : Int) + 1) (show (18446744073709551616 : Int) ≠ 0 by omega)
      have v1 : ((Q : Int) + 1) % 18446744073709551616 ≤ 18446744073709551615 := by omega
      rw [hr] at hP
      generalize ((Q : Int) + 1) % 18446744073709551616 = V at *
      have HR' := Lib.hid hr
      have HP' := Lib.hid hP
      clear hr hP hQi hRi
      by_cases hfit : V ≤ 70368744177664
      · go_enter Tryz.func184, Tryz.ntmps184
        go_wp2_with (first | (go_at_call 190; refine (HM.out _).mono ?_; rintro e w' ⟨rfl, rfl⟩) | (go_at_call 191; refine (HD.out _).mono ?_; rintro e w' ⟨rfl, n, rfl⟩))
        go_ret2
        exact ⟨.yes (by rw [HP'.out]; exact decide_eq_true hfit) (by rw [HR'.out]) rfl, _, rfl⟩
      · go_enter Tryz.func184, Tryz.ntmps184
        go_wp2_with (first | (go_at_call 190; refine (HM.out _).mono ?_; rintro e w' ⟨rfl, rfl⟩) | (go_at_call 191; refine (HD.out _).mono ?_; rintro e w' ⟨rfl, n, rfl⟩))
        go_ret2
        exact ⟨.no (by rw [HP'.out]; exact decide_eq_false (by omega)) (decide_eq_false (by omega)), _, rfl⟩
    · have hr := pq_down (p := (N : Int) * S) (d := D) (by rw [hRi]; omega)
      rw [hQi] at hr
      rw [hr] at hP
      have HR' := Lib.hid hr
      have HP' := Lib.hid hP
      clear hr hP hQi hRi
      by_cases hfit : (Q : Int) ≤ 70368744177664
      · go_enter Tryz.func184, Tryz.ntmps184
        go_wp2_with (first | (go_at_call 190; refine (HM.out _).mono ?_; rintro e w' ⟨rfl, rfl⟩) | (go_at_call 191; refine (HD.out _).mono ?_; rintro e w' ⟨rfl, n, rfl⟩))
        go_ret2
        exact ⟨.yes (by rw [HP'.out]; exact decide_eq_true hfit) (by rw [HR'.out]) rfl, _, rfl⟩
      · go_enter Tryz.func184, Tryz.ntmps184
        go_wp2_with (first | (go_at_call 190; refine (HM.out _).mono ?_; rintro e w' ⟨rfl, rfl⟩) | (go_at_call 191; refine (HD.out _).mono ?_; rintro e w' ⟨rfl, n, rfl⟩))
        go_ret2
        exact ⟨.no (by rw [HP'.out]; exact decide_eq_false (by omega)) (decide_eq_false (by omega)), _, rfl⟩
theorem share_range (s n d : Int) (w : World) (hok : shOk s n d = false) :
    Calls Tryz.prog 169 #[.int .i64 s, .int .i64 n, .int .i64 d] w fun e w' => e = .returned (.tuple #[.int .i64 0, .int .i64 11]) ∧ w = w' := by
  by_cases hd : d < 1
  · go_enter Tryz.func169, Tryz.ntmps169
    go_wp2_with (first | (go_at_call 150; refine (near_any _ _).mono ?_; rintro e w' ⟨rfl, rfl⟩))
    go_ret2
    exact ⟨rfl, rfl⟩
  · cases hs : nearB s
    · go_enter Tryz.func169, Tryz.ntmps169
      go_wp2_with (first | (go_at_call 150; refine (near_any _ _).mono ?_; rintro e w' ⟨rfl, rfl⟩))
      go_ret2
      exact ⟨rfl, rfl⟩
    · cases hn : nearB n
      · go_enter Tryz.func169, Tryz.ntmps169
        go_wp2_with (first | (go_at_call 150; refine (near_any _ _).mono ?_; rintro e w' ⟨rfl, rfl⟩))
        go_ret2
        exact ⟨rfl, rfl⟩
      · have hd' : nearB d = false := by
          cases hx : nearB d
          · rfl
          · rw [show shOk s n d = true by simp [shOk, hs, hn, hx]; omega] at hok; cases hok
        go_enter Tryz.func169, Tryz.ntmps169
        go_wp2_with (first | (go_at_call 150; refine (near_any _ _).mono ?_; rintro e w' ⟨rfl, rfl⟩))
        go_ret2
        exact ⟨rfl, rfl⟩

/-- What Share hands back, past its tests. -/
def ShareIs (s n d : Int) (e : Ending) : Prop := e = .returned (.tuple #[.int .i64 (psV s n d), .int .i64 (psE s n d)])
theorem ShareIs.far {s n d a b : Int} (hok : shOk s n d = true) (h : pOk (mag n * mag s) d = false) (ha : a = 0) (hb : b = 20) : ShareIs s n d (.returned (.tuple #[.int .i64 a, .int .i64 b])) := by
  have h1 := psE_far hok h
  have h2 : psV s n d = 0 := psV_err (by omega)
  unfold ShareIs; rw [h1, h2, ha, hb]
theorem ShareIs.ok {s n d a b : Int} (hok : shOk s n d = true) (h : pOk (mag n * mag s) d = true) (ha : a = sgn s n * pq (mag n * mag s) d) (hb : b = 0) : ShareIs s n d (.returned (.tuple #[.int .i64 a, .int .i64 b])) := by
  have h1 := psE_ok hok h
  have h2 := psV_ok h1
  unfold ShareIs; rw [h1, h2, ha, hb]

theorem pOk_bd {p d : Int} (h : pOk p d = true) (hp : 0 ≤ p) (hd : 1 ≤ d) : 0 ≤ pq p d ∧ pq p d ≤ 70368744177664 := by
  unfold pOk at h
  simp only [Bool.and_eq_true, decide_eq_true_eq] at h
  refine ⟨?_, h.2⟩
  have h0 : 0 ≤ p / d := Int.ediv_nonneg hp (by omega)
  unfold pq
  split
  · exact Int.emod_nonneg _ (by rw [W64_eq]; omega)
  · exact h0

theorem share_in (s n d : Int) (w : World) (hok : shOk s n d = true) :
    Calls Tryz.prog 169 #[.int .i64 s, .int .i64 n, .int .i64 d] w fun e w' => ShareIs s n d e ∧ ∃ k, w' = w.drewN k := by
  obtain ⟨h1, ⟨s0, s1⟩, ⟨n0, n1⟩, d0, d1⟩ := shOk_iff.1 hok
  have hs := nearB_yes s0 s1
  have hn := nearB_yes n0 n1
  have hd := nearB_yes d0 d1
  have hdd : decide (d < 1) = false := decide_eq_false (by omega)
  obtain ⟨N, hN, hN', hN1⟩ := mag_cast n0 n1
  obtain ⟨S, hS, hS', hS1⟩ := mag_cast s0 s1
  obtain ⟨D, rfl⟩ := Int.eq_ofNat_of_zero_le (show 0 ≤ d by omega)
  have hround := fun w => round_any N S D (by omega) (by omega) (by omega) (by omega) w
  have far := fun a b h => ShareIs.far (a := a) (b := b) hok h
  have fin := fun a b h => ShareIs.ok (a := a) (b := b) hok h
  have hbd := fun h => pOk_bd (p := mag n * mag s) (d := D) h (Int.mul_nonneg (mag_nonneg n) (mag_nonneg s)) (by omega)
  rw [hN, hS] at far fin hbd
  have HR := Lib.hid hround
  have FAR := Lib.hid far
  have FIN := Lib.hid fin
  have HBD := Lib.hid hbd
  clear hround far fin hok hN hS hbd
  cases hp : pOk ((N : Int) * S) D
  · have HP := Lib.hid hp
    clear hp
    go_enter Tryz.func169, Tryz.ntmps169
    go_wp2_with (first | (go_at_call 150; refine (near_any _ _).mono ?_; rintro e w' ⟨rfl, rfl⟩))
    refine (HR.out _).mono ?_
    rintro e w' ⟨hr, k, rfl⟩
    unfold RoundIs at hr
    rw [if_neg (by rw [HP.out]; simp)] at hr
    obtain ⟨v, rfl⟩ := hr
    go_wp2_with fail
    go_ret2
    exact ⟨FAR.out _ _ HP.out rfl rfl, _, rfl⟩
  · obtain ⟨v0, v1⟩ := HBD.out hp
    have HP := Lib.hid hp
    clear hp
    have hsg1 := sgn_mul (s := s) (n := n) (q := pq ((N : Int) * S) D)
    have HSG := Lib.hid hsg1
    clear hsg1
    by_cases hs0 : s < 0
    · have hs0' : decide (s < 0) = true := decide_eq_true hs0
      by_cases hn0 : n < 0
      · have hn0' : decide (n < 0) = true := decide_eq_true hn0
        go_enter Tryz.func169, Tryz.ntmps169
        go_wp2_with (first | (go_at_call 150; refine (near_any _ _).mono ?_; rintro e w' ⟨rfl, rfl⟩))
        refine (HR.out _).mono ?_
        rintro e w' ⟨hr, k, rfl⟩
        unfold RoundIs at hr
        rw [if_pos HP.out] at hr
        subst hr
        go_wp2_with fail
        go_ret2
        exact ⟨FIN.out _ _ HP.out (by rw [← HSG.out]; simp [hs0, hn0]) rfl, _, rfl⟩
      · have hn0' : decide (n < 0) = false := decide_eq_false hn0
        go_enter Tryz.func169, Tryz.ntmps169
        go_wp2_with (first | (go_at_call 150; refine (near_any _ _).mono ?_; rintro e w' ⟨rfl, rfl⟩))
        refine (HR.out _).mono ?_
        rintro e w' ⟨hr, k, rfl⟩
        unfold RoundIs at hr
        rw [if_pos HP.out] at hr
        subst hr
        go_wp2_with fail
        go_ret2
        exact ⟨FIN.out _ _ HP.out (by rw [← HSG.out]; simp [hs0, Int.not_lt.2 hn0]) rfl, _, rfl⟩
    · have hs0' : decide (s < 0) = false := decide_eq_false hs0
      by_cases hn0 : n < 0
      · have hn0' : decide (n < 0) = true := decide_eq_true hn0
        go_enter Tryz.func169, Tryz.ntmps169
        go_wp2_with (first | (go_at_call 150; refine (near_any _ _).mono ?_; rintro e w' ⟨rfl, rfl⟩))
        refine (HR.out _).mono ?_
        rintro e w' ⟨hr, k, rfl⟩
        unfold RoundIs at hr
        rw [if_pos HP.out] at hr
        subst hr
        go_wp2_with fail
        go_ret2
        exact ⟨FIN.out _ _ HP.out (by rw [← HSG.out]; simp [Int.not_lt.2 hs0, hn0]) rfl, _, rfl⟩
      · have hn0' : decide (n < 0) = false := decide_eq_false hn0
        go_enter Tryz.func169, Tryz.ntmps169
        go_wp2_with (first | (go_at_call 150; refine (near_any _ _).mono ?_; rintro e w' ⟨rfl, rfl⟩))
        refine (HR.out _).mono ?_
        rintro e w' ⟨hr, k, rfl⟩
        unfold RoundIs at hr
        rw [if_pos HP.out] at hr
        subst hr
        go_wp2_with fail
        go_ret2
        exact ⟨FIN.out _ _ HP.out (by rw [← HSG.out]; simp [Int.not_lt.2 hs0, Int.not_lt.2 hn0]) rfl, _, rfl⟩

/-- glue.Share: what it answers, wrap and all. -/
theorem share_any (s n d : Int) (w : World) :
    Calls Tryz.prog 169 #[.int .i64 s, .int .i64 n, .int .i64 d] w fun e w' => e = .returned (.tuple #[.int .i64 (psV s n d), .int .i64 (psE s n d)]) ∧ ∃ k, w' = w.drewN k := by
  cases h : shOk s n d
  · refine (share_range s n d w h).mono ?_
    rintro e w' ⟨rfl, rfl⟩
    have h1 := psE_range h
    exact ⟨by rw [h1, psV_err (by omega)], 0, rfl⟩
  · exact share_in s n d w h
end Go.Proofs.YtoboecenlangmaaGreat.Gl
end
section
namespace Go.Proofs.YtoboecenlangmaaGreat.Gl
open Go.ChangeShapes Go.WideShapes Go.ChangeAt Go.RowKit

theorem dimen_any (x : Int) (w : World) :
    Calls Tryz.prog 180 #[.int .i64 x] w fun e w' => e = .returned (.bool (dimB x)) ∧ w = w' := by
  by_cases h0 : -1073741823 ≤ x
  · by_cases h1 : x ≤ 1073741823
    · go_enter Tryz.func180, Tryz.ntmps180
      go_wp2
      go_ret
      exact ⟨ret_bool (dimB_yes h0 h1).symm, rfl⟩
    · go_enter Tryz.func180, Tryz.ntmps180
      go_wp2
      go_ret
      exact ⟨ret_bool (dimB_no (by omega)).symm, rfl⟩
  · go_enter Tryz.func180, Tryz.ntmps180
    go_wp2
    go_ret
    exact ⟨ret_bool (dimB_no (by omega)).symm, rfl⟩

theorem check_any (n s h a b : Int) (w : World) :
    Calls Tryz.prog 123 #[.agg #[.int .i64 n, .int .i64 s, .int .i64 h, .int .i64 a, .int .i64 b]] w fun e w' =>
      e = .returned (.int .i64 (chk n s h a b)) ∧ w.alloc (.cells #[.int .i64 n, .int .i64 s, .int .i64 h, .int .i64 a, .int .i64 b] 96) = w' := by
  have i0 : ∀ w : World, (Instr.index 238 (.agg #[.int .i64 n, .int .i64 s, .int .i64 h]) (.int .i64 0)).run Tryz.prog w = .ok (.int .i64 n) w := fun _ => by kernel_rfl
  have i1 : ∀ w : World, (Instr.index 238 (.agg #[.int .i64 n, .int .i64 s, .int .i64 h]) (.int .i64 1)).run Tryz.prog w = .ok (.int .i64 s) w := fun _ => by kernel_rfl
  have i2 : ∀ w : World, (Instr.index 238 (.agg #[.int .i64 n, .int .i64 s, .int .i64 h]) (.int .i64 2)).run Tryz.prog w = .ok (.int .i64 h) w := fun _ => by kernel_rfl
  have j0 : ∀ w : World, (Instr.index 206 (.agg #[.int .i64 a, .int .i64 b]) (.int .i64 0)).run Tryz.prog w = .ok (.int .i64 a) w := fun _ => by kernel_rfl
  have j1 : ∀ w : World, (Instr.index 206 (.agg #[.int .i64 a, .int .i64 b]) (.int .i64 1)).run Tryz.prog w = .ok (.int .i64 b) w := fun _ => by kernel_rfl
  cases g : glueB n s h a b
  · have hno := chk_no g
    have hnot : ¬ ((-1073741823 ≤ n ∧ n ≤ 1073741823) ∧ (-1073741823 ≤ s ∧ s ≤ 1073741823) ∧ (-1073741823 ≤ h ∧ h ≤ 1073741823) ∧ (0 ≤ a ∧ a ≤ 3) ∧ (0 ≤ b ∧ b ≤ 3)) := by
      rw [← glueB_iff, g]; simp
    have HN := Lib.hid hno
    have HX := Lib.hid hnot
    clear g hno hnot
    go_enter Tryz.func123, Tryz.ntmps123
    go_wp2_with fail
    refine wp_loop_rounds 4 ?_
    repeat any_goals (rw [rounds_succ]; go_wp2_with (go_at_call 180; refine (dimen_any _ _).mono ?_; rintro e w' ⟨rfl, rfl⟩))
    all_goals try (go_ret; exact ⟨ret_int HN.out.symm, rfl⟩)
    go_rounds 3
    all_goals first | (go_ret; exact ⟨ret_int HN.out.symm, rfl⟩) | (exfalso; have e1 : (!dimB n) = false := (by assumption); have e2 : (!dimB s) = false := (by assumption); have e3 : (!dimB h) = false := (by assumption); rw [Bool.not_eq_false', dimB_iff] at e1 e2 e3; exact HX.out (by omega))
  · obtain ⟨⟨n0, n1⟩, ⟨s0, s1⟩, ⟨h0, h1⟩, ⟨a0, a1⟩, b0, b1⟩ := glueB_iff.1 g
    have hyes := chk_yes g
    have HY := Lib.hid hyes
    clear g hyes
    go_enter Tryz.func123, Tryz.ntmps123
    go_wp2_with fail
    go_rounds 4
    go_rounds 3
    go_ret
    exact ⟨ret_int HY.out.symm, rfl⟩
end Go.Proofs.YtoboecenlangmaaGreat.Gl
end
section
namespace Go.Proofs.YtoboecenlangmaaGreat.Gl
open Go.ChangeShapes Go.WideShapes Go.ChangeAt Go.RowKit
open Me

def G.vals (g : G) : List Value := [.int .i64 g.n, .int .i64 g.s, .int .i64 g.h, .int .i64 g.a, .int .i64 g.b]
theorem G.vals_len (g : G) : g.vals.length = 5 := rfl

/-- A slice of glue that reads as the list l. -/
def Row (w : World) (A : Option Addr) (l : List G) : Prop := Seg w w.heap.size A (l.flatMap G.vals)

/-- The five cells of the k-th piece. -/
theorem Row.cells {w wr : World} {A : Option Addr} {l : List G} (h : Row w A l) (hb : Below w.heap.size w wr) {k : Nat} {g : G} (hk : l[k]? = some g) :
    ∃ b off : Nat, A = some ⟨b, off, none⟩ ∧ wr.cell? ⟨b, off + k * 5, none⟩ = some (.int .i64 g.n) ∧ wr.cell? ⟨b, off + k * 5 + 1, none⟩ = some (.int .i64 g.s) ∧
      wr.cell? ⟨b, off + k * 5 + 2, none⟩ = some (.int .i64 g.h) ∧ wr.cell? ⟨b, off + k * 5 + 3, none⟩ = some (.int .i64 g.a) ∧ wr.cell? ⟨b, off + k * 5 + 4, none⟩ = some (.int .i64 g.b) := by
  obtain ⟨b, off, rfl, hB, hc⟩ := Seg.row G.vals_len h hk (by omega)
  have hx : ∀ j u, g.vals[j]? = some u → wr.cell? ⟨b, off + k * 5 + j, none⟩ = some u := fun j u hu => (hb.cell (p := ⟨b, off + k * 5 + j, none⟩) hB).trans (hc j u hu)
  exact ⟨b, off, rfl, hx 0 _ rfl, hx 1 _ rfl, hx 2 _ rfl, hx 3 _ rfl, hx 4 _ rfl⟩

theorem row_any (A : Option Addr) (l : List G) (c : Nat) (w : World) (h63 : l.length ≤ maxLen) (hrow : Row w A l) :
    Calls Tryz.prog 167 #[.slice A l.length c] w fun e w' => e = .returned (.int .i64 (rowE l)) ∧ Below w.heap.size w w' := by
  unfold maxLen at h63
  have HR := Lib.hid hrow
  clear hrow
  by_cases hlen : 2000 < l.length
  · have h6 := rowE_long hlen
    have H6 := Lib.hid h6
    clear h6
    go_enter Tryz.func167, Tryz.ntmps167
    go_wp2_with fail
    go_ret
    exact ⟨ret_int H6.out.symm, Below.refl _ _⟩
  · generalize hn : l.length = n at *
    have HN := Lib.hid hn
    clear hn
    go_enter Tryz.func167, Tryz.ntmps167
    go_wp2_with fail
    go_loopw [4, 10] (fun p i wr => ∃ k : Nat, k ≤ n ∧ i = .int .i64 k ∧ (l.take k).all G.ok = true ∧ Below w.heap.size w wr) (fun _ i _ => n - (intOf i).toNat)
    case atStart => exact ⟨0, Nat.zero_le _, rfl, by simp, Below.refl _ _⟩
    case round =>
      obtain ⟨k, hk, rfl, hall, hb⟩ := hrel
      have HA := Lib.hid hall
      clear hall
      have hsz := hb.size
      by_cases hlt : k < n
      · obtain ⟨g, hg⟩ : ∃ g, l[k]? = some g := ⟨_, List.getElem?_eq_getElem (by rw [HN.out]; exact hlt)⟩
        obtain ⟨b, off, rfl, c0, c1, c2, c3, c4⟩ := HR.out.cells hb hg
        have HG := Lib.hid hg
        clear hg
        cases hok : g.ok
        · have hchk : (chk g.n g.s g.h g.a g.b != 0) = true := by have := G.chk_bad hok; unfold G.chk at this; rw [this]; rfl
          have HO := Lib.hid hok
          clear hok
          go_wp2_with (go_at_call 123; refine (check_any _ _ _ _ _ _).mono ?_; rintro e w' ⟨rfl, rfl⟩)
          go_ret
          exact ⟨ret_int (rowE_bad (by rw [HN.out]; omega) HG.out HO.out).symm, (hb.alloc hsz _).alloc (by simp; omega) _⟩
        · have hchk : (chk g.n g.s g.h g.a g.b != 0) = false := by have := G.chk_ok hok; unfold G.chk at this; rw [this]; rfl
          have HO := Lib.hid hok
          clear hok
          go_wp2_with (go_at_call 123; refine (check_any _ _ _ _ _ _).mono ?_; rintro e w' ⟨rfl, rfl⟩)
          go_roundw
          case rel => exact ⟨k + 1, by omega, by go_num, take_all HG.out HA.out HO.out, (hb.alloc hsz _).alloc (by simp; omega) _⟩
          case measure => simp [intOf]; omega
      · obtain rfl : k = n := by omega
        go_wp2_with fail
        go_ret
        refine ⟨ret_int (rowE_ok (by rw [HN.out]; omega) ?_).symm, hb⟩
        have := HA.out
        rwa [List.take_of_length_le (by rw [HN.out]; exact Nat.le_refl _)] at this
end Go.Proofs.YtoboecenlangmaaGreat.Gl
end

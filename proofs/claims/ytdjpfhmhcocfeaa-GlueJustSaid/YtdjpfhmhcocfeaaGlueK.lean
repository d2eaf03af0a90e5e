import Derived.Test.YtdjpfhmhcocfeaaGlueG
/- Sizes are fair, and come to what they are to come to: plain arithmetic. No Go in sight. Conditions: those that each theorem names. -/
namespace Go.Proofs.Ytdjpfhmhcocfeaa.Gl

theorem psV_zero (N D : Int) : psV 0 N D = 0 := by
  by_cases h : psE 0 N D = 0
  · have hok : shOk 0 N D = true := by
      cases h1 : shOk 0 N D
      · rw [psE_range h1] at h; omega
      · rfl
    have hd := (shOk_iff.1 hok).1
    rw [psV_ok h, show mag N * mag 0 = 0 by simp [mag]]
    unfold pq
    rw [if_neg (by simp; omega)]
    simp
  · exact psV_err h

/-- A number is its sign times its magnitude. -/
theorem mul_sgn (N S : Int) : N * S = sgn S N * (mag N * mag S) := by
  unfold sgn mag
  by_cases hn : N < 0 <;> by_cases hs : S < 0 <;> simp [hn, hs, Int.neg_mul, Int.mul_neg]

theorem rq_err {p d : Int} (hd : 1 ≤ d) : -d ≤ 2 * (rq p d * d - p) ∧ 2 * (rq p d * d - p) ≤ d := by
  have e := Int.mul_ediv_add_emod p d
  have e0 := Int.emod_nonneg p (show d ≠ 0 by omega)
  have e1 := Int.emod_lt_of_pos p (show 0 < d by omega)
  rw [Int.mul_comm] at e
  unfold rq
  split
  · rw [Int.add_mul, Int.one_mul]; omega
  · omega

/-- Far from the wrap the program's quotient is the round one. -/
theorem pq_rq {p d : Int} (h0 : 0 ≤ p) (hd : 1 ≤ d) (h : p / d < 18446744073709551615) : pq p d = rq p d := by
  unfold pq rq
  have h1 : 0 ≤ p / d := Int.ediv_nonneg h0 (by omega)
  split
  · rw [W64_eq]
    exact Int.emod_eq_of_lt (by omega) (by omega)
  · rfl

/-- Shares so small that nothing wraps. -/
def tame (N D S : Int) : Prop := mag N * mag S / D ≤ 70368744177664

theorem tame_err {N D S : Int} (h : psE S N D = 0) (ht : tame N D S) : -D ≤ 2 * (psV S N D * D - N * S) ∧ 2 * (psV S N D * D - N * S) ≤ D := by
  have hok : shOk S N D = true := by
    cases h1 : shOk S N D
    · rw [psE_range h1] at h; omega
    · rfl
  have hd := (shOk_iff.1 hok).1
  have hm : 0 ≤ mag N * mag S := Int.mul_nonneg (mag_nonneg N) (mag_nonneg S)
  unfold tame at ht
  rw [psV_ok h, pq_rq hm hd (by omega), mul_sgn N S]
  have he := rq_err (p := mag N * mag S) hd
  rcases sgn_cases S N with h1 | h1 <;> rw [h1]
  · rw [Int.one_mul, Int.one_mul]; exact he
  · rw [Int.neg_mul, Int.one_mul, Int.neg_mul, Int.neg_mul, Int.one_mul]; omega

theorem tame_step {N D S s : Int} (hN : mag N < 1073741824) (hs : mag s < 1073741824) (hD : 1 ≤ D) (h : psE (S + s) N D = 0) (ht : tame N D S) : tame N D (S + s) := by
  unfold tame at ht ⊢
  have hok : shOk (S + s) N D = true := by
    cases h1 : shOk (S + s) N D
    · rw [psE_range h1] at h; omega
    · rfl
  have hp : pOk (mag N * mag (S + s)) D = true := by
    cases h1 : pOk (mag N * mag (S + s)) D
    · rw [psE_far hok h1] at h; omega
    · rfl
  have hm : 0 ≤ mag N * mag (S + s) := Int.mul_nonneg (mag_nonneg N) (mag_nonneg _)
  have hle : mag (S + s) ≤ mag S + mag s := by unfold mag; split <;> split <;> split <;> omega
  have h1 := Int.mul_le_mul_of_nonneg_left hle (mag_nonneg N)
  rw [Int.mul_add] at h1
  have h2 : mag N * mag s ≤ 1073741824 * 1073741824 := by
    have a := Int.mul_le_mul_of_nonneg_right (show mag N ≤ 1073741824 by omega) (mag_nonneg s)
    have b := Int.mul_le_mul_of_nonneg_left (show mag s ≤ 1073741824 by omega) (show (0 : Int) ≤ 1073741824 by omega)
    omega
  have h3 : mag N * mag (S + s) / D ≤ (mag N * mag S + 1152921504606846976) / D := Int.ediv_le_ediv (by omega) (by omega)
  have h4 : (mag N * mag S + 1152921504606846976) / D ≤ mag N * mag S / D + 1152921504606846977 := by
    have e := Int.mul_ediv_add_emod (mag N * mag S) D
    have e1 := Int.emod_lt_of_pos (mag N * mag S) (show 0 < D by omega)
    have e2 : mag N * mag S + 1152921504606846976 < (mag N * mag S / D + 1152921504606846978) * D := by
      rw [Int.add_mul]
      rw [Int.mul_comm] at e
      omega
    have := Int.ediv_lt_of_lt_mul (show 0 < D by omega) e2
    omega
  have h5 : mag N * mag (S + s) / D < 18446744073709551615 := by omega
  have h6 := pq_rq hm hD h5
  unfold pOk at hp
  simp only [Bool.and_eq_true, decide_eq_true_eq] at hp
  have h7 := rq_ge (mag N * mag (S + s)) D
  omega

/-- What of a piece stretches, or shrinks, in a row that is set so. -/
def sOf (sign order : Int) (g : G) : Int := if sign = 1 ∧ g.a = order then g.s else if sign = 2 ∧ g.b = order then -g.h else 0

/-- A row is set fairly there. -/
def Fair (sign order N D : Int) (g : G) (x : Int) : Prop :=
  (sOf sign order g = 0 → x = g.n) ∧ (mag N < 1073741824 → D < 1073741824 → 1 ≤ D → (x - g.n) * D - N * sOf sign order g ≤ D ∧ N * sOf sign order g - (x - g.n) * D ≤ D) ∧ (-140737488355328 ≤ x - g.n ∧ x - g.n ≤ 140737488355328)

def Inner (sign N D : Int) (z : Sz) : Prop := z.L = psV z.S N D ∧ (sign ≠ 0 → psE z.S N D = 0) ∧ (mag N < 1073741824 → 1 ≤ D → tame N D z.S)

theorem inner_zero {sign N D : Int} (hr : rngOk sign N D = true) : Inner sign N D ⟨0, 0, []⟩ := by
  refine ⟨(psV_zero N D).symm, fun h => ?_, fun _ h1 => ?_⟩
  · obtain ⟨a, b, c⟩ := rngOk_iff.1 hr
    have hok : shOk 0 N D = true := shOk_iff.2 ⟨by omega, by omega, a, b⟩
    refine psE_ok hok ?_
    simp only [mag, show ¬ (0 : Int) < 0 by omega, if_false, Int.mul_zero]
    unfold pOk pq
    rw [if_neg (by simp; omega)]
    simp [W64_eq]
  · simp [tame, mag]

theorem inner_step {sign order N D : Int} {z z' : Sz} {g : G} (hg : g.ok = true) (h : Inner sign N D z) (hs : step sign order N D z g = some z') :
    Inner sign N D z' ∧ ∃ x, z'.o = z.o ++ [x] ∧ Fair sign order N D g x := by
  obtain ⟨⟨m0, m1⟩, ⟨s0, s1⟩, ⟨t0, t1⟩, -, -⟩ := glueB_iff.1 hg
  obtain ⟨hL, hE, hT⟩ := h
  have b1 := psV_bd z.S N D
  unfold step at hs
  split at hs
  · rename_i hc
    split at hs
    · rename_i he
      simp only [Option.some.injEq] at hs
      subst hs
      have b2 := psV_bd (z.S + g.s) N D
      have hmg : mag g.s < 1073741824 := by unfold mag; split <;> omega
      refine ⟨⟨rfl, fun _ => he, fun a b => tame_step a hmg b he (hT a b)⟩, _, rfl, ?_⟩
      have hso : sOf sign order g = g.s := if_pos hc
      refine ⟨fun h0 => ?_, fun a b c => ?_, ?_⟩
      · rw [hso] at h0
        rw [h0, Int.add_zero, hL]
        omega
      · have e1 := tame_err he (tame_step a hmg c he (hT a c))
        have e2 := tame_err (hE (by omega)) (hT a c)
        rw [hso, hL]
        have e3 : (g.n + (psV (z.S + g.s) N D - psV z.S N D) - g.n) * D = psV (z.S + g.s) N D * D - psV z.S N D * D := by
          rw [show g.n + (psV (z.S + g.s) N D - psV z.S N D) - g.n = psV (z.S + g.s) N D - psV z.S N D by omega, Int.sub_mul]
        rw [e3]
        rw [Int.mul_add] at e1
        omega
      · rw [hL]; omega
    · cases hs
  · split at hs
    · rename_i hn hc
      split at hs
      · rename_i he
        simp only [Option.some.injEq] at hs
        subst hs
        have b2 := psV_bd (z.S + g.h) N D
        have hmg : mag g.h < 1073741824 := by unfold mag; split <;> omega
        refine ⟨⟨rfl, fun _ => he, fun a b => tame_step a hmg b he (hT a b)⟩, _, rfl, ?_⟩
        have hso : sOf sign order g = -g.h := by unfold sOf; rw [if_neg hn, if_pos hc]
        refine ⟨fun h0 => ?_, fun a b c => ?_, ?_⟩
        · rw [hso] at h0
          rw [show g.h = 0 by omega, Int.add_zero, hL]
          omega
        · have e1 := tame_err he (tame_step a hmg c he (hT a c))
          have e2 := tame_err (hE (by omega)) (hT a c)
          rw [hso, hL]
          have e3 : (g.n - (psV (z.S + g.h) N D - psV z.S N D) - g.n) * D = psV z.S N D * D - psV (z.S + g.h) N D * D := by
            rw [show g.n - (psV (z.S + g.h) N D - psV z.S N D) - g.n = psV z.S N D - psV (z.S + g.h) N D by omega, Int.sub_mul]
          rw [e3]
          rw [Int.mul_add] at e1
          rw [Int.mul_neg]
          omega
        · rw [hL]; omega
      · cases hs
    · rename_i hn hc
      simp only [Option.some.injEq] at hs
      subst hs
      refine ⟨⟨hL, hE, hT⟩, _, rfl, ?_⟩
      have hso : sOf sign order g = 0 := by unfold sOf; rw [if_neg hn, if_neg hc]
      refine ⟨fun _ => rfl, fun _ _ c => ?_, by omega⟩
      rw [hso]
      simp
      omega

/-! ### a row's beginning -/
theorem run_some {sign order N D : Int} {l : List G} {z : Sz} (h : run sign order N D l = some z) : ∀ k, k ≤ l.length → ∃ z', run sign order N D (l.take k) = some z' := by
  intro k _
  have e : l = l.take k ++ l.drop k := (List.take_append_drop _ _).symm
  cases hz : run sign order N D (l.take k) with
  | some z' => exact ⟨z', rfl⟩
  | none =>
    exfalso
    unfold run at h hz
    rw [e, List.foldl_append, hz, fold_none] at h
    cases h

/-- Ahead of each piece: what is known; the sizes so far are the row's first. -/
theorem prefixes {sign order N D : Int} {l : List G} {z : Sz} (hall : l.all G.ok = true) (hr : rngOk sign N D = true) (h : run sign order N D l = some z) :
    ∀ k, k ≤ l.length → ∃ z', run sign order N D (l.take k) = some z' ∧ Inner sign N D z' ∧ z'.o.length = k ∧ ∀ (i : Nat) (g : G), i < k → l[i]? = some g → ∃ x, z'.o[i]? = some x ∧ Fair sign order N D g x := by
  intro k
  induction k with
  | zero => exact fun _ => ⟨_, run_nil _ _ _ _, inner_zero hr, rfl, fun i g hi _ => by omega⟩
  | succ k ih =>
    intro hk
    obtain ⟨z1, h1, h2, h3, h4⟩ := ih (by omega)
    obtain ⟨z2, h5⟩ := run_some h (k + 1) hk
    have hg : l[k]? = some (l[k]'(by omega)) := List.getElem?_eq_getElem (by omega)
    have hs := run_snoc hg h1
    rw [h5] at hs
    have hok : (l[k]'(by omega)).ok = true := List.all_eq_true.1 hall _ (List.mem_of_getElem? hg)
    obtain ⟨h6, x, h7, h8⟩ := inner_step hok h2 hs.symm
    refine ⟨z2, h5, h6, by rw [h7]; simp [h3], fun i g hi hgi => ?_⟩
    rcases Nat.lt_or_ge i k with hik | hik
    · obtain ⟨y, hy, hf⟩ := h4 i g hik hgi
      exact ⟨y, by rw [h7, List.getElem?_append_left (by omega)]; exact hy, hf⟩
    · obtain rfl : i = k := by omega
      rw [hg] at hgi
      injection hgi with hgi
      subst hgi
      exact ⟨x, by rw [h7, List.getElem?_append_right (by omega), h3]; simp, h8⟩

theorem prefix_o {sign order N D : Int} {l : List G} {z : Sz} (hall : l.all G.ok = true) (hr : rngOk sign N D = true) (h : run sign order N D l = some z) (k : Nat) :
    ∀ d, k + d ≤ l.length → ∀ z1 z2, run sign order N D (l.take k) = some z1 → run sign order N D (l.take (k + d)) = some z2 → z1.o = z2.o.take k := by
  intro d
  induction d with
  | zero =>
    intro hk z1 z2 h1 h2
    rw [Nat.add_zero, h1] at h2
    injection h2 with h2
    subst h2
    obtain ⟨z3, h3, _, h4, _⟩ := prefixes hall hr h k (by omega)
    rw [h1] at h3
    injection h3 with h3
    subst h3
    rw [List.take_of_length_le (by omega)]
  | succ d ih =>
    intro hk z1 z2 h1 h2
    obtain ⟨z3, h3, h4, h5, _⟩ := prefixes hall hr h (k + d) (by omega)
    have hg : l[k + d]? = some (l[k + d]'(by omega)) := List.getElem?_eq_getElem (by omega)
    have hs := run_snoc hg h3
    rw [show k + d + 1 = k + (d + 1) by omega, h2] at hs
    obtain ⟨_, x, h7, _⟩ := inner_step (List.all_eq_true.1 hall _ (List.mem_of_getElem? hg)) h4 hs.symm
    rw [ih (by omega) z1 z3 h1 h3, h7, List.take_append_of_le_length (by omega)]

/-- All that the statement asks of a row that is set. -/
theorem fair_all {sign order N D : Int} {l : List G} (h : szE l sign order N D = 0) :
    (szL l sign order N D).length = l.length ∧ (∀ (i : Nat) (g : G), l[i]? = some g → ∃ x, (szL l sign order N D)[i]? = some x ∧ Fair sign order N D g x) ∧
      ∀ k, k ≤ l.length → szE (l.take k) sign order N D = 0 ∧ szL (l.take k) sign order N D = (szL l sign order N D).take k := by
  obtain ⟨hr, ha, hg, z, hz⟩ := szE_zero h
  obtain ⟨hlen, hall⟩ := rowE_zero hr
  have hzl : szL l sign order N D = z.o := (szE_some hr ha hg hz).2
  obtain ⟨z1, h1, h2, h3, h4⟩ := prefixes hall hg hz l.length (Nat.le_refl _)
  rw [List.take_length, hz] at h1
  injection h1 with h1
  subst h1
  rw [hzl]
  refine ⟨h3, fun i g hi => ?_, fun k hk => ?_⟩
  · have hil : i < l.length := by
      rcases Nat.lt_or_ge i l.length with h1 | h1
      · exact h1
      · rw [List.getElem?_eq_none h1] at hi; cases hi
    exact h4 i g hil hi
  · obtain ⟨z2, h5⟩ := run_some hz k hk
    have hrk : rowE (l.take k) = 0 := by
      refine rowE_ok (by rw [List.length_take]; omega) ?_
      rw [List.all_eq_true] at hall ⊢
      exact fun g hg => hall g (List.mem_of_mem_take hg)
    obtain ⟨h6, h7⟩ := szE_some hrk ha hg h5
    have h8 := prefix_o hall hg hz k (l.length - k) (by omega) z2 z h5 (by rw [show k + (l.length - k) = l.length by omega, List.take_length]; exact hz)
    exact ⟨h6, by rw [h7, h8]⟩
end Go.Proofs.Ytdjpfhmhcocfeaa.Gl

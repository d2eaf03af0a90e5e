import Derived.Test.YtdjpfhmhcocfeaaGlueK
import Derived.Test.YtdjpfhmhcocfeaaFitD
/- Totals of a row, and that a row that is set comes to what it is to be: plain arithmetic. No Go in sight. Conditions: those that each theorem names. -/
namespace Go.Proofs.Ytdjpfhmhcocfeaa.Gl

def sumN (l : List G) : Int := (l.map fun g => g.n).sum
def sumS (l : List G) (o : Int) : Int := (l.map fun g => if g.a = o then g.s else 0).sum
def sumH (l : List G) (o : Int) : Int := (l.map fun g => if g.b = o then g.h else 0).sum

theorem sum_snoc (f : G → Int) {l : List G} {k : Nat} {g : G} (h : l[k]? = some g) : ((l.take (k + 1)).map f).sum = ((l.take k).map f).sum + f g := by
  rw [List.take_add_one, h]
  simp
theorem sumN_snoc {l : List G} {k : Nat} {g : G} (h : l[k]? = some g) : sumN (l.take (k + 1)) = sumN (l.take k) + g.n := sum_snoc (fun g => g.n) h
theorem sumS_hit {l : List G} {k : Nat} {g : G} {o : Int} (h : l[k]? = some g) (ho : g.a = o) : sumS (l.take (k + 1)) o = sumS (l.take k) o + g.s := by
  have := sum_snoc (fun g => if g.a = o then g.s else 0) h
  simpa [sumS, ho] using this
theorem sumS_miss {l : List G} {k : Nat} {g : G} {o : Int} (h : l[k]? = some g) (ho : g.a ≠ o) : sumS (l.take (k + 1)) o = sumS (l.take k) o := by
  have := sum_snoc (fun g => if g.a = o then g.s else 0) h
  simpa [sumS, ho] using this
theorem sumH_hit {l : List G} {k : Nat} {g : G} {o : Int} (h : l[k]? = some g) (ho : g.b = o) : sumH (l.take (k + 1)) o = sumH (l.take k) o + g.h := by
  have := sum_snoc (fun g => if g.b = o then g.h else 0) h
  simpa [sumH, ho] using this
theorem sumH_miss {l : List G} {k : Nat} {g : G} {o : Int} (h : l[k]? = some g) (ho : g.b ≠ o) : sumH (l.take (k + 1)) o = sumH (l.take k) o := by
  have := sum_snoc (fun g => if g.b = o then g.h else 0) h
  simpa [sumH, ho] using this

theorem sum_bd (f : G → Int) (hf : ∀ g, g.ok = true → -1073741823 ≤ f g ∧ f g ≤ 1073741823) : ∀ l : List G, l.all G.ok = true → -(l.length * 1073741823 : Int) ≤ (l.map f).sum ∧ (l.map f).sum ≤ l.length * 1073741823
  | [], _ => by simp
  | g :: l, h => by
    rw [List.all_cons, Bool.and_eq_true] at h
    have h1 := hf g h.1
    have h2 := sum_bd f hf l h.2
    simp only [List.map_cons, List.sum_cons, List.length_cons]
    push_cast
    omega
theorem take_all' {l : List G} (h : l.all G.ok = true) (k : Nat) : (l.take k).all G.ok = true := by
  rw [List.all_eq_true] at h ⊢
  exact fun g hg => h g (List.mem_of_mem_take hg)
theorem sums_bd {l : List G} (h : l.all G.ok = true) (hl : l.length ≤ 2000) (k : Nat) :
    (-2147483646000 ≤ sumN (l.take k) ∧ sumN (l.take k) ≤ 2147483646000) ∧ (∀ o, -2147483646000 ≤ sumS (l.take k) o ∧ sumS (l.take k) o ≤ 2147483646000) ∧ (∀ o, -2147483646000 ≤ sumH (l.take k) o ∧ sumH (l.take k) o ≤ 2147483646000) := by
  have hlen : (l.take k).length ≤ 2000 := by rw [List.length_take]; omega
  have hk := take_all' h k
  have b1 := sum_bd (fun g => g.n) (fun g hg => (glueB_iff.1 hg).1) _ hk
  refine ⟨by unfold sumN; omega, fun o => ?_, fun o => ?_⟩
  · have b2 := sum_bd (fun g => if g.a = o then g.s else 0) (fun g hg => by have := (glueB_iff.1 hg).2.1; split <;> omega) _ hk
    unfold sumS; omega
  · have b2 := sum_bd (fun g => if g.b = o then g.h else 0) (fun g hg => by have := (glueB_iff.1 hg).2.2.1; split <;> omega) _ hk
    unfold sumH; omega

/-! ### What the sizes come to -/
/-- After k pieces: the sizes so far are the natural sizes and the last share. -/
theorem run_sum {sign order N D : Int} {l : List G} {z : Sz} (h : run sign order N D l = some z) :
    ∀ k, k ≤ l.length → ∃ z', run sign order N D (l.take k) = some z' ∧ z'.S = (if sign = 1 then sumS (l.take k) order else if sign = 2 then sumH (l.take k) order else 0) ∧ z'.L = psV z'.S N D ∧
      z'.o.sum = sumN (l.take k) + (if sign = 1 then z'.L else if sign = 2 then -z'.L else 0) := by
  intro k
  induction k with
  | zero =>
    intro _
    refine ⟨_, run_nil _ _ _ _, ?_, (psV_zero N D).symm, ?_⟩
    · simp [sumS, sumH]
    · simp [sumN]
  | succ k ih =>
    intro hk
    obtain ⟨z1, h1, h2, h3, h4⟩ := ih (by omega)
    obtain ⟨z2, h5⟩ := run_some h (k + 1) hk
    have hg : l[k]? = some (l[k]'(by omega)) := List.getElem?_eq_getElem (by omega)
    generalize l[k]'(by omega) = g at hg
    have hs := run_snoc hg h1
    rw [h5] at hs
    have hs' := hs.symm
    refine ⟨z2, h5, ?_⟩
    rw [sumN_snoc hg]
    unfold step at hs'
    split at hs'
    · rename_i hc
      obtain ⟨rfl, ha⟩ := hc
      split at hs'
      · simp only [Option.some.injEq] at hs'
        subst hs'
        simp only [if_true] at h2 h4 ⊢
        rw [sumS_hit hg ha, ← h2]
        refine ⟨rfl, trivial, ?_⟩
        rw [List.sum_append, h4]
        simp
        omega
      · cases hs'
    · split at hs'
      · rename_i hn hc
        obtain ⟨rfl, hb⟩ := hc
        split at hs'
        · simp only [Option.some.injEq] at hs'
          subst hs'
          simp only [if_true, show ¬ (2 : Int) = 1 by omega, if_false] at h2 h4 ⊢
          rw [sumH_hit hg hb, ← h2]
          refine ⟨rfl, trivial, ?_⟩
          rw [List.sum_append, h4]
          simp
          omega
        · cases hs'
      · rename_i hn hc
        simp only [Option.some.injEq] at hs'
        subst hs'
        refine ⟨?_, h3, ?_⟩
        · simp only
          rw [h2]
          by_cases s1 : sign = 1
          · rw [if_pos s1, if_pos s1, sumS_miss hg (fun h => hn ⟨s1, h⟩)]
          · by_cases s2 : sign = 2
            · rw [if_neg s1, if_pos s2, if_neg s1, if_pos s2, sumH_miss hg (fun h => hc ⟨s2, h⟩)]
            · rw [if_neg s1, if_neg s2, if_neg s1, if_neg s2]
        · simp only
          rw [List.sum_append, h4]
          simp
          omega

theorem szL_sum {sign order N D : Int} {l : List G} (h : szE l sign order N D = 0) :
    (szL l sign order N D).sum = sumN l + (if sign = 1 then psV (sumS l order) N D else if sign = 2 then -psV (sumH l order) N D else 0) := by
  obtain ⟨hr, ha, hg, z, hz⟩ := szE_zero h
  have hall := (rowE_zero hr).2
  obtain ⟨z1, h1, h2, h3, h4⟩ := run_sum hz l.length (Nat.le_refl _)
  rw [List.take_length] at h1 h2 h4
  rw [hz] at h1
  injection h1 with h1
  subst h1
  rw [(szE_some hr ha hg hz).2, h4]
  by_cases s1 : sign = 1
  · rw [if_pos s1, if_pos s1, h3, h2, if_pos s1]
  · by_cases s2 : sign = 2
    · rw [if_neg s1, if_pos s2, if_neg s1, if_pos s2, h3, h2, if_neg s1, if_pos s2]
    · rw [if_neg s1, if_neg s2, if_neg s1, if_neg s2]

/-- The whole share is the whole excess. -/
theorem psV_whole {N D : Int} (h0 : 0 ≤ N) (h1 : N ≤ 70368744177664) (hd : 1 ≤ D) (hd2 : D ≤ 70368744177664) : psV D N D = N := by
  have hok : shOk D N D = true := shOk_iff.2 ⟨hd, by omega, by omega, by omega⟩
  have hm : mag N * mag D = N * D := by rw [mag_above h0, mag_above (by omega)]
  have hq : N * D / D = N := Int.mul_ediv_cancel _ (by omega)
  have hr : N * D % D = 0 := Int.mul_emod_left _ _
  have hpq : pq (N * D) D = N := by rw [pq_down (by rw [hr]; omega), hq]
  have hp : pOk (N * D) D = true := by rw [pOk_near (by rw [hq, W64_eq]; omega), hpq]; exact decide_eq_true h1
  have hE := psE_ok (s := D) (n := N) (d := D) hok (by rw [hm]; exact hp)
  rw [psV_ok hE, hm, hpq]
  have hs : sgn D N = 1 := by unfold sgn; rw [if_pos]; simp; omega
  rw [hs, Int.one_mul]
end Go.Proofs.Ytdjpfhmhcocfeaa.Gl

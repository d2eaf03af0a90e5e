import Derived.Test.YtdjpfhmhcocfeaaDoorGlueQ
/- The document's sums and products of glue, in plain Lean: they are the program's. No Go in sight. Conditions: those that each theorem names. -/
namespace Go.Proofs.YtdjpfhmhcocfeaaDoor.Gl

def dim3 (g : G) : Bool := decide ((-1073741823 ≤ g.n ∧ g.n ≤ 1073741823) ∧ (-1073741823 ≤ g.s ∧ g.s ≤ 1073741823) ∧ (-1073741823 ≤ g.h ∧ g.h ≤ 1073741823))
def rightG (g : G) : G × Int := if dim3 g = true then (tidied g, 0) else (zeroG, 20)
def ord (a b : Int) : Prop := (0 ≤ a ∧ a ≤ 3) ∧ (0 ≤ b ∧ b ≤ 3)
theorem right_tidy {g : G} (h : ord g.a g.b) : rightG g = tidyG g := by
  obtain ⟨⟨a0, a1⟩, b0, b1⟩ := h
  unfold rightG tidyG
  have e : (tidied g).ok = dim3 g := by
    rw [Bool.eq_iff_iff, ok_iff]
    unfold dim3
    rw [decide_eq_true_iff]
    constructor
    · intro ⟨h1, h2, h3, _⟩
      exact ⟨h1, h2, h3⟩
    · intro ⟨h1, h2, h3⟩
      refine ⟨h1, h2, h3, ?_, ?_⟩
      · show 0 ≤ (if g.s = 0 then 0 else g.a) ∧ (if g.s = 0 then 0 else g.a) ≤ 3
        split <;> omega
      · show 0 ≤ (if g.h = 0 then 0 else g.b) ∧ (if g.h = 0 then 0 else g.b) ≤ 3
        split <;> omega
  rw [e]
def joinR0 (a o b p : Int) : Int × Int := if a = 0 ∨ (b ≠ 0 ∧ o < p) then (b, p) else if b ≠ 0 ∧ o = p then (a + b, o) else (a, o)
def joinR (a o b p : Int) : Int × Int := ((joinR0 a o b p).1, if (joinR0 a o b p).1 = 0 then 0 else (joinR0 a o b p).2)
theorem joinR_eq (a o b p : Int) : (joinR a o b p).1 = (joinI a o b p).1 ∧ ((joinR a o b p).1 ≠ 0 → (joinR a o b p).2 = (joinI a o b p).2) := by
  unfold joinR joinR0 joinI
  by_cases h1 : a = 0
  · simp [h1]
    intro h
    simp [h]
  by_cases h2 : b = 0
  · simp [h1, h2]
  by_cases h3 : o < p
  · have h4 : ¬ p < o := by omega
    simp [h1, h2, h3, h4]
  by_cases h4 : p < o
  · have h5 : ¬ o = p := by omega
    simp [h1, h2, h3, h4, h5]
  · have h5 : o = p := by omega
    subst h5
    simp [h1, h2]
    intro h
    simp [h]
theorem joinR_ord {a o b p : Int} (h1 : 0 ≤ o ∧ o ≤ 3) (h2 : 0 ≤ p ∧ p ≤ 3) : 0 ≤ (joinR a o b p).2 ∧ (joinR a o b p).2 ≤ 3 := by
  unfold joinR
  have e : 0 ≤ (joinR0 a o b p).2 ∧ (joinR0 a o b p).2 ≤ 3 := by
    unfold joinR0
    split
    · exact h2
    · split
      · exact h1
      · exact h1
  show 0 ≤ (if (joinR0 a o b p).1 = 0 then 0 else (joinR0 a o b p).2) ∧ (if (joinR0 a o b p).1 = 0 then 0 else (joinR0 a o b p).2) ≤ 3
  split
  · omega
  · exact e
def rawR (x y : G) : G := ⟨x.n + y.n, (joinR x.s x.a y.s y.a).1, (joinR x.h x.b y.h y.b).1, (joinR x.s x.a y.s y.a).2, (joinR x.h x.b y.h y.b).2⟩
theorem plus_R {x y : G} (hx : x.ok = true) (hy : y.ok = true) : rightG (rawR x y) = plusG x y := by
  obtain ⟨_, _, _, xa, xb⟩ := ok_iff.1 hx
  obtain ⟨_, _, _, ya, yb⟩ := ok_iff.1 hy
  rw [right_tidy ⟨joinR_ord xa ya, joinR_ord xb yb⟩]
  unfold plusG
  rw [if_pos ⟨hx, hy⟩]
  obtain ⟨s1, s2⟩ := joinR_eq x.s x.a y.s y.a
  obtain ⟨h1, h2⟩ := joinR_eq x.h x.b y.h y.b
  exact tidyG_congr rfl s1 h1 s2 h2
def timR (a n : Int) : Int := if a = 0 ∨ n = 0 then 0 else if 2147483648 < n ∨ n < -2147483648 then 1099511627776 else a * n
theorem timR_ok {a n : Int} (h : mulOk a n = true) : timR a n = mulI a n := by
  have h1 := of_decide_eq_true h
  unfold timR mulI
  by_cases h2 : a = 0 ∨ n = 0
  · rw [if_pos h2, if_pos h2]
  · rw [if_neg h2, if_neg h2, if_neg (by omega), if_neg (by omega)]
theorem timR_bad {a n : Int} (h : mulOk a n = false) : ¬ (-1073741823 ≤ timR a n ∧ timR a n ≤ 1073741823) := by
  have h1 := of_decide_eq_false h
  unfold timR
  rw [if_neg (by omega)]
  split
  · omega
  · rcases Int.lt_or_gt_of_ne (show a ≠ 0 by omega) with ha | ha <;> rcases Int.lt_or_gt_of_ne (show n ≠ 0 by omega) with hn | hn
    · have e : -n * -a = a * n := by rw [Int.neg_mul_neg, Int.mul_comm]
      have k : (-n) * 1 ≤ (-n) * (-a) := Int.mul_le_mul_of_nonneg_left (by omega) (by omega)
      omega
    · have k : n * 1 ≤ n * (-a) := Int.mul_le_mul_of_nonneg_left (by omega) (by omega)
      have e : n * -a = -(a * n) := by rw [Int.mul_neg, Int.mul_comm]
      omega
    · have k : (-n) * 1 ≤ (-n) * a := Int.mul_le_mul_of_nonneg_left (by omega) (by omega)
      have e : -n * a = -(a * n) := by rw [Int.neg_mul, Int.mul_comm]
      omega
    · have k : n * 1 ≤ n * a := Int.mul_le_mul_of_nonneg_left (by omega) (by omega)
      have e : n * a = a * n := Int.mul_comm n a
      omega
theorem mul_in {a b m k : Int} (h0 : -m ≤ a) (h1 : a ≤ m) (h2 : -k ≤ b) (h3 : b ≤ k) : -(m * k) ≤ a * b ∧ a * b ≤ m * k := by
  have e1 := Int.mul_nonneg (show 0 ≤ m - a by omega) (show 0 ≤ k - b by omega)
  have e2 := Int.mul_nonneg (show 0 ≤ m - a by omega) (show 0 ≤ k + b by omega)
  have e3 := Int.mul_nonneg (show 0 ≤ m + a by omega) (show 0 ≤ k - b by omega)
  have e4 := Int.mul_nonneg (show 0 ≤ m + a by omega) (show 0 ≤ k + b by omega)
  simp only [Int.sub_mul, Int.mul_sub, Int.add_mul, Int.mul_add] at e1 e2 e3 e4
  omega
theorem timR_bd {a n : Int} (h0 : -1073741823 ≤ a) (h1 : a ≤ 1073741823) : -4611686018427387904 ≤ timR a n ∧ timR a n ≤ 4611686018427387904 := by
  unfold timR
  split
  · omega
  · split
    · omega
    · obtain ⟨k1, k2⟩ := mul_in (a := a) (b := n) (m := 1073741823) (k := 2147483648) (by omega) (by omega) (by omega) (by omega)
      omega
theorem times_R {g : G} {n : Int} (hg : g.ok = true) : rightG ⟨timR g.n n, timR g.s n, timR g.h n, g.a, g.b⟩ = timesG g n := by
  obtain ⟨_, _, _, ga, gb⟩ := ok_iff.1 hg
  unfold timesG
  rw [if_pos hg]
  by_cases h : mulOk g.n n = true ∧ mulOk g.s n = true ∧ mulOk g.h n = true
  · rw [if_pos h, timR_ok h.1, timR_ok h.2.1, timR_ok h.2.2]
    exact right_tidy ⟨ga, gb⟩
  · rw [if_neg h]
    unfold rightG
    rw [if_neg]
    intro hd
    have hd := of_decide_eq_true hd
    apply h
    refine ⟨?_, ?_, ?_⟩
    · cases hb : mulOk g.n n
      · exact absurd hd.1 (timR_bad hb)
      · rfl
    · cases hb : mulOk g.s n
      · exact absurd hd.2.1 (timR_bad hb)
      · rfl
    · cases hb : mulOk g.h n
      · exact absurd hd.2.2 (timR_bad hb)
      · rfl
theorem over_R {g : G} {n : Int} (hg : g.ok = true) (hn : n ≠ 0) : rightG ⟨g.n.tdiv n, g.s.tdiv n, g.h.tdiv n, g.a, g.b⟩ = overG g n := by
  obtain ⟨_, _, _, ga, gb⟩ := ok_iff.1 hg
  unfold overG
  rw [if_pos hg, if_neg hn]
  exact right_tidy ⟨ga, gb⟩
end Go.Proofs.YtdjpfhmhcocfeaaDoor.Gl

import Derived.Test.YtdjpfhmhcocfeaaDoorGlueE
/- Sums and products of glue, in plain Lean, and their laws. No Go in sight. Conditions: those that each theorem names. -/
namespace Go.Proofs.YtdjpfhmhcocfeaaDoor.Gl

def zeroG : G := ⟨0, 0, 0, 0, 0⟩
def tidied (g : G) : G := ⟨g.n, g.s, g.h, if g.s = 0 then 0 else g.a, if g.h = 0 then 0 else g.b⟩
def tidyG (g : G) : G × Int := if (tidied g).ok = true then (tidied g, 0) else (zeroG, 20)
def joinI (a o b p : Int) : Int × Int := if a = 0 then (b, p) else if b = 0 ∨ p < o then (a, o) else if o < p then (b, p) else (a + b, o)
def rawPlus (x y : G) : G := ⟨x.n + y.n, (joinI x.s x.a y.s y.a).1, (joinI x.h x.b y.h y.b).1, (joinI x.s x.a y.s y.a).2, (joinI x.h x.b y.h y.b).2⟩
def plusG (x y : G) : G × Int := if x.ok = true ∧ y.ok = true then tidyG (rawPlus x y) else (zeroG, 30)
def mulI (x n : Int) : Int := if x = 0 ∨ n = 0 then 0 else if 1073741823 < n ∨ n < -1073741823 then 0 else x * n
def mulOk (x n : Int) : Bool := decide (x = 0 ∨ n = 0 ∨ (-1073741823 ≤ n ∧ n ≤ 1073741823))
def timesG (g : G) (n : Int) : G × Int :=
  if g.ok = true then (if mulOk g.n n = true ∧ mulOk g.s n = true ∧ mulOk g.h n = true then tidyG ⟨mulI g.n n, mulI g.s n, mulI g.h n, g.a, g.b⟩ else (zeroG, 20)) else (zeroG, 30)
def overG (g : G) (n : Int) : G × Int :=
  if g.ok = true then (if n = 0 then (zeroG, 20) else tidyG ⟨g.n.tdiv n, g.s.tdiv n, g.h.tdiv n, g.a, g.b⟩) else (zeroG, 30)

theorem G.ext' {x y : G} (h1 : x.n = y.n) (h2 : x.s = y.s) (h3 : x.h = y.h) (h4 : x.a = y.a) (h5 : x.b = y.b) : x = y := by
  cases x; cases y; simp_all
theorem ok_iff {g : G} : g.ok = true ↔ (-1073741823 ≤ g.n ∧ g.n ≤ 1073741823) ∧ (-1073741823 ≤ g.s ∧ g.s ≤ 1073741823) ∧ (-1073741823 ≤ g.h ∧ g.h ≤ 1073741823) ∧ (0 ≤ g.a ∧ g.a ≤ 3) ∧ (0 ≤ g.b ∧ g.b ≤ 3) := glueB_iff

/-- What is tidied is told by its amounts, and by the orders of what is not 0. -/
theorem tidyG_congr {x y : G} (h1 : x.n = y.n) (h2 : x.s = y.s) (h3 : x.h = y.h) (h4 : x.s ≠ 0 → x.a = y.a) (h5 : x.h ≠ 0 → x.b = y.b) : tidyG x = tidyG y := by
  have h : tidied x = tidied y := by
    unfold tidied
    refine G.ext' h1 h2 h3 ?_ ?_
    · by_cases hz : x.s = 0
      · simp [hz, ← h2]
      · simp [hz, ← h2, h4 hz]
    · by_cases hz : x.h = 0
      · simp [hz, ← h3]
      · simp [hz, ← h3, h5 hz]
  unfold tidyG
  rw [h]

theorem joinI_comm (a o b p : Int) : (joinI a o b p).1 = (joinI b p a o).1 ∧ ((joinI a o b p).1 ≠ 0 → (joinI a o b p).2 = (joinI b p a o).2) := by
  unfold joinI
  by_cases h1 : a = 0
  · by_cases h2 : b = 0
    · simp [h1, h2]
    · simp [h1, h2]
  · by_cases h2 : b = 0
    · simp [h1, h2]
    · rcases Int.lt_trichotomy o p with h3 | h3 | h3
      · simp [h1, h2, h3, show ¬ p < o by omega]
      · simp [h1, h2, h3, Int.add_comm]
      · simp [h1, h2, h3, show ¬ o < p by omega]

theorem plusG_comm (x y : G) : plusG x y = plusG y x := by
  unfold plusG
  by_cases h : x.ok = true ∧ y.ok = true
  · rw [if_pos h, if_pos ⟨h.2, h.1⟩]
    have h1 := joinI_comm x.s x.a y.s y.a
    have h2 := joinI_comm x.h x.b y.h y.b
    exact tidyG_congr (Int.add_comm _ _) h1.1 h2.1 h1.2 h2.2
  · rw [if_neg h, if_neg (fun k => h ⟨k.2, k.1⟩)]

theorem joinI_same (a o : Int) : (joinI a o a o).1 = 2 * a ∧ (a ≠ 0 → (joinI a o a o).2 = o) := by
  unfold joinI
  by_cases h : a = 0
  · simp [h]
  · simp [h]; omega

theorem mulI_eq {x n : Int} (h0 : -1073741823 ≤ n) (h1 : n ≤ 1073741823) : mulI x n = x * n := by
  unfold mulI
  by_cases h : x = 0 ∨ n = 0
  · rw [if_pos h]; rcases h with h | h <;> simp [h]
  · rw [if_neg h, if_neg (by omega)]

theorem plusG_twice (x : G) : plusG x x = timesG x 2 := by
  unfold plusG timesG
  by_cases h : x.ok = true
  · rw [if_pos ⟨h, h⟩, if_pos h, if_pos ⟨decide_eq_true (by omega), decide_eq_true (by omega), decide_eq_true (by omega)⟩]
    rw [mulI_eq (by omega) (by omega), mulI_eq (by omega) (by omega), mulI_eq (by omega) (by omega)]
    have h1 := joinI_same x.s x.a
    have h2 := joinI_same x.h x.b
    refine tidyG_congr (by simp [rawPlus]; omega) (by simp [rawPlus, h1.1]; omega) (by simp [rawPlus, h2.1]; omega) (fun k => ?_) (fun k => ?_)
    · simp only [rawPlus] at k ⊢
      rw [h1.1] at k
      exact h1.2 (by omega)
    · simp only [rawPlus] at k ⊢
      rw [h2.1] at k
      exact h2.2 (by omega)
  · rw [if_neg (fun k => h k.1), if_neg h]

theorem tidyG_zero {g r : G} (h : tidyG g = (r, 0)) : r = tidied g ∧ r.ok = true := by
  unfold tidyG at h
  split at h
  · rename_i hok
    simp only [Prod.mk.injEq, and_true] at h
    exact ⟨h.symm, h ▸ hok⟩
  · simp at h

theorem mulI_zero {x n : Int} (_hn : n ≠ 0) (hok : mulOk x n = true) : mulI x n = x * n := by
  unfold mulOk at hok
  simp only [decide_eq_true_eq] at hok
  unfold mulI
  by_cases h : x = 0 ∨ n = 0
  · rw [if_pos h]; rcases h with h | h <;> simp [h]
  · rw [if_neg h, if_neg (by omega)]

/-- A product, divided, is the glue again, tidied. -/
theorem times_over {x r : G} {n : Int} (h : timesG x n = (r, 0)) (hn : n ≠ 0) : overG r n = timesG x 1 ∧ (timesG x 1).2 = 0 := by
  unfold timesG at h
  by_cases hx : x.ok = true
  · rw [if_pos hx] at h
    by_cases hm : mulOk x.n n = true ∧ mulOk x.s n = true ∧ mulOk x.h n = true
    · rw [if_pos hm] at h
      obtain ⟨rfl, hrok⟩ := tidyG_zero h
      have e1 := mulI_zero hn hm.1
      have e2 := mulI_zero hn hm.2.1
      have e3 := mulI_zero hn hm.2.2
      have h1 : timesG x 1 = tidyG x := by
        unfold timesG
        rw [if_pos hx, if_pos ⟨decide_eq_true (by omega), decide_eq_true (by omega), decide_eq_true (by omega)⟩]
        rw [mulI_eq (by omega) (by omega), mulI_eq (by omega) (by omega), mulI_eq (by omega) (by omega)]
        exact tidyG_congr (by simp) (by simp) (by simp) (fun _ => rfl) (fun _ => rfl)
      have hz1 : x.s * n = 0 ↔ x.s = 0 := ⟨fun h => (Int.mul_eq_zero.1 h).resolve_right hn, fun h => by rw [h, Int.zero_mul]⟩
      have hz2 : x.h * n = 0 ↔ x.h = 0 := ⟨fun h => (Int.mul_eq_zero.1 h).resolve_right hn, fun h => by rw [h, Int.zero_mul]⟩
      refine ⟨?_, ?_⟩
      · rw [h1]
        unfold overG
        rw [if_pos hrok, if_neg hn]
        refine tidyG_congr ?_ ?_ ?_ (fun k => ?_) (fun k => ?_)
        · simp only [tidied, e1]; exact Int.mul_tdiv_cancel _ hn
        · simp only [tidied, e2]; exact Int.mul_tdiv_cancel _ hn
        · simp only [tidied, e3]; exact Int.mul_tdiv_cancel _ hn
        · simp only [tidied, e2, Int.mul_tdiv_cancel _ hn] at k ⊢
          rw [if_neg (by rw [hz1]; exact k)]
        · simp only [tidied, e3, Int.mul_tdiv_cancel _ hn] at k ⊢
          rw [if_neg (by rw [hz2]; exact k)]
      · rw [h1]
        unfold tidyG
        rw [if_pos]
        obtain ⟨o1, o2, o3, o4, o5⟩ := ok_iff.1 hx
        refine ok_iff.2 ⟨o1, o2, o3, ?_, ?_⟩
        · unfold tidied; simp only; split <;> omega
        · unfold tidied; simp only; split <;> omega
    · rw [if_neg hm] at h
      simp at h
  · rw [if_neg hx] at h
    simp at h

/-- Where nothing is below 0, sums associate. -/
theorem joinI_assoc {a o b p c q : Int} (ha : 0 ≤ a) (hb : 0 ≤ b) (hc : 0 ≤ c) :
    (joinI (joinI a o b p).1 (if (joinI a o b p).1 = 0 then 0 else (joinI a o b p).2) c q).1 = (joinI a o (joinI b p c q).1 (if (joinI b p c q).1 = 0 then 0 else (joinI b p c q).2)).1 ∧
    ((joinI (joinI a o b p).1 (if (joinI a o b p).1 = 0 then 0 else (joinI a o b p).2) c q).1 ≠ 0 →
      (joinI (joinI a o b p).1 (if (joinI a o b p).1 = 0 then 0 else (joinI a o b p).2) c q).2 = (joinI a o (joinI b p c q).1 (if (joinI b p c q).1 = 0 then 0 else (joinI b p c q).2)).2) := by
  by_cases h1 : a = 0
  · subst h1
    by_cases h2 : b = 0
    · subst h2
      by_cases h3 : c = 0 <;> simp [joinI, h3]
    · by_cases h3 : c = 0
      · simp [joinI, h2, h3]
      · rcases Int.lt_trichotomy p q with h4 | h4 | h4
        · simp [joinI, h2, h3, h4, show ¬ q < p by omega]
        · subst h4
          have : b + c ≠ 0 := by omega
          simp [joinI, h2, h3, this]
        · simp [joinI, h2, h3, h4]
  · by_cases h2 : b = 0
    · subst h2
      by_cases h3 : c = 0
      · simp [joinI, h1, h3]
      · simp [joinI, h1, h3]
    · by_cases h3 : c = 0
      · subst h3
        rcases Int.lt_trichotomy o p with h4 | h4 | h4
        · simp [joinI, h1, h2, h4, show ¬ p < o by omega]
        · subst h4
          have : a + b ≠ 0 := by omega
          simp [joinI, h1, h2, this]
        · simp [joinI, h1, h2, h4]
      · rcases Int.lt_trichotomy o p with h4 | h4 | h4 <;> rcases Int.lt_trichotomy p q with h5 | h5 | h5
        · simp [joinI, h1, h2, h3, h4, h5, show ¬ p < o by omega, show ¬ q < p by omega, show ¬ q < o by omega, show o < q by omega]
        · subst h5
          have : b + c ≠ 0 := by omega
          simp [joinI, h1, h2, h3, h4, show ¬ p < o by omega, this]
        · simp [joinI, h1, h2, h3, h4, h5, show ¬ p < o by omega]
        · subst h4
          have : a + b ≠ 0 := by omega
          simp [joinI, h1, h2, h3, h5, show ¬ q < o by omega, this]
        · subst h4; subst h5
          have : a + b ≠ 0 := by omega
          have : b + c ≠ 0 := by omega
          simp [joinI, *]
          omega
        · subst h4
          have : a + b ≠ 0 := by omega
          simp [joinI, h1, h2, h3, h5, this]
        · rcases Int.lt_trichotomy o q with h6 | h6 | h6
          · simp [joinI, h1, h2, h3, h4, h5, h6, show ¬ q < o by omega, show ¬ q < p by omega]
          · subst h6
            simp [joinI, h1, h2, h3, h4, show ¬ o < p by omega]
          · simp [joinI, h1, h2, h3, h4, h5, h6, show ¬ q < p by omega]
        · subst h5
          have : b + c ≠ 0 := by omega
          simp [joinI, h1, h2, h3, h4, this]
        · simp [joinI, h1, h2, h3, h4, h5, show q < o by omega]

theorem plusG_zero {x y r : G} (h : plusG x y = (r, 0)) : x.ok = true ∧ y.ok = true ∧ r = tidied (rawPlus x y) := by
  unfold plusG at h
  by_cases k : x.ok = true ∧ y.ok = true
  · rw [if_pos k] at h
    exact ⟨k.1, k.2, (tidyG_zero h).1⟩
  · rw [if_neg k] at h
    simp at h

theorem ite_alike {c : Prop} [Decidable c] {x y : Int} (h : ¬ c → x = y) : (if c then 0 else x) = (if c then 0 else y) := by
  by_cases k : c
  · rw [if_pos k, if_pos k]
  · rw [if_neg k, if_neg k, h k]

theorem plusG_assoc {a b c ab bc x y : G} (h1 : plusG a b = (ab, 0)) (h2 : plusG b c = (bc, 0)) (h3 : plusG ab c = (x, 0)) (h4 : plusG a bc = (y, 0))
    (s1 : 0 ≤ a.s) (s2 : 0 ≤ a.h) (s3 : 0 ≤ b.s) (s4 : 0 ≤ b.h) (s5 : 0 ≤ c.s) (s6 : 0 ≤ c.h) : x = y := by
  obtain ⟨_, _, rfl⟩ := plusG_zero h1
  obtain ⟨_, _, rfl⟩ := plusG_zero h2
  obtain ⟨_, _, rfl⟩ := plusG_zero h3
  obtain ⟨_, _, rfl⟩ := plusG_zero h4
  have e1 := joinI_assoc (o := a.a) (p := b.a) (q := c.a) s1 s3 s5
  have e2 := joinI_assoc (o := a.b) (p := b.b) (q := c.b) s2 s4 s6
  unfold tidied rawPlus
  refine G.ext' ?_ ?_ ?_ ?_ ?_
  · simp only; omega
  · exact e1.1
  · exact e2.1
  · simp only
    rw [← e1.1]
    exact ite_alike e1.2
  · simp only
    rw [← e2.1]
    exact ite_alike e2.2
end Go.Proofs.YtdjpfhmhcocfeaaDoor.Gl

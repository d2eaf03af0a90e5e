import Derived.Test.YtoboecenlangmaaGreatNx
/- A list's items are lists by themselves; what stands within one is one; in plain Lean. No Go in sight. Conditions: those that each theorem names. -/
namespace Go.Proofs.YtoboecenlangmaaGreat.Np
set_option linter.unusedVariables false
set_option linter.unusedSimpArgs false

/-- One node more, from less deep. -/
theorem stp_free {st st1 : List Int} {d d1 : Int} {x : Nd} (h : stp (st, d) x = some (st1, d1)) : d ≤ d1 ∧ ∀ e, e ≤ d → ∃ e1, stp (st, e) x = some (st1, e1) ∧ e1 ≤ d1 := by
  by_cases hR : right x = true
  · by_cases k6 : x.kind = 6
    · cases st with
      | nil => simp [stp, hR, k6] at h
      | cons t r =>
        by_cases ht : 0 < t
        · simp [stp, hR, k6, ht] at h
        · simp [stp, hR, k6, ht] at h
          obtain ⟨rfl, rfl⟩ := h
          exact ⟨Int.le_refl _, fun e he => ⟨e, by simp [stp, hR, k6, ht], he⟩⟩
    · by_cases k11 : x.kind = 11
      · cases st with
        | nil => simp [stp, hR, k6, k11] at h
        | cons t r =>
          by_cases ht : t < 1
          · simp [stp, hR, k6, k11, ht] at h
          · simp [stp, hR, k6, k11, ht] at h
            obtain ⟨rfl, rfl⟩ := h
            exact ⟨Int.le_refl _, fun e he => ⟨e, by simp [stp, hR, k6, k11, ht], he⟩⟩
      · cases hb : blocked st x
        · rw [stp_other hR k6 k11 hb] at h
          simp only [Option.some.injEq, Prod.mk.injEq] at h
          obtain ⟨h1, h2⟩ := h
          refine ⟨by omega, fun e he => ⟨max e (st.length + 1), ?_, by omega⟩⟩
          rw [stp_other hR k6 k11 hb]
          simp [h1]
        · rw [stp_blocked hR k6 k11 hb] at h
          cases h
  · simp [stp, hR] at h
theorem run_free : ∀ {l : List Nd} {st st1 : List Int} {d d1 : Int}, run l (st, d) = some (st1, d1) → d ≤ d1 ∧ ∀ e, e ≤ d → ∃ e1, run l (st, e) = some (st1, e1) ∧ e1 ≤ d1
  | [], st, st1, d, d1, h => by
    simp only [run, Option.some.injEq, Prod.mk.injEq] at h
    obtain ⟨rfl, rfl⟩ := h
    exact ⟨Int.le_refl _, fun e he => ⟨e, rfl, he⟩⟩
  | x :: l, st, st1, d, d1, h => by
    simp only [run] at h
    cases hs : stp (st, d) x with
    | none => rw [hs] at h; cases h
    | some s2 =>
      obtain ⟨st2, d2⟩ := s2
      rw [hs] at h
      simp only at h
      obtain ⟨g1, g2⟩ := stp_free hs
      obtain ⟨g3, g4⟩ := run_free h
      refine ⟨by omega, fun e he => ?_⟩
      obtain ⟨e1, h1, h2⟩ := g2 e he
      obtain ⟨e3, h3, h4⟩ := g4 e1 h2
      exact ⟨e3, by simp only [run, h1]; exact h3, h4⟩
/-- One node more, within a box. -/
theorem stp_boxd {st s1 : List Int} {d d1 e : Int} {x : Nd} (h : stp (st ++ [-1], d) x = some (s1, d1)) (hc : ¬ s1.length = 0) (he : e + 1 ≤ d) : ∃ st1 e1, s1 = st1 ++ [-1] ∧ stp (st, e) x = some (st1, e1) ∧ e1 + 1 ≤ d1 := by
  by_cases hR : right x = true
  · by_cases k6 : x.kind = 6
    · cases st with
      | nil =>
        simp [stp, hR, k6] at h
        obtain ⟨h1, _⟩ := h
        exact absurd (by rw [h1]; rfl) hc
      | cons t r =>
        simp only [List.cons_append] at h
        by_cases ht : 0 < t
        · simp [stp, hR, k6, ht] at h
        · simp [stp, hR, k6, ht] at h
          obtain ⟨rfl, rfl⟩ := h
          exact ⟨r, e, rfl, by simp [stp, hR, k6, ht], he⟩
    · by_cases k11 : x.kind = 11
      · cases st with
        | nil => simp [stp, hR, k6, k11] at h
        | cons t r =>
          simp only [List.cons_append] at h
          by_cases ht : t < 1
          · simp [stp, hR, k6, k11, ht] at h
          · simp [stp, hR, k6, k11, ht] at h
            obtain ⟨rfl, rfl⟩ := h
            exact ⟨(t - 1) :: r, e, rfl, by simp [stp, hR, k6, k11, ht], he⟩
      · have hbb : blocked (st ++ [-1]) x = blocked st x := by cases st <;> simp [blocked]
        cases hb : blocked st x
        · rw [stp_other hR k6 k11 (by rw [hbb, hb])] at h
          simp only [Option.some.injEq, Prod.mk.injEq] at h
          obtain ⟨h1, h2⟩ := h
          refine ⟨if opensB x = true then (if x.kind = 10 then 2 else -1) :: st else st, max e (st.length + 1), ?_, ?_, ?_⟩
          · rw [← h1]
            split <;> simp
          · rw [stp_other hR k6 k11 hb]
          · rw [← h2]
            simp only [List.length_append, List.length_cons, List.length_nil]
            omega
        · rw [stp_blocked hR k6 k11 (by rw [hbb, hb])] at h
          cases h
  · simp [stp, hR] at h
theorem run_base : ∀ {l : List Nd} {st s1 : List Int} {d d1 e : Int}, run l (st ++ [-1], d) = some (s1, d1) → endc l (st.length + 1) = none → e + 1 ≤ d → ∃ st1 e1, s1 = st1 ++ [-1] ∧ run l (st, e) = some (st1, e1) ∧ e1 + 1 ≤ d1
  | [], st, s1, d, d1, e, h, hc, he => by
    simp only [run, Option.some.injEq, Prod.mk.injEq] at h
    obtain ⟨rfl, rfl⟩ := h
    exact ⟨st, e, rfl, rfl, he⟩
  | x :: l, st, s1, d, d1, e, h, hc, he => by
    simp only [run] at h
    cases hs : stp (st ++ [-1], d) x with
    | none => rw [hs] at h; cases h
    | some s2 =>
      obtain ⟨st2, d2⟩ := s2
      rw [hs] at h
      simp only at h
      have hcn := stp_cnt hs
      simp only [List.length_append, List.length_cons, List.length_nil, Int.natCast_add, Int.natCast_zero] at hcn
      have e1 : ((st.length : Int) + ((0 : Int) + 1)) = st.length + 1 := by omega
      have hcn' : (st2.length : Int) = cnt x (st.length + 1) := by
        rw [hcn]
        congr 1
      simp only [endc] at hc
      split at hc
      · cases hc
      · rename_i hne
        have hc2 : endc l (cnt x (st.length + 1)) = none := by
          cases hh : endc l (cnt x (st.length + 1)) with
          | none => rfl
          | some v => rw [hh] at hc; cases hc
        obtain ⟨st3, e3, rfl, h3, h4⟩ := stp_boxd hs (by omega) he
        obtain ⟨st4, e4, rfl, h5, h6⟩ := run_base h (by
          rw [← hcn'] at hc2
          simpa using hc2) h4
        exact ⟨st4, e4, rfl, by simp only [run, h3]; exact h5, h6⟩
/-- Contents within a node. -/
def wrapL (n : Nd) (l : List Nd) : List Nd := n :: (l ++ [nz 6])
theorem right_end {z : Nd} (h : right z = true) (k : z.kind = 6) : z = nz 6 := by
  simp only [right, k] at h
  simp only [Bool.and_eq_true] at h
  have := (eqB_iff _ _).1 h.2.2
  exact this
/-- An item that opens, Discs apart: its contents are a list, and it is they, wrapped. -/
theorem item_wrap {p : List Nd} {x : Nd} {m : Nat} (hc : chk p = 0) (hm : endc p 0 = some m) (hl : p.length = m) (hx : p[0]? = some x) (h1 : 2 ≤ m) (h10 : ¬ x.kind = 10) :
    right x = true ∧ opensB x = true ∧ p = wrapL x ((p.drop 1).take (m - 2)) ∧ chk ((p.drop 1).take (m - 2)) = 0 := by
  obtain ⟨hl2, d, hrun, hd⟩ := chk_run hc
  have hrr := run_right hrun
  cases p with
  | nil => simp at hx
  | cons y q =>
    simp at hx
    subst hx
    have hR := hrr y (by simp)
    simp only [run] at hrun
    have hol : opensB y = true ∧ stp ([], 0) y = some ([-1], 1) := by
      cases hs : stp ([], 0) y with
      | none => rw [hs] at hrun; cases hrun
      | some s2 =>
        have k6 : ¬ y.kind = 6 := fun k6 => by simp [stp, hR, k6] at hs
        have k11 : ¬ y.kind = 11 := fun k11 => by simp [stp, hR, k6, k11] at hs
        have ho : opensB y = true := by
          rcases (show m = 1 ∨ ¬ cnt y 0 = 0 by
            simp only [endc] at hm
            split at hm
            · left; simpa using hm.symm
            · right; assumption) with h | h
          · omega
          · by_cases ho : opensB y = true
            · exact ho
            · simp [cnt, ho, k6] at h
        rw [stp_other hR k6 k11 rfl] at hs
        refine ⟨ho, ?_⟩
        rw [← hs]
        simp [ho, h10]
        rfl
    obtain ⟨ho, hs⟩ := hol
    rw [hs] at hrun
    simp only at hrun
    have hq : q.length = m - 1 := by simp at hl; omega
    obtain ⟨inner, z, rfl⟩ : ∃ inner z, q = inner ++ [z] := by
      have : q ≠ [] := by rintro rfl; simp at hq; omega
      exact ⟨q.dropLast, q.getLast this, (List.dropLast_concat_getLast this).symm⟩
    have hil : inner.length = m - 2 := by simp at hq; omega
    have hin : ((y :: (inner ++ [z])).drop 1).take (m - 2) = inner := by
      simp only [List.drop_succ_cons, List.drop_zero]
      rw [← hil, List.take_left]
    rw [hin]
    have he : endc (inner ++ [z]) 1 = some (m - 1) := by
      simp only [endc] at hm
      have hcy : cnt y 0 = 1 := by simp [cnt, ho]
      rw [hcy] at hm
      simp at hm
      obtain ⟨v, hv, hv2⟩ := hm
      rw [hv]
      congr 1
      omega
    have hen : endc inner 1 = none := by
      cases hh : endc inner 1 with
      | none => rfl
      | some v =>
        have h5 := endc_more [z] hh
        rw [he] at h5
        have h6 := (endc_bd hh).2
        simp at h5
        omega
    rw [run_append] at hrun
    cases hri : run inner ([-1], 1) with
    | none => rw [hri] at hrun; cases hrun
    | some s2 =>
      obtain ⟨st2, d2⟩ := s2
      rw [hri] at hrun
      simp only [Option.bind_some, run] at hrun
      obtain ⟨st1, e1, rfl, h5, h6⟩ := run_base (st := []) (e := 0) hri (by simpa using hen) (by omega)
      cases hz : stp (st1 ++ [-1], d2) z with
      | none => rw [hz] at hrun; cases hrun
      | some s3 =>
        rw [hz] at hrun
        simp only [Option.some.injEq] at hrun
        subst hrun
        have hcn := stp_cnt hz
        have hzr := hrr z (by simp)
        have hle := cnt_least z ((st1 ++ [-1]).length : Int)
        simp only [List.length_append, List.length_cons, List.length_nil] at hcn hle
        have hs0 : st1 = [] := List.eq_nil_of_length_eq_zero (by omega)
        subst hs0
        have hz6 : z.kind = 6 := by
          unfold cnt at hcn
          simp at hcn
          split at hcn
          · omega
          · split at hcn
            · assumption
            · omega
        have hd2 := (stp_free hz).1
        refine ⟨hR, ho, by rw [right_end hzr hz6]; rfl, chk_of (by simp at hl2; omega) h5 (by omega)⟩
/-- Where a walk over the items stands. -/
structure Stand (l : List Nd) (a : Nat) (ys : List Nat) : Prop where
  its : Its ys (l.drop a) a
  run : ∃ da dl, 0 ≤ da ∧ dl ≤ 40 ∧ run (l.drop a) ([], da) = some ([], dl)
  le : a ≤ l.length
theorem stand0 {l : List Nd} {xs : List Nat} (h : chk l = 0) (hx : Its xs l 0) : Stand l 0 xs := by
  obtain ⟨_, d, h1, h2⟩ := chk_run h
  exact ⟨hx, ⟨0, d, Int.le_refl _, h2, h1⟩, Nat.zero_le _⟩
theorem Stand.step {l : List Nd} {a : Nat} {ys : List Nat} (h : Stand l a ys) (hl : l.length ≤ 2000) (ha : a < l.length) : ∃ (m : Nat) (zs : List Nat) (x : Nd), ys = a :: zs ∧ endc (l.drop a) 0 = some m ∧ 1 ≤ m ∧ a + m ≤ l.length ∧ Stand l (a + m) zs ∧ chk ((l.drop a).take m) = 0 ∧
    l[a]? = some x ∧ ¬ x.kind = 6 ∧ ¬ x.kind = 11 := by
  obtain ⟨hi, ⟨da, dl, h0, h40, hr⟩, hle⟩ := h
  have hne : l.drop a ≠ [] := by
    intro hh
    have := congrArg List.length hh
    simp at this
    omega
  cases ys with
  | nil => exact absurd hi hne
  | cons y zs =>
    obtain ⟨rfl, m, hm, hz⟩ := hi
    obtain ⟨m', d1, hm', hr1, hr2⟩ := run_item hr hne
    have : m' = m := by
      have e : endc (l.drop y) 0 = some m' := by simpa using hm'
      rw [hm] at e
      simpa using e.symm
    subst this
    have hb := endc_bd hm
    rw [List.length_drop] at hb
    obtain ⟨g1, _⟩ := run_free hr2
    obtain ⟨g2, g3⟩ := run_free hr1
    obtain ⟨e1, g4, g5⟩ := g3 0 h0
    obtain ⟨x, hx⟩ : ∃ x, l[y]? = some x := ⟨_, List.getElem?_eq_getElem ha⟩
    have hcons : l.drop y = x :: l.drop (y + 1) := by
      rw [List.drop_eq_getElem_cons ha]
      have : l[y] = x := by
        have := List.getElem?_eq_getElem ha
        rw [hx] at this
        simpa using this.symm
      rw [this]
    refine ⟨m', zs, x, rfl, hm, hb.1, by omega, ⟨?_, ⟨d1, dl, by omega, h40, ?_⟩, by omega⟩, chk_of (by simp only [List.length_take, List.length_drop]; omega) g4 (by omega), hx, ?_, ?_⟩
    · rw [List.drop_drop] at hz
      exact hz
    · rw [List.drop_drop] at hr2
      exact hr2
    · intro k6
      rw [hcons] at hr
      simp only [Np.run] at hr
      by_cases hR : right x = true
      · simp [stp, hR, k6] at hr
      · simp [stp, hR] at hr
    · intro k11
      rw [hcons] at hr
      simp only [Np.run] at hr
      by_cases hR : right x = true
      · simp [stp, hR, k11] at hr
      · simp [stp, hR] at hr
theorem Stand.done {l : List Nd} {ys : List Nat} (h : Stand l l.length ys) : ys = [] := by
  have hi := h.its
  rw [List.drop_length] at hi
  cases ys with
  | nil => rfl
  | cons y zs =>
    obtain ⟨_, m, hm, _⟩ := hi
    simp [endc] at hm
end Go.Proofs.YtoboecenlangmaaGreat.Np

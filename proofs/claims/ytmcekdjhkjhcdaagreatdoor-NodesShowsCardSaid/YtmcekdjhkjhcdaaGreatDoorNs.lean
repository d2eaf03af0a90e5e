import Derived.Test.YtmcekdjhkjhcdaaGreatDoorNr
/- Sizes of lists of nodes, in plain Lean: along a row, down a column. No Go in sight. Conditions: those that each theorem names. -/
namespace Go.Proofs.YtmcekdjhkjhcdaaGreatDoor.Np

/-- How long a node is that is no Disc. -/
def alongP (n : Nd) (down : Bool) : Int :=
  if n.kind = 7 then n.gn
  else if n.kind = 8 then n.wd
  else if n.kind = 3 ∨ n.kind = 4 ∨ n.kind = 5 then (if down = true then n.ht + n.dp else n.wd)
  else if n.kind = 1 ∨ n.kind = 2 ∨ n.kind = 15 ∨ n.kind = 16 then (if down = true then 0 else n.wd)
  else 0
def dm (x : Int) : Prop := -1073741823 ≤ x ∧ x ≤ 1073741823
theorem dm_of {x : Int} (h : dimB x = true) : dm x := by simpa [dimB, dm] using h
theorem right_kind {n : Nd} {k : Nat} (h : right n = true) (hk : n.kind = (k : Int)) : goodK k n = true := by
  unfold right at h
  simp only [Bool.and_eq_true] at h
  have e : n.kind.toNat = k := by omega
  rw [e] at h
  exact h.2.1
/-- The dimensions of nodes that have them. -/
theorem right_wd {n : Nd} (h : right n = true) (hk : n.kind = 1 ∨ n.kind = 2 ∨ n.kind = 3 ∨ n.kind = 4 ∨ n.kind = 5 ∨ n.kind = 8 ∨ n.kind = 15 ∨ n.kind = 16) : dm n.wd := by
  rcases hk with e | e | e | e | e | e | e | e
  · have := right_kind (k := 1) h e; simp [goodK, gGlyph] at this; exact dm_of this.2.1
  · have := right_kind (k := 2) h e; simp [goodK, gGlyph] at this; exact dm_of this.1.2.1
  · have := right_kind (k := 3) h e; simp [goodK, gRule] at this; exact dm_of this.1.1.2.1
  · have := right_kind (k := 4) h e; simp [goodK, gBox] at this; exact dm_of this.1.1
  · have := right_kind (k := 5) h e; simp [goodK, gBox] at this; exact dm_of this.1.1
  · have := right_kind (k := 8) h e; simp [goodK] at this; exact dm_of this.1
  · have := right_kind (k := 15) h e; simp [goodK] at this; exact dm_of this
  · have := right_kind (k := 16) h e; simp [goodK] at this; exact dm_of this
theorem right_hd {n : Nd} (h : right n = true) (hk : n.kind = 1 ∨ n.kind = 2 ∨ n.kind = 3 ∨ n.kind = 4 ∨ n.kind = 5) : dm n.ht ∧ dm n.dp := by
  rcases hk with e | e | e | e | e
  · have := right_kind (k := 1) h e; simp [goodK, gGlyph] at this; exact ⟨dm_of this.2.2.1, dm_of this.2.2.2⟩
  · have := right_kind (k := 2) h e; simp [goodK, gGlyph] at this; exact ⟨dm_of this.1.2.2.1, dm_of this.1.2.2.2⟩
  · have := right_kind (k := 3) h e; simp [goodK, gRule] at this; exact ⟨dm_of this.1.1.2.2.1, dm_of this.1.1.2.2.2⟩
  · have := right_kind (k := 4) h e; simp [goodK, gBox] at this; exact ⟨dm_of this.1.2.1, dm_of this.1.2.2.1⟩
  · have := right_kind (k := 5) h e; simp [goodK, gBox] at this; exact ⟨dm_of this.1.2.1, dm_of this.1.2.2.1⟩
theorem right_glue {n : Nd} (h : right n = true) (hk : n.kind = 7) : dm n.gn ∧ dm n.gs ∧ dm n.gh ∧ 0 ≤ n.ga ∧ n.ga ≤ 3 ∧ 0 ≤ n.gb ∧ n.gb ≤ 3 := by
  have := right_kind (k := 7) h hk
  simp only [goodK, glB, Bool.and_eq_true, beq_iff_eq] at this
  have h2 := Gl.chk_ok this.1
  simp only [Gl.glueB, decide_eq_true_eq] at h2
  unfold dm
  omega
theorem along_bd {n : Nd} (h : right n = true) (down : Bool) : -2147483646 ≤ alongP n down ∧ alongP n down ≤ 2147483646 := by
  unfold alongP
  split
  · have := (right_glue h (by assumption)).1; unfold dm at this; omega
  · split
    · have := right_wd h (by omega); unfold dm at this; omega
    · split
      · have h1 := right_wd h (by omega)
        have h2 := right_hd h (by omega)
        unfold dm at h1 h2
        split <;> omega
      · split
        · have h1 := right_wd h (by omega)
          unfold dm at h1
          split <;> omega
        · omega

/-- Totals: the natural size, and what can be stretched and shrunk, by orders. -/
structure Tot where
  nat : Int
  st : List Int
  sh : List Int
def tz : Tot := ⟨0, [0, 0, 0, 0], [0, 0, 0, 0]⟩
/-- One item more, of this size. -/
def tstep (T : Tot) (n : Nd) (v : Int) : Tot :=
  if n.kind = 7 then ⟨T.nat + v, T.st.set n.ga.toNat (T.st.getD n.ga.toNat 0 + n.gs), T.sh.set n.gb.toNat (T.sh.getD n.gb.toNat 0 + n.gh)⟩
  else ⟨T.nat + v, T.st, T.sh⟩
/-- All items. -/
def tsum (ns : List Nd) (al : Nat → Int) : List Nat → Tot → Tot
  | [], T => T
  | x :: xs, T => match ns[x]? with
    | none => tsum ns al xs T
    | some n => tsum ns al xs (tstep T n (al x))
/-- Totals of k items are no greater than this. -/
structure TB (k : Nat) (T : Tot) : Prop where
  nat : -(4294967292000 * (k : Int)) ≤ T.nat ∧ T.nat ≤ 4294967292000 * (k : Int)
  st4 : T.st.length = 4
  sh4 : T.sh.length = 4
  st : ∀ i : Nat, -(1073741823 * (k : Int)) ≤ T.st.getD i 0 ∧ T.st.getD i 0 ≤ 1073741823 * (k : Int)
  sh : ∀ i : Nat, -(1073741823 * (k : Int)) ≤ T.sh.getD i 0 ∧ T.sh.getD i 0 ≤ 1073741823 * (k : Int)
theorem tz_get (i : Nat) : [(0 : Int), 0, 0, 0].getD i 0 = 0 := by
  match i with
  | 0 => rfl
  | 1 => rfl
  | 2 => rfl
  | 3 => rfl
  | i + 4 => rfl
theorem TB.zero : TB 0 tz := ⟨by simp [tz], rfl, rfl, fun i => by simp only [tz]; rw [tz_get]; omega, fun i => by simp only [tz]; rw [tz_get]; omega⟩
theorem set_getD (l : List Int) (i j : Nat) (x : Int) : (l.set i x).getD j 0 = if i = j ∧ i < l.length then x else l.getD j 0 := by
  simp only [List.getD_eq_getElem?_getD, List.getElem?_set]
  by_cases h : i = j
  · subst h
    by_cases h2 : i < l.length
    · simp [h2]
    · simp [h2]
  · simp [h]
theorem TB.step {k : Nat} {T : Tot} {n : Nd} {v : Int} (h : TB k T) (hr : right n = true) (hv : -4294967292000 ≤ v ∧ v ≤ 4294967292000) : TB (k + 1) (tstep T n v) := by
  obtain ⟨h1, h2, h3, h4, h5⟩ := h
  unfold tstep
  split
  · rename_i h7
    obtain ⟨g1, g2, g3, g4, g5, g6, g7⟩ := right_glue hr h7
    unfold dm at g2 g3
    refine ⟨by simp only; omega, by simp [h2], by simp [h3], fun i => ?_, fun i => ?_⟩
    · simp only
      rw [set_getD]
      have a := h4 i
      have b := h4 n.ga.toNat
      split <;> omega
    · simp only
      rw [set_getD]
      have a := h5 i
      have b := h5 n.gb.toNat
      split <;> omega
  · exact ⟨by simp only; omega, h2, h3, fun i => by have := h4 i; simp only; omega, fun i => by have := h5 i; simp only; omega⟩
/-- The nodes of a good list are right. -/
theorem run_right : ∀ {l : List Nd} {s s' : St}, run l s = some s' → ∀ x ∈ l, right x = true
  | [], _, _, _, x, hx => by cases hx
  | y :: l, s, s', h, x, hx => by
    simp only [run] at h
    cases h1 : stp s y with
    | none => rw [h1] at h; cases h
    | some s1 =>
      rw [h1] at h
      rcases List.mem_cons.1 hx with rfl | hx
      · cases hr : right x
        · simp [stp, hr] at h1
        · rfl
      · exact run_right h x hx
theorem chk_right {l : List Nd} (h : chk l = 0) : ∀ x ∈ l, right x = true := by
  obtain ⟨_, d, h1, _⟩ := chk_run h
  exact run_right h1
end Go.Proofs.YtmcekdjhkjhcdaaGreatDoor.Np

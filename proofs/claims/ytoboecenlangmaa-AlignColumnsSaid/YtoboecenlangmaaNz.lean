import Derived.Test.YtoboecenlangmaaNy
/- The extent of a list of nodes, along a row and down a column, in plain Lean. No Go in sight. Conditions: those that each theorem names. -/
namespace Go.Proofs.Ytoboecenlangmaa.Np
set_option linter.unusedVariables false

/-- A node's height and depth in a row; no Disc. -/
def rowP (n : Nd) : Int × Int :=
  if n.kind = 1 ∨ n.kind = 2 ∨ n.kind = 3 then (n.ht, n.dp)
  else if n.kind = 4 ∨ n.kind = 5 then (n.ht - n.shift, n.dp + n.shift)
  else (0, 0)
def rstep (s v : Int × Int) : Int × Int := (max s.1 v.1, max s.2 v.2)
def rfold (ra : Nat → Int × Int) : List Nat → Int × Int → Int × Int
  | [], s => s
  | x :: xs, s => rfold ra xs (rstep s (ra x))
/-- No greater than this, and no less than 0. -/
def RB (s : Int × Int) : Prop := 0 ≤ s.1 ∧ s.1 ≤ 2147483646 ∧ 0 ≤ s.2 ∧ s.2 ≤ 2147483646
def RV (v : Int × Int) : Prop := -2147483646 ≤ v.1 ∧ v.1 ≤ 2147483646 ∧ -2147483646 ≤ v.2 ∧ v.2 ≤ 2147483646
theorem RB.step {s v : Int × Int} (h : RB s) (g : RV v) : RB (rstep s v) := by
  unfold RB RV at *
  unfold rstep
  simp only
  omega
theorem RB.rv {s : Int × Int} (h : RB s) : RV s := by unfold RB RV at *; omega
theorem rfold_rb {ra : Nat → Int × Int} : ∀ {xs : List Nat} {s : Int × Int}, RB s → (∀ x ∈ xs, RV (ra x)) → RB (rfold ra xs s)
  | [], s, h, g => h
  | x :: xs, s, h, g => by
    simp only [rfold]
    exact rfold_rb (h.step (g x (by simp))) (fun y hy => g y (by simp [hy]))
theorem rowP_rv {n : Nd} (h : right n = true) : RV (rowP n) := by
  unfold rowP RV
  by_cases h3 : n.kind = 1 ∨ n.kind = 2 ∨ n.kind = 3
  · have hd := right_hd h (by omega)
    unfold dm at hd
    rw [if_pos h3]
    simp only
    omega
  · rw [if_neg h3]
    by_cases h4 : n.kind = 4 ∨ n.kind = 5
    · have hd := right_hd h (by omega)
      unfold dm at hd
      have hs : dimB n.shift = true := by
        rcases h4 with h4 | h4
        · have := right_kind (k := 4) h h4
          simp only [goodK, gBox, Bool.and_eq_true] at this
          exact this.1.2.2.2
        · have := right_kind (k := 5) h h4
          simp only [goodK, gBox, Bool.and_eq_true] at this
          exact this.1.2.2.2
      have hs2 := dm_of hs
      unfold dm at hs2
      rw [if_pos h4]
      simp only
      omega
    · rw [if_neg h4]
      simp only
      omega
def ra0 (l : List Nd) (x : Nat) : Int × Int := match l[x]? with
  | none => (0, 0)
  | some n => rowP n
theorem ra0_rv {l : List Nd} (hr : ∀ x ∈ l, right x = true) (x : Nat) : RV (ra0 l x) := by
  unfold ra0
  split
  · unfold RV; simp only; omega
  · rename_i n hn
    exact rowP_rv (hr n (List.mem_of_getElem? hn))
/-- How high and how deep the item at a place is. -/
def RoV (ns : List Nd) (x : Nat) (v : Int × Int) : Prop :=
  ∃ n, ns[x]? = some n ∧ (if n.kind = 10 then
    ∃ ss m xs, D3 ss (ns.drop (x + 1)) 0 m ∧ Its xs (thr ss (ns.drop (x + 1)) 0 2) 0 ∧ v = rfold (ra0 (thr ss (ns.drop (x + 1)) 0 2)) xs (0, 0)
  else v = rowP n)
theorem RoV.unique {ns : List Nd} {x : Nat} {v u : Int × Int} (h : RoV ns x v) (k : RoV ns x u) : v = u := by
  obtain ⟨n, hn, h⟩ := h
  obtain ⟨n', hn', k⟩ := k
  rw [hn] at hn'
  injection hn' with e
  subst e
  split at h
  · rename_i hc
    rw [if_pos hc] at k
    obtain ⟨ss, m, xs, h1, h2, h3⟩ := h
    obtain ⟨tt, q, ys, k1, k2, k3⟩ := k
    have e1 := D3.unique h1 k1
    subst e1
    have e2 := Its.unique h2 k2
    subst e2
    rw [h3, k3]
  · rename_i hc
    rw [if_neg hc] at k
    rw [h, k]
open Classical in
noncomputable def roD (ns : List Nd) (x : Nat) : Int × Int := if h : ∃ v, RoV ns x v then h.choose else (0, 0)
theorem roD_of {ns : List Nd} {x : Nat} {v : Int × Int} (h : RoV ns x v) : roD ns x = v := by
  have hx : ∃ v, RoV ns x v := ⟨v, h⟩
  unfold roD
  rw [dif_pos hx]
  exact RoV.unique hx.choose_spec h
theorem RoV.rv {ns : List Nd} (hr : ∀ x ∈ ns, right x = true) {x : Nat} {v : Int × Int} (h : RoV ns x v) : RV v := by
  obtain ⟨n, hn, h⟩ := h
  split at h
  · obtain ⟨ss, m, xs, h1, h2, rfl⟩ := h
    refine (rfold_rb (by unfold RB; simp only; omega) fun y _ => ra0_rv (fun z hz => hr z (List.mem_of_mem_drop (thr_mem z hz))) y).rv
  · rw [h]
    exact rowP_rv (hr n (List.mem_of_getElem? hn))
theorem roD_rv {ns : List Nd} (hr : ∀ x ∈ ns, right x = true) (x : Nat) : RV (roD ns x) := by
  unfold roD
  split
  · rename_i h
    exact h.choose_spec.rv hr
  · unfold RV; simp only; omega
/-- One item more, down a column. -/
def cstep (s : Int × Int) (n : Nd) : Int × Int :=
  if n.kind = 3 then (max s.1 n.wd, n.dp)
  else if n.kind = 4 ∨ n.kind = 5 then (max s.1 (n.wd + n.shift), n.dp)
  else (s.1, 0)
def cfold (ns : List Nd) : List Nat → Int × Int → Int × Int
  | [], s => s
  | x :: xs, s => match ns[x]? with
    | none => cfold ns xs s
    | some n => cfold ns xs (cstep s n)
end Go.Proofs.Ytoboecenlangmaa.Np

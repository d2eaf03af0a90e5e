import Derived.Test.YtmcekdjhkjhcdaaHq
/- The layer hyph, in plain Lean: which patterns fit where, and the values between a word's letters. No function of the program. Conditions: those that each theorem names. -/
namespace Go.Proofs.Ytmcekdjhkjhcdaa.Hp
set_option linter.unusedVariables false

abbrev Yd := Nat × List Int
def yl (P : List Pt) (e : Nm) (i m : Nat) : List Yd := (List.range m).filterMap fun L => (luk P ((e.drop i).take (L + 1))).map fun v => (i, v)
theorem yl_succ (P : List Pt) (e : Nm) (i m : Nat) : yl P e i (m + 1) = yl P e i m ++ ((luk P ((e.drop i).take (m + 1))).map fun v => (i, v)).toList := by
  unfold yl
  rw [List.range_succ, List.filterMap_append]
  congr 1
theorem yl_stop {P : List Pt} (h : Pats P) {e : Nm} {i m : Nat} (hn : (e.drop i).take (m + 1) ∉ nsOf P) : ∀ d, yl P e i (m + d) = yl P e i m
  | 0 => rfl
  | d + 1 => by
    rw [← Nat.add_assoc, yl_succ, yl_stop h hn d]
    have h1 : luk P ((e.drop i).take (m + d + 1)) = none := by
      rw [luk_none]
      intro q hq he
      apply hn
      have h2 := up_take h.tri (m + 1) _ (h.mem hq)
      rw [he, List.take_take, Nat.min_eq_left (by omega)] at h2
      exact h2
    rw [h1]
    simp
def ya (P : List Pt) (e : Nm) (n : Nat) : List Yd := (List.range n).flatMap fun i => yl P e i (e.length - i)
theorem ya_succ (P : List Pt) (e : Nm) (n : Nat) : ya P e (n + 1) = ya P e n ++ yl P e n (e.length - n) := by simp [ya, List.range_succ]
/-- A value that comes to place k. -/
def cb (y : Yd) (k : Nat) : Int := if y.1 ≤ k then y.2.getD (k - y.1) 0 else 0
def mx (ys : List Yd) (k : Nat) : Int := ys.foldl (fun a y => max a (cb y k)) 0
theorem mx_snoc (ys : List Yd) (y : Yd) (k : Nat) : mx (ys ++ [y]) k = max (mx ys k) (cb y k) := by simp [mx]
theorem fold_le (f : Yd → Int) : ∀ (ys : List Yd) (a b : Int), ys.foldl (fun a y => max a (f y)) a ≤ b ↔ a ≤ b ∧ ∀ y ∈ ys, f y ≤ b
  | [], a, b => by simp
  | y :: ys, a, b => by
    simp only [List.foldl_cons, List.mem_cons, forall_eq_or_imp]
    rw [fold_le f ys]
    constructor
    · rintro ⟨h1, h2⟩; exact ⟨by omega, by omega, h2⟩
    · rintro ⟨h1, h2, h3⟩; exact ⟨by omega, h3⟩
theorem mx_le (ys : List Yd) (k : Nat) (b : Int) : mx ys k ≤ b ↔ 0 ≤ b ∧ ∀ y ∈ ys, cb y k ≤ b := fold_le _ ys 0 b
theorem mx_nonneg (ys : List Yd) (k : Nat) : 0 ≤ mx ys k := ((mx_le ys k _).1 (Int.le_refl _)).1
theorem cb_le_mx {ys : List Yd} {y : Yd} (h : y ∈ ys) (k : Nat) : cb y k ≤ mx ys k := ((mx_le ys k _).1 (Int.le_refl _)).2 y h
/-- While a yield is being put in: q of its values are. -/
def mxq (ys : List Yd) (y : Yd) (q k : Nat) : Int := if y.1 ≤ k ∧ k < y.1 + q then max (mx ys k) (cb y k) else mx ys k
theorem mxq_zero (ys : List Yd) (y : Yd) (k : Nat) : mxq ys y 0 k = mx ys k := by
  unfold mxq
  rw [if_neg (by omega)]
theorem mxq_all (ys : List Yd) (y : Yd) (k : Nat) : mxq ys y y.2.length k = mx (ys ++ [y]) k := by
  rw [mx_snoc]
  unfold mxq
  have h0 := mx_nonneg ys k
  split
  · rfl
  · rename_i h
    have : cb y k = 0 := by
      unfold cb
      split
      · rw [List.getD_eq_getElem?_getD, List.getElem?_eq_none (by omega)]; rfl
      · rfl
    omega
theorem mxq_succ (ys : List Yd) (y : Yd) (q k : Nat) : mxq ys y (q + 1) k = if k = y.1 + q then max (mx ys k) (y.2.getD q 0) else mxq ys y q k := by
  unfold mxq
  by_cases h : k = y.1 + q
  · subst h
    rw [if_pos (by omega), if_pos rfl]
    unfold cb
    rw [if_pos (by omega), Nat.add_sub_cancel_left]
  · rw [if_neg h]
    by_cases h2 : y.1 ≤ k ∧ k < y.1 + q
    · rw [if_pos h2, if_pos (by omega)]
    · rw [if_neg h2, if_neg (by omega)]
def rowq (n : Nat) (ys : List Yd) (y : Yd) (q : Nat) : List Int := (List.range n).map (mxq ys y q)
def row0 (n : Nat) (ys : List Yd) : List Int := (List.range n).map (mx ys)
theorem rowq_zero (n : Nat) (ys : List Yd) (y : Yd) : rowq n ys y 0 = row0 n ys := by
  unfold rowq row0
  exact List.map_congr_left fun k _ => mxq_zero ys y k
theorem rowq_all (n : Nat) (ys : List Yd) (y : Yd) : rowq n ys y y.2.length = row0 n (ys ++ [y]) := by
  unfold rowq row0
  exact List.map_congr_left fun k _ => mxq_all ys y k
theorem rowq_get {n : Nat} (ys : List Yd) (y : Yd) (q : Nat) {k : Nat} (h : k < n) : (rowq n ys y q)[k]? = some (mxq ys y q k) := by
  unfold rowq
  rw [List.getElem?_map, List.getElem?_range h]
  rfl
theorem mxq_here (ys : List Yd) (y : Yd) (q : Nat) : mxq ys y q (y.1 + q) = mx ys (y.1 + q) := by
  unfold mxq
  rw [if_neg (by omega)]
theorem rowq_succ {n : Nat} (ys : List Yd) (y : Yd) (q : Nat) (h : y.1 + q < n) : (rowq n ys y q).set (y.1 + q) (max (mx ys (y.1 + q)) (y.2.getD q 0)) = rowq n ys y (q + 1) := by
  apply List.ext_getElem?
  intro k
  by_cases hk : k < n
  · rw [rowq_get ys y (q + 1) hk, List.getElem?_set, mxq_succ]
    by_cases he : y.1 + q = k
    · subst he
      rw [if_pos rfl, if_pos (by simpa [rowq] using hk), if_pos rfl]
    · rw [if_neg he, if_neg (fun e => he e.symm), rowq_get ys y q hk]
  · rw [List.getElem?_eq_none (by simp [rowq]; omega), List.getElem?_eq_none (by simp [rowq]; omega)]
theorem row0_len (n : Nat) (ys : List Yd) : (row0 n ys).length = n := by simp [row0]
theorem rowq_len (n : Nat) (ys : List Yd) (y : Yd) (q : Nat) : (rowq n ys y q).length = n := by simp [rowq]
theorem row0_nil (n : Nat) : row0 n [] = List.replicate n 0 := by
  apply List.ext_getElem?
  intro k
  by_cases hk : k < n
  · rw [List.getElem?_replicate, if_pos hk]
    unfold row0
    rw [List.getElem?_map, List.getElem?_range hk]
    rfl
  · rw [List.getElem?_eq_none (by simp [row0]; omega), List.getElem?_eq_none (by simp; omega)]
/-- The edged word; the values ahead of each of its signs, and behind the last; those between the word's letters. -/
def edg (w : Nm) : Nm := 46 :: (w ++ [46])
theorem edg_len (w : Nm) : (edg w).length = w.length + 2 := by simp [edg]
def vrow (P : List Pt) (w : Nm) : List Int := row0 (w.length + 3) (ya P (edg w) (w.length + 2))
def vals (P : List Pt) (w : Nm) : List Int := ((vrow P w).drop 2).take (w.length - 1)
theorem vals_len (P : List Pt) (w : Nm) : (vals P w).length = w.length - 1 := by
  unfold vals vrow
  rw [List.length_take, List.length_drop, row0_len]
  omega
theorem vals_get (P : List Pt) (w : Nm) {k : Nat} (h : k < w.length - 1) : (vals P w)[k]? = some (mx (ya P (edg w) (w.length + 2)) (k + 2)) := by
  unfold vals vrow row0
  rw [List.getElem?_take, if_pos h, List.getElem?_drop, List.getElem?_map, List.getElem?_range (by omega)]
  simp [Nat.add_comm]
/-- Which values come: those of the patterns that fit, where they do. -/
theorem mem_ya {P : List Pt} (h : Pats P) (e : Nm) (y : Yd) : y ∈ ya P e e.length ↔ ∃ s, (s, y.2) ∈ P ∧ y.1 < e.length ∧ (e.drop y.1).take s.length = s := by
  unfold ya
  simp only [List.mem_flatMap, List.mem_range]
  constructor
  · rintro ⟨i, hi, hy⟩
    unfold yl at hy
    simp only [List.mem_filterMap, List.mem_range, Option.map_eq_some_iff] at hy
    obtain ⟨L, hL, v, hv, rfl⟩ := hy
    refine ⟨(e.drop i).take (L + 1), (luk_some h.nodup).1 hv, hi, ?_⟩
    simp only
    rw [List.length_take, List.length_drop, Nat.min_eq_left (by omega)]
  · rintro ⟨s, hs, hi, hf⟩
    refine ⟨y.1, hi, ?_⟩
    unfold yl
    simp only [List.mem_filterMap, List.mem_range, Option.map_eq_some_iff]
    have hp := (h.is _ hs).2.1
    have hl := congrArg List.length hf
    rw [List.length_take, List.length_drop] at hl
    refine ⟨s.length - 1, ?_, y.2, ?_, rfl⟩
    · simp only at hp; omega
    · simp only at hp
      rw [show s.length - 1 + 1 = s.length by omega, hf]
      exact (luk_some h.nodup).2 hs
end Go.Proofs.Ytmcekdjhkjhcdaa.Hp

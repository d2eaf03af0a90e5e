import Derived.Test.YtmcekdjhkjhcdaaHp
import Derived.Test.YtmcekdjhkjhcdaaMem
/- The layer hyph, in plain Lean: the trie as the list of its states' names; what fits where. No function of the program. Conditions: those that each theorem names. -/
namespace Go.Proofs.Ytmcekdjhkjhcdaa.Hp
open Me
set_option linter.unusedVariables false

abbrev Nm := List UInt8
/-- Where a name stands; 0 where it does not. -/
def ix (ns : List Nm) (s : Nm) : Nat := if s ∈ ns then ns.idxOf s else 0
structure Tri (ns : List Nm) : Prop where
  nodup : ns.Nodup
  head : ns[0]? = some []
  up : ∀ s c, s ++ [c] ∈ ns → s ∈ ns ∧ okS c = true
def grow (ns : List Nm) (s : Nm) : List Nm := if s ∈ ns then ns else ns ++ [s]
def insTo (ns : List Nm) (s : Nm) : Nat → List Nm
  | 0 => ns
  | i + 1 => grow (insTo ns s i) (s.take (i + 1))
abbrev Pt := Nm × List Int
def nsOf (P : List Pt) : List Nm := P.foldl (fun ns p => insTo ns p.1 p.1.length) [[]]
theorem nsOf_snoc (P : List Pt) (p : Pt) : nsOf (P ++ [p]) = insTo (nsOf P) p.1 p.1.length := by simp [nsOf]

section
variable {ns : List Nm} {s : Nm} {c : UInt8}
theorem Tri.one : Tri [[]] := ⟨by simp, rfl, fun s c h => by simp at h⟩
theorem Tri.nil_mem (h : Tri ns) : [] ∈ ns := List.mem_of_getElem? h.head
theorem ix_lt (h : Tri ns) (s : Nm) : ix ns s < ns.length := by
  unfold ix
  split
  · rename_i hm; exact List.idxOf_lt_length_of_mem hm
  · exact List.length_pos_of_mem h.nil_mem
theorem ix_get (hs : s ∈ ns) : ns[ix ns s]? = some s := by
  unfold ix
  rw [if_pos hs, List.getElem?_eq_getElem (List.idxOf_lt_length_of_mem hs)]
  simp
theorem ix_no (hs : s ∉ ns) : ix ns s = 0 := if_neg hs
theorem ix_nil (h : Tri ns) : ix ns [] = 0 := by
  have h1 := ix_get h.nil_mem
  have h2 := ix_lt h []
  exact (List.getElem?_inj h2 h.nodup).1 (h1.trans h.head.symm)
theorem ix_pos (h : Tri ns) (hs : s ∈ ns) (hn : s ≠ []) : 0 < ix ns s := by
  rcases Nat.eq_zero_or_pos (ix ns s) with h0 | h0
  · have h1 := ix_get hs
    rw [h0, h.head] at h1
    injection h1 with h1
    exact absurd h1.symm hn
  · exact h0
theorem ix_zero (h : Tri ns) (hn : s ≠ []) : ix ns s = 0 ↔ s ∉ ns := by
  constructor
  · intro h0 hs
    have := ix_pos h hs hn
    omega
  · exact ix_no
theorem ix_at (h : Tri ns) {k : Nat} (hk : ns[k]? = some s) : ix ns s = k := by
  have hm := List.mem_of_getElem? hk
  have h1 := ix_get hm
  exact (List.getElem?_inj (ix_lt h s) h.nodup).1 (h1.trans hk.symm)
theorem ix_append (hs : s ∈ ns) (l : List Nm) : ix (ns ++ l) s = ix ns s := by
  unfold ix
  rw [if_pos hs, if_pos (by simp [hs]), List.idxOf_append, if_pos hs]
theorem ix_new (hs : s ∉ ns) : ix (ns ++ [s]) s = ns.length := by
  unfold ix
  rw [if_pos (by simp), List.idxOf_append, if_neg hs]
  simp
theorem ix_other {t : Nm} (hst : t ≠ s) : ix (ns ++ [s]) t = ix ns t := by
  by_cases ht : t ∈ ns
  · exact ix_append ht _
  · rw [ix_no ht, ix_no (by simp [ht, hst])]
theorem mem_grow : s ∈ grow ns s := by
  unfold grow
  split
  · assumption
  · simp
theorem grow_mono {t : Nm} (ht : t ∈ ns) : t ∈ grow ns s := by
  unfold grow
  split
  · exact ht
  · simp [ht]
theorem Tri.grow (h : Tri ns) (hs : s ∈ ns) (hc : okS c = true) : Tri (grow ns (s ++ [c])) := by
  unfold Hp.grow
  split
  · exact h
  · rename_i hn
    refine ⟨?_, ?_, ?_⟩
    · rw [List.nodup_append]
      refine ⟨h.nodup, by simp, fun a ha b hb => ?_⟩
      simp at hb
      subst hb
      exact fun e => hn (e ▸ ha)
    · have := List.length_pos_of_mem h.nil_mem
      rw [List.getElem?_append_left this]
      exact h.head
    · intro t d ht
      simp only [List.mem_append, List.mem_singleton] at ht
      rcases ht with ht | ht
      · exact ⟨by simp [(h.up t d ht).1], (h.up t d ht).2⟩
      · have h1 := List.append_inj' ht rfl
        obtain ⟨rfl, h2⟩ := h1
        injection h2 with h2
        subst h2
        exact ⟨by simp [hs], hc⟩
theorem take_succ' {i : Nat} (hc : s[i]? = some c) : s.take (i + 1) = s.take i ++ [c] := by
  rw [List.take_add_one, hc]; rfl
theorem insTo_fine (h : Tri ns) (ho : ∀ c ∈ s, okS c = true) : ∀ i, i ≤ s.length → Tri (insTo ns s i) ∧ s.take i ∈ insTo ns s i ∧ (∀ t ∈ ns, t ∈ insTo ns s i) ∧ ns.length ≤ (insTo ns s i).length ∧ (insTo ns s i).length ≤ ns.length + i
  | 0, _ => ⟨h, by simpa [insTo] using h.nil_mem, fun t ht => ht, Nat.le_refl _, Nat.le_refl _⟩
  | i + 1, hi => by
    obtain ⟨h1, h2, h3, h4, h5⟩ := insTo_fine h ho i (by omega)
    have hc : s[i]? = some s[i] := List.getElem?_eq_getElem (by omega)
    rw [insTo, take_succ' hc]
    refine ⟨h1.grow h2 (ho _ (List.getElem_mem _)), mem_grow, fun t ht => grow_mono (h3 t ht), ?_, ?_⟩
    · unfold Hp.grow; split <;> (try simp) <;> omega
    · unfold Hp.grow; split <;> (try simp) <;> omega
theorem up_take (h : Tri ns) : ∀ (n : Nat) (s : Nm), s ∈ ns → s.take n ∈ ns := by
  intro n s
  induction hl : s.length generalizing s with
  | zero => intro hs; rw [List.eq_nil_of_length_eq_zero hl] at hs ⊢; simpa using hs
  | succ m ih =>
    intro hs
    rcases Nat.lt_or_ge n s.length with hn | hn
    · have hne : s ≠ [] := by intro e; subst e; cases hl
      have h1 : s = s.dropLast ++ [s.getLast hne] := (List.dropLast_concat_getLast hne).symm
      have h2 := (h.up s.dropLast (s.getLast hne) (by rw [← h1]; exact hs)).1
      have h3 := ih s.dropLast (by simp; omega) h2
      rwa [List.dropLast_eq_take, List.take_take, Nat.min_eq_left (by omega)] at h3
    · rwa [List.take_of_length_le hn]
end
structure Pats (P : List Pt) : Prop where
  nodup : (P.map (·.1)).Nodup
  is : ∀ p ∈ P, p.2.length = p.1.length + 1 ∧ 1 ≤ p.1.length ∧ p.1.length ≤ 63 ∧ (∀ c ∈ p.1, okS c = true) ∧ ∀ x ∈ p.2, 0 ≤ x ∧ x ≤ 9
  few : P.length ≤ 5000
theorem Pats.nil : Pats [] := ⟨by simp, by simp, by simp⟩
theorem nsOf_fine : ∀ (P : List Pt) (ns : List Nm), (∀ p ∈ P, p.1.length ≤ 63 ∧ ∀ c ∈ p.1, okS c = true) → Tri ns →
    Tri (P.foldl (fun ns p => insTo ns p.1 p.1.length) ns) ∧ (∀ t ∈ ns, t ∈ P.foldl (fun ns p => insTo ns p.1 p.1.length) ns) ∧ (∀ p ∈ P, p.1 ∈ P.foldl (fun ns p => insTo ns p.1 p.1.length) ns) ∧ (P.foldl (fun ns p => insTo ns p.1 p.1.length) ns).length ≤ ns.length + 63 * P.length
  | [], ns, _, h => ⟨h, fun t ht => ht, by simp, by simp⟩
  | p :: P, ns, hp, h => by
    obtain ⟨h1, h2, h3, h4, h5⟩ := insTo_fine h (hp p (by simp)).2 p.1.length (Nat.le_refl _)
    obtain ⟨k1, k2, k3, k4⟩ := nsOf_fine P _ (fun q hq => hp q (by simp [hq])) h1
    rw [List.take_length] at h2
    have := (hp p (by simp)).1
    refine ⟨k1, fun t ht => k2 t (h3 t ht), fun q hq => ?_, by simp only [List.length_cons, List.foldl_cons]; omega⟩
    rcases List.mem_cons.1 hq with rfl | hq
    · exact k2 _ h2
    · exact k3 q hq
theorem Pats.tri {P : List Pt} (h : Pats P) : Tri (nsOf P) := (nsOf_fine P _ (fun p hp => ⟨(h.is p hp).2.2.1, (h.is p hp).2.2.2.1⟩) Tri.one).1
theorem Pats.mem {P : List Pt} (h : Pats P) {p : Pt} (hp : p ∈ P) : p.1 ∈ nsOf P := (nsOf_fine P _ (fun p hp => ⟨(h.is p hp).2.2.1, (h.is p hp).2.2.2.1⟩) Tri.one).2.2.1 p hp
theorem Pats.size {P : List Pt} (h : Pats P) : (nsOf P).length ≤ 315001 := by
  have h1 := (nsOf_fine P _ (fun p hp => ⟨(h.is p hp).2.2.1, (h.is p hp).2.2.2.1⟩) Tri.one).2.2.2
  have h2 := h.few
  simp only [List.length_singleton] at h1
  unfold nsOf
  omega
/-- The values of a pattern. -/
def luk (P : List Pt) (s : Nm) : Option (List Int) := (P.find? (·.1 == s)).map (·.2)
theorem luk_none {P : List Pt} {s : Nm} : luk P s = none ↔ ∀ p ∈ P, p.1 ≠ s := by
  simp [luk, List.find?_eq_none]
theorem luk_some {P : List Pt} (h : (P.map (·.1)).Nodup) {s : Nm} {v : List Int} : luk P s = some v ↔ (s, v) ∈ P := by
  induction P with
  | nil => simp [luk]
  | cons p P ih =>
    simp only [List.map_cons, List.nodup_cons] at h
    unfold luk
    rw [List.find?_cons]
    by_cases hp : p.1 = s
    · rw [show (p.1 == s) = true by simpa using hp]
      simp only [Option.map_some, Option.some.injEq, List.mem_cons]
      constructor
      · intro e; left; rw [← hp, ← e]
      · rintro (e | e)
        · rw [← e]
        · exact absurd (List.mem_map.2 ⟨_, e, rfl⟩) (hp ▸ h.1)
    · rw [show (p.1 == s) = false by simpa using hp]
      have h1 := ih h.2
      unfold luk at h1
      simp only [h1, List.mem_cons]
      constructor
      · exact .inr
      · rintro (e | e)
        · exact absurd (by rw [← e]) hp
        · exact e
theorem luk_snoc {P : List Pt} {p : Pt} (hn : luk P p.1 = none) (s : Nm) : luk (P ++ [p]) s = if s = p.1 then some p.2 else luk P s := by
  unfold luk at hn ⊢
  rw [List.find?_append]
  by_cases hs : s = p.1
  · subst hs
    rw [if_pos rfl]
    rw [Option.map_eq_none_iff] at hn
    simp [hn]
  · rw [if_neg hs]
    have : ([p].find? (·.1 == s)) = none := by simp [Ne.symm hs]
    simp [this]
/-- One more. -/
def tell (P : List Pt) (t : Nm) : List Pt := match rd t with
  | none => P
  | some p => if (luk P p.1).isSome = true then P else if P.length = 5000 then P else P ++ [p]
def tellE (P : List Pt) (t : Nm) : Int := match rd t with
  | none => 70
  | some p => if (luk P p.1).isSome = true then 11 else if P.length = 5000 then 6 else 0
theorem Pats.snoc {P : List Pt} (h : Pats P) {t : Nm} {p : Pt} (hr : rd t = some p) (hl : luk P p.1 = none) (h5 : P.length ≠ 5000) : Pats (P ++ [p]) := by
  have hi := rd_is hr
  refine ⟨?_, ?_, ?_⟩
  · rw [List.map_append, List.nodup_append]
    refine ⟨h.nodup, by simp, fun a ha b hb => ?_⟩
    simp at hb
    subst hb
    obtain ⟨q, hq, rfl⟩ := List.mem_map.1 ha
    exact (luk_none.1 hl) q hq
  · intro q hq
    simp only [List.mem_append, List.mem_singleton] at hq
    rcases hq with hq | rfl
    · exact h.is q hq
    · exact ⟨hi.len, hi.pos, hi.le, fun c hc => (hi.ok c hc).1, hi.dig⟩
  · have := h.few
    simp
    omega
theorem Pats.tell {P : List Pt} (h : Pats P) (t : Nm) : Pats (tell P t) := by
  unfold Hp.tell
  split
  · exact h
  · rename_i p hp
    split
    · exact h
    · rename_i hl
      split
      · exact h
      · rename_i h5
        exact h.snoc hp (by simpa using hl) h5
def told (l : List Nm) : List Pt := l.foldl tell []
theorem told_snoc (l : List Nm) (t : Nm) : told (l ++ [t]) = tell (told l) t := by simp [told]
theorem told_pats (l : List Nm) : Pats (told l) := by
  have : ∀ (l : List Nm) (P : List Pt), Pats P → Pats (l.foldl tell P) := by
    intro l
    induction l with
    | nil => exact fun P h => h
    | cons t l ih => exact fun P h => ih _ (h.tell t)
  exact this l [] Pats.nil

/-! ### the trie's cells -/
def nx (ns : List Nm) (s : Nm) : List Value := (List.range 27).map fun j => .int .i64 (ix ns (s ++ [chr j]) : Int)
def rw_ (ns : List Nm) (p : Nm × Value) : List Value := nx ns p.1 ++ [p.2]
theorem rw_length (ns : List Nm) (p : Nm × Value) : (rw_ ns p).length = 28 := by simp [rw_, nx]
def tc (ns : List Nm) (vs : List Value) : List Value := (ns.zip vs).flatMap (rw_ ns)
theorem tc_length {ns : List Nm} {vs : List Value} (hv : vs.length = ns.length) : (tc ns vs).length = ns.length * 28 := by
  unfold tc
  rw [flat_length (rw_length ns)]
  simp [hv]
theorem zip_get {ns : List Nm} {vs : List Value} {k : Nat} {s : Nm} {v : Value} (hk : ns[k]? = some s) (hv : vs[k]? = some v) : (ns.zip vs)[k]? = some (s, v) := by
  rw [List.getElem?_zip_eq_some]
  exact ⟨hk, hv⟩
theorem tc_next {ns : List Nm} {vs : List Value} {k : Nat} {s : Nm} {v : Value} (hk : ns[k]? = some s) (hv : vs[k]? = some v) {j : Nat} (hj : j < 27) : (tc ns vs)[k * 28 + j]? = some (.int .i64 (ix ns (s ++ [chr j]) : Int)) := by
  unfold tc
  rw [flat_get (rw_length ns) _ k _ j (zip_get hk hv) (by omega)]
  unfold rw_ nx
  rw [List.getElem?_append_left (by simp; omega), List.getElem?_map, List.getElem?_range hj]
  rfl
theorem tc_val {ns : List Nm} {vs : List Value} {k : Nat} {s : Nm} {v : Value} (hk : ns[k]? = some s) (hv : vs[k]? = some v) : (tc ns vs)[k * 28 + 27]? = some v := by
  unfold tc
  rw [flat_get (rw_length ns) _ k _ 27 (zip_get hk hv) (by omega)]
  unfold rw_ nx
  rw [List.getElem?_append_right (by simp)]
  simp
theorem split28 {n i : Nat} (h : i < n * 28) : ∃ r q, r < n ∧ q < 28 ∧ i = r * 28 + q := ⟨i / 28, i % 28, by omega, by omega, by omega⟩
theorem get_some {α : Type} {l : List α} {k : Nat} (h : k < l.length) : ∃ x, l[k]? = some x := ⟨l[k], List.getElem?_eq_getElem h⟩
theorem tc_set {ns : List Nm} {vs : List Value} (hv : vs.length = ns.length) {k : Nat} (hk : k < ns.length) (u : Value) : (tc ns vs).set (k * 28 + 27) u = tc ns (vs.set k u) := by
  apply List.ext_getElem?
  intro i
  rcases Nat.lt_or_ge i (ns.length * 28) with hi | hi
  · obtain ⟨r, q, hr, hq, rfl⟩ := split28 hi
    obtain ⟨s, hs⟩ := get_some hr
    obtain ⟨v, hvr⟩ := get_some (l := vs) (k := r) (by omega)
    rw [List.getElem?_set]
    by_cases hq' : q = 27
    · subst hq'
      by_cases hkr : k = r
      · subst hkr
        rw [if_pos rfl, if_pos (by rw [tc_length hv]; exact hi), tc_val hs (v := u) (by rw [List.getElem?_set_self (by omega)])]
      · rw [if_neg (by omega), tc_val hs hvr, tc_val hs (v := v) (by rw [List.getElem?_set_ne (by omega)]; exact hvr)]
    · rw [if_neg (by omega), tc_next hs hvr (by omega)]
      obtain ⟨v', hv'⟩ := get_some (l := vs.set k u) (k := r) (by simp; omega)
      rw [tc_next hs hv' (by omega)]
  · rw [List.getElem?_eq_none (by rw [List.length_set, tc_length hv]; exact hi), List.getElem?_eq_none (by rw [tc_length (by simp [hv])]; exact hi)]
def zer : List Value := List.replicate 27 (.int .i64 0) ++ [.slice none 0 0]
theorem tc_grow {ns : List Nm} {vs : List Value} (ht : Tri ns) (hv : vs.length = ns.length) {s : Nm} {c : UInt8} (hs : s ∈ ns) (hc : okS c = true) (hn : s ++ [c] ∉ ns) :
    (tc ns vs).set (ix ns s * 28 + (sgn c).toNat) (.int .i64 (ns.length : Int)) ++ zer = tc (ns ++ [s ++ [c]]) (vs ++ [.slice none 0 0]) := by
  obtain ⟨c0, c1, c2⟩ := sgn_ok c hc
  apply List.ext_getElem?
  intro i
  have hlen : ((tc ns vs).set (ix ns s * 28 + (sgn c).toNat) (.int .i64 (ns.length : Int))).length = ns.length * 28 := by rw [List.length_set, tc_length hv]
  have hlen2 : (tc (ns ++ [s ++ [c]]) (vs ++ [.slice none 0 0])).length = (ns.length + 1) * 28 := by rw [tc_length (by simp [hv])]; simp
  rcases Nat.lt_or_ge i ((ns.length + 1) * 28) with hi | hi
  · obtain ⟨r, q, hr, hq, rfl⟩ := split28 hi
    rcases Nat.lt_or_ge r ns.length with hr' | hr'
    · obtain ⟨t, ht'⟩ := get_some hr'
      obtain ⟨v, hvr⟩ := get_some (l := vs) (k := r) (by omega)
      have e1 : (ns ++ [s ++ [c]])[r]? = some t := by rw [List.getElem?_append_left hr']; exact ht'
      have e2 : (vs ++ [Value.slice none 0 0])[r]? = some v := by rw [List.getElem?_append_left (by omega)]; exact hvr
      rw [List.getElem?_append_left (by omega), List.getElem?_set]
      by_cases hq' : q = 27
      · subst hq'
        rw [if_neg (by omega), tc_val ht' hvr, tc_val e1 e2]
      · rw [tc_next e1 e2 (by omega)]
        by_cases he : t ++ [chr q] = s ++ [c]
        · obtain ⟨rfl, e3⟩ := List.append_inj' he rfl
          injection e3 with e3
          have hq2 : q = (sgn c).toNat := by rw [← e3, (sgn_chr (show q < 27 by omega)).2]; omega
          have hrk : ix ns t = r := ix_at ht ht'
          rw [hrk, ← hq2, if_pos rfl, if_pos (by rw [tc_length hv]; omega), he, ix_new hn]
        · rw [if_neg, tc_next ht' hvr (by omega), ix_other he]
          intro e4
          have hk : ix ns s = r := by omega
          have hq3 : (sgn c).toNat = q := by omega
          have h5 := ix_get hs
          rw [hk, ht'] at h5
          injection h5 with h5
          apply he
          rw [h5, ← hq3, c2]
    · have hrn : r = ns.length := by omega
      subst hrn
      have e1 : (ns ++ [s ++ [c]])[ns.length]? = some (s ++ [c]) := by simp
      have e2 : (vs ++ [Value.slice none 0 0])[ns.length]? = some (.slice none 0 0) := by rw [← hv]; simp
      rw [List.getElem?_append_right (by omega), hlen, Nat.add_sub_cancel_left]
      unfold zer
      by_cases hq' : q = 27
      · subst hq'
        rw [tc_val e1 e2]
        rfl
      · rw [tc_next e1 e2 (by omega), List.getElem?_append_left (by simp; omega), List.getElem?_replicate, if_pos (by omega)]
        congr 2
        symm
        have h6 : s ++ [c] ++ [chr q] ∉ ns ++ [s ++ [c]] := by
          intro hm
          simp only [List.mem_append, List.mem_singleton] at hm
          rcases hm with hm | hm
          · exact hn (ht.up _ _ hm).1
          · have := congrArg List.length hm
            simp at this
        rw [ix_no h6]
        rfl
  · rw [List.getElem?_eq_none (by rw [List.length_append, hlen]; simp [zer]; omega), List.getElem?_eq_none (by omega)]
end Go.Proofs.Ytmcekdjhkjhcdaa.Hp

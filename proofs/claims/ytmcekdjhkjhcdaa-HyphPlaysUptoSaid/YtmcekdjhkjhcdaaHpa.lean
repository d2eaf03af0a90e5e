import Derived.Test.YtmcekdjhkjhcdaaHs
/- All patterns of a trie, as they are told; a pattern's text; how many states there are. No function of the program. Conditions: those that each theorem names. -/
namespace Go.Proofs.Ytmcekdjhkjhcdaa.Hp
set_option linter.unusedVariables false

/-! ### the trie's names -/
theorem mem_insTo {ns : List Nm} {s t : Nm} : ∀ i, t ∈ insTo ns s i ↔ t ∈ ns ∨ ∃ k, 1 ≤ k ∧ k ≤ i ∧ t = s.take k
  | 0 => by
    simp only [insTo]
    exact ⟨.inl, fun h => h.elim id fun ⟨k, h1, h2, _⟩ => absurd h1 (by omega)⟩
  | i + 1 => by
    have h0 : t ∈ insTo ns s (i + 1) ↔ t ∈ insTo ns s i ∨ t = s.take (i + 1) := by
      simp only [insTo]
      unfold grow
      split
      · rename_i hm
        exact ⟨.inl, fun h => h.elim id fun e => by rw [e]; exact hm⟩
      · simp
    rw [h0, mem_insTo i]
    constructor
    · rintro ((h | ⟨k, h1, h2, h3⟩) | h)
      · exact .inl h
      · exact .inr ⟨k, h1, by omega, h3⟩
      · exact .inr ⟨i + 1, by omega, Nat.le_refl _, h⟩
    · rintro (h | ⟨k, h1, h2, h3⟩)
      · exact .inl (.inl h)
      · rcases Nat.lt_or_ge i k with h4 | h4
        · obtain rfl : k = i + 1 := by omega
          exact .inr h3
        · exact .inl (.inr ⟨k, h1, h4, h3⟩)
theorem mem_fold {t : Nm} : ∀ (P : List Pt) (ns : List Nm), t ∈ P.foldl (fun ns p => insTo ns p.1 p.1.length) ns ↔ t ∈ ns ∨ ∃ p ∈ P, ∃ k, 1 ≤ k ∧ k ≤ p.1.length ∧ t = p.1.take k
  | [], ns => by simp
  | p :: P, ns => by
    rw [List.foldl_cons, mem_fold P, mem_insTo]
    constructor
    · rintro ((h | ⟨k, h1, h2, h3⟩) | ⟨q, hq, h⟩)
      · exact .inl h
      · exact .inr ⟨p, by simp, k, h1, h2, h3⟩
      · exact .inr ⟨q, by simp [hq], h⟩
    · rintro (h | ⟨q, hq, h⟩)
      · exact .inl (.inl h)
      · rcases List.mem_cons.1 hq with rfl | hq
        · exact .inl (.inr h)
        · exact .inr ⟨q, hq, h⟩
/-- The trie has a state for each beginning. -/
theorem mem_nsOf {P : List Pt} {t : Nm} : t ∈ nsOf P ↔ t = [] ∨ ∃ p ∈ P, t <+: p.1 := by
  unfold nsOf
  rw [mem_fold, List.mem_singleton]
  constructor
  · rintro (h | ⟨p, hp, k, h1, h2, h3⟩)
    · exact .inl h
    · exact .inr ⟨p, hp, by rw [h3]; exact List.take_prefix _ _⟩
  · rintro (h | ⟨p, hp, h⟩)
    · exact .inl h
    · by_cases h0 : t = []
      · exact .inl h0
      · exact .inr ⟨p, hp, t.length, List.length_pos_iff.2 h0, h.length_le, List.prefix_iff_eq_take.1 h⟩
theorem nsOf_len63 {P : List Pt} (h : Pats P) {t : Nm} (ht : t ∈ nsOf P) : t.length ≤ 63 := by
  rcases mem_nsOf.1 ht with rfl | ⟨p, hp, hpre⟩
  · simp
  · have := hpre.length_le
    have := (h.is p hp).2.2.1
    omega

/-! ### all patterns, as they are told -/
def own1 (P : List Pt) (s : Nm) : List Nm := if (luk P s).isSome = true then [s] else []
def dfs (P : List Pt) : Nat → Nm → List Nm
  | 0, _ => []
  | f + 1, s => own1 P s ++ (List.range 27).flatMap fun k => if s ++ [chr k] ∈ nsOf P then dfs P f (s ++ [chr k]) else []
def kid (P : List Pt) (f : Nat) (s : Nm) (k : Nat) : List Nm := if s ++ [chr k] ∈ nsOf P then dfs P f (s ++ [chr k]) else []
def kids (P : List Pt) (f : Nat) (s : Nm) (n : Nat) : List Nm := (List.range n).flatMap (kid P f s)
theorem dfs_succ (P : List Pt) (f : Nat) (s : Nm) : dfs P (f + 1) s = own1 P s ++ kids P f s 27 := rfl
theorem kids_succ (P : List Pt) (f : Nat) (s : Nm) (n : Nat) : kids P f s (n + 1) = kids P f s n ++ kid P f s n := by simp [kids, List.range_succ]
theorem kids_zero (P : List Pt) (f : Nat) (s : Nm) : kids P f s 0 = [] := rfl
theorem dfs_mem {P : List Pt} : ∀ (f : Nat) (s x : Nm), x ∈ dfs P f s → (luk P x).isSome = true ∧ s <+: x
  | 0, s, x, h => by simp [dfs] at h
  | f + 1, s, x, h => by
    rw [dfs_succ, List.mem_append] at h
    rcases h with h | h
    · unfold own1 at h
      split at h
      · rename_i hl
        simp at h
        subst h
        exact ⟨hl, List.prefix_refl _⟩
      · cases h
    · unfold kids at h
      obtain ⟨k, hk, hx⟩ := List.mem_flatMap.1 h
      unfold kid at hx
      split at hx
      · obtain ⟨h1, h2⟩ := dfs_mem f _ x hx
        exact ⟨h1, (List.prefix_append s [chr k]).trans h2⟩
      · cases hx
theorem chr_inj {j k : Nat} (hj : j < 27) (hk : k < 27) (h : chr j = chr k) : j = k := by
  have h1 := (sgn_chr hj).2
  have h2 := (sgn_chr hk).2
  rw [h] at h1
  rw [h1] at h2
  omega
theorem pre_apart {s x : Nm} {a b : UInt8} (h1 : s ++ [a] <+: x) (h2 : s ++ [b] <+: x) : a = b := by
  obtain ⟨r1, rfl⟩ := h1
  obtain ⟨r2, h⟩ := h2
  simp only [List.append_assoc, List.append_cancel_left_eq, List.singleton_append, List.cons.injEq] at h
  exact h.1.symm
theorem dfs_nodup {P : List Pt} : ∀ (f : Nat) (s : Nm), (dfs P f s).Nodup
  | 0, s => by simp [dfs]
  | f + 1, s => by
    rw [dfs_succ, List.nodup_append]
    refine ⟨by unfold own1; split <;> simp, ?_, ?_⟩
    · unfold kids List.Nodup
      rw [List.pairwise_flatMap]
      constructor
      · intro k hk
        unfold kid
        split
        · exact dfs_nodup f _
        · simp
      · refine (List.nodup_range (n := 27)).imp_of_mem ?_
        intro i j hi hj hij x hx y hy e
        subst e
        unfold kid at hx hy
        split at hx
        · split at hy
          · exact hij (chr_inj (List.mem_range.1 hi) (List.mem_range.1 hj) (pre_apart (dfs_mem f _ x hx).2 (dfs_mem f _ x hy).2))
          · cases hy
        · cases hx
    · intro x hx y hy e
      subst e
      unfold own1 at hx
      split at hx
      · simp at hx
        subst hx
        unfold kids at hy
        obtain ⟨k, hk, hy⟩ := List.mem_flatMap.1 hy
        unfold kid at hy
        split at hy
        · have := (dfs_mem f _ x hy).2.length_le
          simp at this
          omega
        · cases hy
      · cases hx
theorem dfs_all {P : List Pt} (hP : Pats P) {p : Pt} (hp : p ∈ P) : ∀ (f : Nat) (s : Nm), s <+: p.1 → p.1.length < s.length + f → p.1 ∈ dfs P f s
  | 0, s, h, hl => by have := h.length_le; omega
  | f + 1, s, h, hl => by
    rw [dfs_succ, List.mem_append]
    obtain ⟨r, hr⟩ := h
    cases r with
    | nil =>
      left
      rw [List.append_nil] at hr
      unfold own1
      rw [if_pos (by rw [hr, (luk_some hP.nodup).2 hp]; rfl), hr]
      simp
    | cons c r =>
      right
      have hc : okS c = true := (hP.is p hp).2.2.2.1 c (by rw [← hr]; simp)
      obtain ⟨c0, c1, c2⟩ := sgn_ok c hc
      have hpre : s ++ [c] <+: p.1 := ⟨r, by rw [← hr]; simp⟩
      unfold kids
      refine List.mem_flatMap.2 ⟨(sgn c).toNat, List.mem_range.2 (by omega), ?_⟩
      unfold kid
      rw [c2, if_pos (mem_nsOf.2 (.inr ⟨p, hp, hpre⟩))]
      exact dfs_all hP hp f _ hpre (by simp; omega)
theorem luk_mem {P : List Pt} {x : Nm} (h : (luk P x).isSome = true) : x ∈ P.map (·.1) := by
  unfold luk at h
  rw [Option.isSome_map, List.find?_isSome] at h
  obtain ⟨p, hp, he⟩ := h
  exact List.mem_map.2 ⟨p, hp, by simpa using he⟩
theorem dfs_few {P : List Pt} (hP : Pats P) (f : Nat) (s : Nm) : (dfs P f s).length ≤ 5000 := by
  have h1 : (dfs P f s).length ≤ (P.map (·.1)).length := (dfs_nodup f s).length_le_of_subset fun x hx => luk_mem (dfs_mem f s x hx).1
  rw [List.length_map] at h1
  have := hP.few
  omega
theorem dfs_congr {P Q : List Pt} (h1 : ∀ s, luk P s = luk Q s) (h2 : ∀ s, s ∈ nsOf P ↔ s ∈ nsOf Q) : ∀ (f : Nat) (s : Nm), dfs P f s = dfs Q f s
  | 0, s => rfl
  | f + 1, s => by
    rw [dfs_succ, dfs_succ]
    congr 1
    · unfold own1; rw [h1]
    · unfold kids
      congr 1
      funext k
      unfold kid
      by_cases h : s ++ [chr k] ∈ nsOf P
      · rw [if_pos h, if_pos ((h2 _).1 h), dfs_congr h1 h2 f]
      · rw [if_neg h, if_neg (fun h' => h ((h2 _).2 h'))]

/-! ### a pattern's text -/
def tpc (s : Nm) (v : List Int) (i : Nat) : Nm := (if 0 < v.getD i 0 then [UInt8.ofNat (48 + (v.getD i 0).toNat)] else []) ++ (if i < s.length then [s.getD i 0] else [])
def txq (s : Nm) (v : List Int) (k : Nat) : Nm := (List.range k).flatMap (tpc s v)
theorem txq_succ (s : Nm) (v : List Int) (k : Nat) : txq s v (k + 1) = txq s v k ++ tpc s v k := by simp [txq, List.range_succ]
theorem txq_len (s : Nm) (v : List Int) : ∀ k, (txq s v k).length ≤ 2 * k
  | 0 => by simp [txq]
  | k + 1 => by
    rw [txq_succ, List.length_append]
    have h1 := txq_len s v k
    have h2 : (tpc s v k).length ≤ 2 := by unfold tpc; split <;> split <;> simp
    omega
/-- A name's text. -/
def tx (P : List Pt) (s : Nm) : Nm := txq s ((luk P s).getD []) ((luk P s).getD []).length

theorem run_lets : ∀ {l : Nm} {s s' : Rd}, s.letters = s.signs.countP isLet → rdRun s l = some s' → s'.letters = s'.signs.countP isLet
  | [], s, s', h, hr => by
    simp only [rdRun, Option.some.injEq] at hr
    subst hr
    exact h
  | c :: l, s, s', h, hr => by
    simp only [rdRun] at hr
    cases hx : rdStep s c with
    | none => rw [hx] at hr; cases hr
    | some y =>
      rw [hx] at hr
      refine run_lets ?_ hr
      unfold rdStep at hx
      split at hx
      · split at hx
        · cases hx
        · injection hx with hx; subst hx; exact h
      · split at hx
        · rename_i hl
          injection hx with hx
          subst hx
          simp [h, hl]
        · rename_i hl
          split at hx
          · rename_i he
            injection hx with hx
            subst hx
            subst he
            simp only [List.countP_append, h]
            rw [show List.countP isLet [46] = 0 from rfl]
            omega
          · cases hx
theorem dig_byte {x : Int} (h0 : 0 < x) (h1 : x ≤ 9) : isDig (UInt8.ofNat (48 + x.toNat)) = true ∧ ((UInt8.ofNat (48 + x.toNat)).toNat : Int) - 48 = x := by
  obtain ⟨n, rfl⟩ : ∃ n : Nat, x = n := ⟨x.toNat, by omega⟩
  have h2 : (UInt8.ofNat (48 + n)).toNat = 48 + n := by
    rw [UInt8.toNat_ofNat']
    omega
  simp only [Int.toNat_natCast]
  rw [h2]
  exact ⟨by unfold isDig; rw [h2, decide_eq_true (by omega), decide_eq_true (by omega)]; rfl, by omega⟩
/-- A text reads back, sign by sign. -/
theorem txq_run {s : Nm} {v : List Int} (hv : v.length = s.length + 1) (hs : ∀ c ∈ s, okS c = true) (hd : ∀ x ∈ v, 0 ≤ x ∧ x ≤ 9) : ∀ k, k ≤ s.length →
    rdRun rd0 (txq s v k) = some ⟨s.take k, v.take k ++ [0], false, (s.take k).countP isLet⟩
  | 0, _ => by simp [txq, rdRun, rd0]
  | k + 1, hk => by
    rw [txq_succ, rdRun_append, txq_run hv hs hd k (by omega), Option.bind_some]
    have hkv : k < v.length := by omega
    have hsk : s[k]? = some s[k] := List.getElem?_eq_getElem (by omega)
    have hvk : v[k]? = some v[k] := List.getElem?_eq_getElem hkv
    have hok := hs _ (List.getElem_mem (show k < s.length by omega))
    have hdk := hd _ (List.getElem_mem hkv)
    have hgv : v.getD k 0 = v[k] := by rw [List.getD_eq_getElem?_getD, hvk]; rfl
    have hgs : s.getD k 0 = s[k] := by rw [List.getD_eq_getElem?_getD, hsk]; rfl
    have hsign : ∀ (u : List Int) (d : Bool), rdRun ⟨s.take k, u, d, (s.take k).countP isLet⟩ [s[k]] = some ⟨s.take (k + 1), u ++ [0], false, (s.take (k + 1)).countP isLet⟩ := by
      intro u d
      have hnd : isDig s[k] = false := by
        cases h : isDig s[k]
        · rfl
        · have := dig_not _ h; rw [hok] at this; cases this
      simp only [rdRun, rdStep, hnd, Bool.false_eq_true, if_false]
      rw [List.take_add_one, hsk, Option.toList_some, List.countP_append]
      cases hl : isLet s[k]
      · have he : s[k] = 46 := by
          unfold okS at hok
          rw [hl, Bool.or_false, beq_iff_eq] at hok
          exact hok
        simp [he]
        decide
      · simp [hl]
    unfold tpc
    rw [hgv, hgs, if_pos (show k < s.length by omega)]
    by_cases h0 : 0 < v[k]
    · obtain ⟨d1, d2⟩ := dig_byte h0 hdk.2
      rw [if_pos h0]
      simp only [List.singleton_append, rdRun]
      simp only [rdStep, d1, if_true, Bool.false_eq_true, if_false, Option.bind_some, d2]
      have e : (v.take k ++ [0]).set ((v.take k ++ [0]).length - 1) v[k] = v.take (k + 1) := by
        rw [List.take_add_one, hvk, Option.toList_some]
        simp
      rw [e]
      have h3 := hsign (v.take (k + 1)) true
      simp only [rdRun, rdStep] at h3
      exact h3
    · rw [if_neg h0, List.nil_append, hsign]
      have e : v.take (k + 1) = v.take k ++ [0] := by
        rw [List.take_add_one, hvk, Option.toList_some, show v[k] = 0 by omega]
      rw [e]
theorem set_again (v : List Int) (n : Nat) : (((v.set 0 0).set n 0).set 0 0).set n 0 = (v.set 0 0).set n 0 := by
  apply List.ext_getElem?
  intro i
  simp only [List.getElem?_set, List.length_set]
  by_cases h1 : n = i <;> by_cases h2 : 0 = i <;> simp [h1, h2]
theorem ends_again (l : Nm) (v : List Int) : ends l (ends l v) = ends l v := by
  unfold ends
  simp only
  by_cases h1 : l.head? = some 46 <;> by_cases h2 : l.getLast? = some 46
  · simp only [if_pos h1, if_pos h2]; exact set_again v _
  · simp only [if_pos h1, if_neg h2]; exact List.set_set ..
  · simp only [if_neg h1, if_pos h2]; exact List.set_set ..
  · simp only [if_neg h1, if_neg h2]
/-- A pattern's text reads as the pattern. -/
theorem rd_text {t : Nm} {p : Pt} (h : rd t = some p) : rd (txq p.1 p.2 p.2.length) = some p := by
  have hi := rd_is h
  unfold rd at h
  cases hr : rdRun rd0 t with
  | none => rw [hr] at h; cases h
  | some st =>
    rw [hr] at h
    simp only [Option.bind_some, rdEnd] at h
    split at h
    · rename_i he
      injection h with h
      have hlet := run_lets (s := rd0) rfl hr
      have hs : ∀ c ∈ p.1, okS c = true := fun c hc => (hi.ok c hc).1
      have h0 := txq_run hi.len hs hi.dig p.1.length (Nat.le_refl _)
      rw [List.take_length] at h0
      have e1 : p.1 = st.signs := by rw [← h]
      have e2 : p.2 = ends st.signs st.vals := by rw [← h]
      have key : ∃ d, rdRun rd0 (txq p.1 p.2 p.2.length) = some ⟨p.1, p.2, d, p.1.countP isLet⟩ := by
        rw [hi.len, txq_succ, rdRun_append, h0, Option.bind_some]
        have hvk : p.2[p.1.length]? = some (p.2[p.1.length]'(by rw [hi.len]; omega)) := List.getElem?_eq_getElem _
        have hdk := hi.dig _ (List.getElem_mem (show p.1.length < p.2.length by rw [hi.len]; omega))
        have e3 : p.2.take p.1.length ++ [p.2[p.1.length]'(by rw [hi.len]; omega)] = p.2 := by
          have : p.2.take (p.1.length + 1) = p.2 := List.take_of_length_le (by rw [hi.len]; exact Nat.le_refl _)
          rw [List.take_add_one, hvk, Option.toList_some] at this
          exact this
        have hg : p.2.getD p.1.length 0 = p.2[p.1.length]'(by rw [hi.len]; omega) := by rw [List.getD_eq_getElem?_getD, hvk]; rfl
        unfold tpc
        rw [hg, if_neg (Nat.lt_irrefl _), List.append_nil]
        by_cases h1 : 0 < p.2[p.1.length]'(by rw [hi.len]; omega)
        · obtain ⟨d1, d2⟩ := dig_byte h1 hdk.2
          rw [if_pos h1]
          refine ⟨true, ?_⟩
          simp only [rdRun, rdStep, d1, if_true, Bool.false_eq_true, if_false, Option.bind_some, d2]
          have e : ∀ z : Int, (p.2.take p.1.length ++ [0]).set ((p.2.take p.1.length ++ [0]).length - 1) z = p.2.take p.1.length ++ [z] := by
            intro z
            have : (p.2.take p.1.length).length = p.1.length := by rw [List.length_take, hi.len]; omega
            simp
          rw [e, e3]
        · rw [if_neg h1]
          refine ⟨false, ?_⟩
          simp only [rdRun]
          rw [show (0 : Int) = p.2[p.1.length]'(by rw [hi.len]; omega) by omega, e3]
      obtain ⟨d, hk⟩ := key
      unfold rd
      rw [hk, Option.bind_some]
      unfold rdEnd
      have he2 : endOk ⟨p.1, p.2, d, p.1.countP isLet⟩ = true := by
        unfold endOk at he ⊢
        simp only at he ⊢
        rw [e1, ← hlet]
        exact he
      rw [if_pos he2]
      simp only
      have e4 : ends p.1 p.2 = p.2 := by rw [e1, e2, ends_again]
      rw [e4]
    · cases h
theorem told_read (l : List Nm) : ∀ p ∈ told l, ∃ t, rd t = some p := by
  have key : ∀ (l : List Nm) (P : List Pt), (∀ p ∈ P, ∃ t, rd t = some p) → ∀ p ∈ l.foldl tell P, ∃ t, rd t = some p := by
    intro l
    induction l with
    | nil => exact fun P h => h
    | cons t l ih =>
      intro P h
      refine ih _ ?_
      unfold tell
      split
      · exact h
      · rename_i q hq
        split
        · exact h
        · split
          · exact h
          · intro p hp
            simp only [List.mem_append, List.mem_singleton] at hp
            rcases hp with hp | rfl
            · exact h p hp
            · exact ⟨t, hq⟩
  exact key l [] (by simp)

/-! ### how many states there are -/
def sumL (l : List Nm) : Nat := l.foldl (fun a x => a + x.length) 0
def maxL (l : List Nm) : Nat := l.foldl (fun a x => max a x.length) 0
theorem sumL_snoc (l : List Nm) (x : Nm) : sumL (l ++ [x]) = sumL l + x.length := by simp [sumL]
theorem maxL_snoc (l : List Nm) (x : Nm) : maxL (l ++ [x]) = max (maxL l) x.length := by simp [maxL]
theorem maxL_mem : ∀ (l : List Nm), maxL l = 0 ∨ ∃ x ∈ l, maxL l = x.length := by
  intro l
  induction hn : l.length generalizing l with
  | zero => left; rw [List.eq_nil_of_length_eq_zero hn]; rfl
  | succ n ih =>
    have hne : l ≠ [] := by intro e; subst e; cases hn
    have e : l = l.dropLast ++ [l.getLast hne] := (List.dropLast_concat_getLast hne).symm
    rw [e, maxL_snoc]
    rcases Nat.le_total (maxL l.dropLast) (l.getLast hne).length with h | h
    · right
      exact ⟨l.getLast hne, by simp, by rw [Nat.max_eq_right h]⟩
    · rw [Nat.max_eq_left h]
      rcases ih l.dropLast (by simp; omega) with h1 | ⟨x, hx, h1⟩
      · exact .inl h1
      · exact .inr ⟨x, by simp [hx], h1⟩
theorem pre_nodup (x : Nm) : ((List.range (x.length + 1)).map fun k => x.take k).Nodup := by
  unfold List.Nodup
  rw [List.pairwise_map]
  refine (List.nodup_range (n := x.length + 1)).imp_of_mem ?_
  intro i j hi hj hij e
  have h1 := congrArg List.length e
  rw [List.length_take, List.length_take] at h1
  have := List.mem_range.1 hi
  have := List.mem_range.1 hj
  omega
theorem size_low {P : List Pt} (hP : Pats P) : maxL (dfs P 64 []) + 1 ≤ (nsOf P).length := by
  rcases maxL_mem (dfs P 64 []) with h | ⟨x, hx, h⟩
  · rw [h]
    have := List.length_pos_of_mem hP.tri.nil_mem
    omega
  · rw [h]
    obtain ⟨p, hp, rfl⟩ := List.mem_map.1 (luk_mem (dfs_mem _ _ x hx).1)
    have h1 := (pre_nodup p.1).length_le_of_subset (l₂ := nsOf P) (fun y hy => by
      obtain ⟨k, _, rfl⟩ := List.mem_map.1 hy
      exact mem_nsOf.2 (.inr ⟨p, hp, List.take_prefix _ _⟩))
    simpa using h1
theorem sum_flat (l : List Nm) : (l.flatMap fun x => (List.range x.length).map fun k => x.take (k + 1)).length = sumL l := by
  induction hn : l.length generalizing l with
  | zero => rw [List.eq_nil_of_length_eq_zero hn]; rfl
  | succ n ih =>
    have hne : l ≠ [] := by intro e; subst e; cases hn
    have e : l = l.dropLast ++ [l.getLast hne] := (List.dropLast_concat_getLast hne).symm
    rw [e, sumL_snoc, List.flatMap_append, List.length_append, ih l.dropLast (by simp; omega)]
    simp
theorem size_high {P : List Pt} (hP : Pats P) : (nsOf P).length ≤ sumL (dfs P 64 []) + 1 := by
  have h1 := hP.tri.nodup.length_le_of_subset (l₂ := [] :: (dfs P 64 []).flatMap fun x => (List.range x.length).map fun k => x.take (k + 1)) (fun y hy => by
    rcases mem_nsOf.1 hy with rfl | ⟨p, hp, hpre⟩
    · simp
    · by_cases h0 : y = []
      · simp [h0]
      · refine List.mem_cons_of_mem _ (List.mem_flatMap.2 ⟨p.1, dfs_all hP hp 64 [] (List.nil_prefix) (by have := (hP.is p hp).2.2.1; simp; omega), ?_⟩)
        refine List.mem_map.2 ⟨y.length - 1, List.mem_range.2 ?_, ?_⟩
        · have := hpre.length_le
          have := List.length_pos_iff.2 h0
          omega
        · have := List.length_pos_iff.2 h0
          rw [show y.length - 1 + 1 = y.length by omega]
          exact (List.prefix_iff_eq_take.1 hpre).symm)
  rw [List.length_cons, sum_flat] at h1
  exact h1
end Go.Proofs.Ytmcekdjhkjhcdaa.Hp

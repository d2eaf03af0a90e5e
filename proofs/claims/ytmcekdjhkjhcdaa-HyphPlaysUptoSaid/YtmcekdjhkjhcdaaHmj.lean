import Derived.Test.YtmcekdjhkjhcdaaHmi
import Derived.Test.YtmcekdjhkjhcdaaHmh
import Derived.Test.YtmcekdjhkjhcdaaHoa
/- What the program is told and what the document is told hold the same. No function of the program. Conditions: those that each theorem names. -/
namespace Go.Proofs.Ytmcekdjhkjhcdaa.Hy
open Hp
set_option linter.unusedVariables false
set_option linter.unusedSimpArgs false
theorem xhas_luk {L : List Xc} (hs : Sor L) (s : Nm) : xhas L s = (luk L s).isSome := by
  cases h : xhas L s
  · rw [luk_none.2 (xhas_no hs h)]; rfl
  · obtain ⟨x, hx, he⟩ := xhas_at h
    cases hl : luk L s with
    | none => exact absurd he (luk_none.1 hl x (List.mem_of_getElem? hx))
    | some v => rfl
theorem sor_nodup {L : List Xc} (hs : Sor L) : (L.map (·.1)).Nodup := by
  unfold List.Nodup
  rw [List.pairwise_map]
  refine hs.imp fun {a b} h e => ?_
  rw [e, lw_irr] at h
  cases h
/-- The program's patterns and the document's. -/
structure Both (P L : List Xc) : Prop where
  same : Hp.Same P L
  pats : Pats P
  patl : Pats L
  sor : Sor L
theorem Both.nil : Both [] [] := ⟨⟨fun _ => Iff.rfl⟩, Pats.nil, Pats.nil, List.Pairwise.nil⟩
theorem Both.len {P L : List Xc} (h : Both P L) : P.length = L.length := by
  have h1 := h.pats.nodup.length_le_of_subset (l₂ := L.map (·.1)) (fun x hx => by
    obtain ⟨p, hp, rfl⟩ := List.mem_map.1 hx
    exact List.mem_map.2 ⟨p, (h.same.mem p).1 hp, rfl⟩)
  have h2 := h.patl.nodup.length_le_of_subset (l₂ := P.map (·.1)) (fun x hx => by
    obtain ⟨p, hp, rfl⟩ := List.mem_map.1 hx
    exact List.mem_map.2 ⟨p, (h.same.mem p).2 hp, rfl⟩)
  simp only [List.length_map] at h1 h2
  omega
theorem insAt_put {L : List Xc} {x : Xc} (h : xhas L x.1 = false) : insAt L (xk L x.1) x = xput L x := by
  unfold xput insAt
  rw [h, if_neg (by simp)]
theorem mem_insAt {L : List Xc} {k : Nat} {x y : Xc} : y ∈ insAt L k x ↔ y ∈ L ∨ y = x := by
  unfold insAt
  rw [List.mem_append, List.mem_cons]
  constructor
  · rintro (h | rfl | h)
    · exact .inl (List.mem_of_mem_take h)
    · exact .inr rfl
    · exact .inl (List.mem_of_mem_drop h)
  · rintro (h | rfl)
    · rw [← List.take_append_drop k L, List.mem_append] at h
      rcases h with h | h
      · exact .inl h
      · exact .inr (.inr h)
    · exact .inr (.inl rfl)
theorem Both.tellE {P L : List Xc} (h : Both P L) (t : Nm) : dtellE L t = Hp.tellE P t := by
  unfold dtellE Hp.tellE
  cases rd t with
  | none => rfl
  | some p =>
    simp only
    rw [xhas_luk h.sor, h.same.luk h.pats h.patl, h.len]
theorem Both.tell {P L : List Xc} (h : Both P L) (t : Nm) : Both (Hp.tell P t) (dtell L t) := by
  unfold dtell Hp.tell
  cases hr : rd t with
  | none => exact h
  | some p =>
    simp only
    rw [show (luk P p.1).isSome = xhas L p.1 by rw [xhas_luk h.sor, h.same.luk h.pats h.patl]]
    rw [h.len]
    cases hx : xhas L p.1
    · simp only [Bool.false_eq_true, if_false]
      by_cases h5 : L.length = 5000
      · rw [if_pos h5, if_pos h5]; exact h
      · rw [if_neg h5, if_neg h5]
        have hlp : luk P p.1 = none := by
          rw [h.same.luk h.pats h.patl]
          cases hl : luk L p.1 with
          | none => rfl
          | some v => rw [xhas_luk h.sor, hl] at hx; cases hx
        have hP := h.pats.snoc hr hlp (by rw [h.len]; exact h5)
        have hm : ∀ q, q ∈ P ++ [p] ↔ q ∈ insAt L (xk L p.1) p := by
          intro q
          rw [mem_insAt, List.mem_append, List.mem_singleton, h.same.mem]
        have hs : Sor (insAt L (xk L p.1) p) := by rw [insAt_put hx]; exact h.sor.put p
        refine ⟨⟨hm⟩, hP, ⟨sor_nodup hs, fun q hq => hP.is q ((hm q).2 hq), ?_⟩, hs⟩
        have := h.patl.few
        unfold insAt
        rw [List.length_append, List.length_cons, List.length_take, List.length_drop]
        omega
    · rw [if_pos rfl, if_pos rfl]; exact h
/-! ### the order in which the trie is walked -/
theorem lw_app (s : Nm) : ∀ r : Nm, r ≠ [] → lw s (s ++ r) = true := by
  induction s with
  | nil => intro r hr; cases r with
    | nil => exact absurd rfl hr
    | cons a r => rfl
  | cons a s ih =>
    intro r hr
    rw [List.cons_append, lw_cons]
    simp [ih r hr]
theorem lw_part (s : Nm) (a b : UInt8) (h : a < b) (x y : Nm) : lw (s ++ a :: x) (s ++ b :: y) = true := by
  induction s with
  | nil => rw [List.nil_append, List.nil_append, lw_cons]; simp [h]
  | cons c s ih => rw [List.cons_append, List.cons_append, lw_cons]; simp [ih]
theorem chr_lt {i j : Nat} (h : i < j) (hj : j < 27) : chr i < chr j := by
  have key : (List.range 27).all (fun j => (List.range j).all fun i => decide (chr i < chr j)) = true := by decide
  exact of_decide_eq_true (List.all_eq_true.1 (List.all_eq_true.1 key j (List.mem_range.2 hj)) i (List.mem_range.2 h))
theorem dfs_sor {P : List Pt} : ∀ (f : Nat) (s : Nm), (dfs P f s).Pairwise fun a b => lw a b = true
  | 0, s => by simp [dfs]
  | f + 1, s => by
    rw [dfs_succ, List.pairwise_append]
    refine ⟨by unfold own1; split <;> simp, ?_, ?_⟩
    · unfold kids
      rw [List.pairwise_flatMap]
      constructor
      · intro k hk
        unfold kid
        split
        · exact dfs_sor f _
        · simp
      · refine (List.pairwise_lt_range (n := 27)).imp_of_mem ?_
        intro i j hi hj hij x hx y hy
        unfold kid at hx hy
        split at hx
        · split at hy
          · obtain ⟨_, rx, rfl⟩ := dfs_mem f _ x hx
            obtain ⟨_, ry, rfl⟩ := dfs_mem f _ y hy
            rw [List.append_assoc, List.append_assoc]
            exact lw_part s _ _ (chr_lt hij (List.mem_range.1 hj)) rx ry
          · cases hy
        · cases hx
    · intro x hx y hy
      unfold own1 at hx
      split at hx
      · simp at hx
        subst hx
        unfold kids at hy
        obtain ⟨k, hk, hy⟩ := List.mem_flatMap.1 hy
        unfold kid at hy
        split at hy
        · obtain ⟨_, r, rfl⟩ := dfs_mem f _ y hy
          rw [List.append_assoc]
          exact lw_app x _ (by simp)
        · cases hy
      · cases hx
theorem sor_eq : ∀ {a b : List Nm}, a.Pairwise (fun x y => lw x y = true) → b.Pairwise (fun x y => lw x y = true) → (∀ x, x ∈ a ↔ x ∈ b) → a = b
  | [], [], _, _, _ => rfl
  | [], y :: b, _, _, h => by have := (h y).2 (by simp); cases this
  | x :: a, [], _, _, h => by have := (h x).1 (by simp); cases this
  | x :: a, y :: b, ha, hb, h => by
    rw [List.pairwise_cons] at ha hb
    have e : x = y := by
      rcases List.mem_cons.1 ((h x).1 (by simp)) with h1 | h1
      · exact h1
      · rcases List.mem_cons.1 ((h y).2 (by simp)) with h2 | h2
        · exact h2.symm
        · have h3 := hb.1 x h1
          have h4 := lw_asym (ha.1 y h2)
          rw [h3] at h4; cases h4
    subst e
    congr 1
    refine sor_eq ha.2 hb.2 fun z => ?_
    constructor
    · intro hz
      rcases List.mem_cons.1 ((h z).1 (by simp [hz])) with rfl | h1
      · have := ha.1 z hz; rw [lw_irr] at this; cases this
      · exact h1
    · intro hz
      rcases List.mem_cons.1 ((h z).2 (by simp [hz])) with rfl | h1
      · have := hb.1 z hz; rw [lw_irr] at this; cases this
      · exact h1
theorem dfs_list {L : List Xc} (hP : Pats L) (hs : Sor L) : dfs L 64 [] = L.map (·.1) := by
  refine sor_eq (dfs_sor 64 []) (by rw [List.pairwise_map]; exact hs) fun x => ?_
  constructor
  · intro hx; exact luk_mem (dfs_mem 64 [] x hx).1
  · intro hx
    obtain ⟨p, hp, rfl⟩ := List.mem_map.1 hx
    exact dfs_all hP hp 64 [] List.nil_prefix (by have := (hP.is p hp).2.2.1; simp; omega)
/-- The program tells its patterns as the document does. -/
theorem Both.texts {P L : List Xc} (h : Both P L) : ptexts P = ltx L := by
  rw [Same.ptexts h.same h.pats h.patl]
  unfold ptexts ltx
  rw [dfs_list h.patl h.sor, List.map_map]
  refine List.map_congr_left fun p hp => ?_
  have e : luk L p.1 = some p.2 := (luk_some h.patl.nodup).2 hp
  show tx L p.1 = _
  unfold tx
  rw [e]
  rfl
/-! ### how many states -/
theorem cpl_cons (a b : UInt8) (x y : Nm) : cpl (a :: x) (b :: y) = if a = b then cpl x y + 1 else 0 := rfl
theorem cpl_take : ∀ (s b : Nm) (k : Nat), k ≤ s.length → (s.take k <+: b ↔ k ≤ cpl s b)
  | [], b, k => by
    intro h
    have hk : k = 0 := by simpa using h
    subst hk
    simp
  | a :: x, [], k => by
    intro h
    cases k with
    | zero => simp
    | succ k => simp [cpl]
  | a :: x, b :: y, k => by
    intro h
    cases k with
    | zero => simp
    | succ k =>
      rw [List.take_succ_cons, List.cons_prefix_cons, cpl_take x y k (by simpa using h), cpl_cons]
      by_cases e : a = b
      · rw [if_pos e]; simp [e]
      · rw [if_neg e]; simp [e]
theorem lw_mid : ∀ (t q m p : Nm), t <+: q → t <+: p → (q = m ∨ lw q m = true) → lw m p = true → t <+: m
  | [], q, m, p => fun _ _ _ _ => List.nil_prefix
  | a :: t, q, m, p => by
    intro hq hp h1 h2
    rcases h1 with rfl | h1
    · exact hq
    obtain ⟨rq, rfl⟩ := hq
    obtain ⟨rp, rfl⟩ := hp
    cases m with
    | nil => rw [List.cons_append, lw_nil] at h1; cases h1
    | cons b m =>
      rw [List.cons_append, lw_cons] at h1 h2
      simp only [Bool.or_eq_true, decide_eq_true_eq, Bool.and_eq_true, beq_iff_eq] at h1 h2
      have hab : a = b := by
        rcases h1 with h1 | h1
        · rcases h2 with h2 | h2
          · exact absurd (UInt8.lt_trans h1 h2) (UInt8.lt_irrefl _)
          · exact h2.1.symm
        · exact h1.1
      subst hab
      have k1 : lw (t ++ rq) m = true := by
        rcases h1 with h1 | h1
        · exact absurd h1 (UInt8.lt_irrefl _)
        · exact h1.2
      have k2 : lw m (t ++ rp) = true := by
        rcases h2 with h2 | h2
        · exact absurd h2 (UInt8.lt_irrefl _)
        · exact h2.2
      rw [List.cons_prefix_cons]
      exact ⟨rfl, lw_mid t _ m _ (List.prefix_append _ _) (List.prefix_append _ _) (.inr k1) k2⟩
theorem ins_len {ns : List Nm} {s : Nm} {c : Nat} (hc : ∀ k, 1 ≤ k → k ≤ s.length → (s.take k ∈ ns ↔ k ≤ c)) : ∀ i, i ≤ s.length → (insTo ns s i).length = ns.length + (i - c)
  | 0, _ => by simp [insTo]
  | i + 1, h => by
    have ih := ins_len hc i (by omega)
    have hm : s.take (i + 1) ∈ insTo ns s i ↔ i + 1 ≤ c := by
      rw [mem_insTo, hc (i + 1) (by omega) h]
      constructor
      · rintro (h1 | ⟨k, h1, h2, h3⟩)
        · exact h1
        · have := congrArg List.length h3
          rw [List.length_take, List.length_take] at this
          omega
      · exact .inl
    show (grow (insTo ns s i) (s.take (i + 1))).length = _
    unfold grow
    split
    · rename_i h1
      have := hm.1 h1
      omega
    · rename_i h1
      have : ¬ i + 1 ≤ c := fun h2 => h1 (hm.2 h2)
      rw [List.length_append, ih, List.length_singleton]
      omega
theorem pre_at {L : List Xc} (hs : Sor L) {k : Nat} {p : Xc} (hp : L[k]? = some p) (i : Nat) (h1 : 1 ≤ i) (h2 : i ≤ p.1.length) : (p.1.take i ∈ nsOf (L.take k) ↔ i ≤ cpl p.1 (prv L k)) := by
  rw [← cpl_take p.1 (prv L k) i h2, mem_nsOf]
  have hkl := (List.getElem?_eq_some_iff.1 hp).1
  have hne : p.1.take i ≠ [] := by intro e; have h3 := congrArg List.length e; rw [List.length_take, List.length_nil] at h3; omega
  cases k with
  | zero =>
    simp only [List.take_zero, List.not_mem_nil, false_and, exists_false, or_false]
    unfold prv
    rw [if_pos rfl]
    exact ⟨fun h => absurd h hne, fun h => absurd (List.prefix_nil.1 h) hne⟩
  | succ k =>
    have hk' : k < L.length := by omega
    have hpv : prv L (k + 1) = L[k].1 := by
      unfold prv
      rw [if_neg (by omega), Nat.add_sub_cancel, List.getElem?_eq_getElem hk']
      rfl
    rw [hpv]
    constructor
    · rintro (h | ⟨q, hq, hpre⟩)
      · exact absurd h hne
      · obtain ⟨j, hj⟩ := List.mem_iff_getElem?.1 hq
        rw [List.getElem?_take] at hj
        split at hj
        · rename_i hjk
          obtain ⟨hj1, rfl⟩ := List.getElem?_eq_some_iff.1 hj
          have hlast : lw L[k].1 p.1 = true := by
            have := List.pairwise_iff_getElem.1 hs k (k + 1) hk' hkl (by omega)
            rw [(List.getElem?_eq_some_iff.1 hp).2] at this
            exact this
          refine lw_mid _ L[j].1 _ p.1 hpre (List.take_prefix _ _) ?_ hlast
          rcases Nat.lt_or_ge j k with h3 | h3
          · exact .inr (List.pairwise_iff_getElem.1 hs j k hj1 hk' h3)
          · obtain rfl : j = k := by omega
            exact .inl rfl
        · cases hj
    · intro h
      refine .inr ⟨L[k], ?_, h⟩
      exact List.mem_of_getElem? (i := k) (by rw [List.getElem?_take, if_pos (by omega), List.getElem?_eq_getElem hk'])
theorem size_dsz {L : List Xc} (hs : Sor L) : ∀ k, k ≤ L.length → (nsOf (L.take k)).length = dsz L k
  | 0, _ => rfl
  | k + 1, h => by
    have ih := size_dsz hs k (by omega)
    have hp : L[k]? = some L[k] := List.getElem?_eq_getElem (by omega)
    rw [List.take_add_one, hp]
    show (nsOf (L.take k ++ [L[k]])).length = dsz L k + (((L[k]?).getD ([], [])).1.length - cpl ((L[k]?).getD ([], [])).1 (prv L k))
    rw [nsOf_snoc, ins_len (c := cpl L[k].1 (prv L k)) (fun i h1 h2 => pre_at hs hp i h1 h2) _ (Nat.le_refl _), ih, hp]
    rfl
/-- The trie has as many states as the document says. -/
theorem Both.size {P L : List Xc} (h : Both P L) : (nsOf P).length = dsz L L.length := by
  rw [h.same.size h.pats h.patl, ← size_dsz h.sor L.length (Nat.le_refl _), List.take_length]
theorem Both.vals {P L : List Xc} (h : Both P L) (l : Nm) : Hp.vals P l = Hp.vals L l := h.same.vals h.pats h.patl l
theorem Both.pts {P L : List Xc} (h : Both P L) (X : List Xc) (l : Nm) (a b : Int) : ptsX P X l a b = ptsX L X l a b := by
  unfold ptsX ptsB
  rw [h.vals]
end Go.Proofs.Ytmcekdjhkjhcdaa.Hy

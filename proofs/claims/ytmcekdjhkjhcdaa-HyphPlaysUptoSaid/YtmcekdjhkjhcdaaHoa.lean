import Derived.Test.YtmcekdjhkjhcdaaHsz
/- SameWords; what HyphOrder's two have in common. Conditions: those that each theorem names. -/
namespace Go.Proofs.Ytmcekdjhkjhcdaa.Hp
theorem mem_told {l : List Nm} : ∀ p ∈ told l, ∃ t ∈ l, rd t = some p := by
  have key : ∀ (l : List Nm) (P : List Pt) (m : List Nm), (∀ p ∈ P, ∃ t ∈ m, rd t = some p) → (∀ t ∈ l, t ∈ m) → ∀ p ∈ l.foldl tell P, ∃ t ∈ m, rd t = some p := by
    intro l
    induction l with
    | nil => exact fun P m h _ => h
    | cons t l ih =>
      intro P m h hm
      refine ih _ m ?_ (fun x hx => hm x (by simp [hx]))
      unfold tell
      split
      · exact h
      · rename_i q hq
        split
        · exact h
        · split
          · exact h
          · intro p hp
            simp only [List.mem_append, List.mem_singleton] at hp
            rcases hp with hp | rfl
            · exact h p hp
            · exact ⟨t, hm t (by simp), hq⟩
  exact key l [] l (by simp) (fun t h => h)
/-- Texts that read, no two with the same signs, not too many: all are taken, in their order. -/
structure Once (l : List Nm) : Prop where
  read : ∀ t ∈ l, ∃ p, rd t = some p
  apart : ∀ (i j : Nat) (a b : Nm) (p q : Pt), l[i]? = some a → l[j]? = some b → rd a = some p → rd b = some q → p.1 = q.1 → i = j
  few : l.length ≤ 5000
theorem Once.nil : Once [] := ⟨by simp, by simp, by simp⟩
theorem Once.snoc {l : List Nm} {t : Nm} {p : Pt} (h : Once l) (hr : rd t = some p) (hn : ∀ a ∈ l, ∀ q, rd a = some q → q.1 ≠ p.1) (h5 : l.length < 5000) : Once (l ++ [t]) := by
  refine ⟨?_, ?_, by simp; omega⟩
  · intro a ha
    simp only [List.mem_append, List.mem_singleton] at ha
    rcases ha with ha | rfl
    · exact h.read a ha
    · exact ⟨p, hr⟩
  · intro i j a b pa pb hi hj ha hb e
    have hil := (List.getElem?_eq_some_iff.1 hi).1
    have hjl := (List.getElem?_eq_some_iff.1 hj).1
    simp only [List.length_append, List.length_singleton] at hil hjl
    rcases Nat.lt_or_ge i l.length with h1 | h1 <;> rcases Nat.lt_or_ge j l.length with h2 | h2
    · rw [List.getElem?_append_left h1] at hi
      rw [List.getElem?_append_left h2] at hj
      exact h.apart i j a b pa pb hi hj ha hb e
    · obtain rfl : j = l.length := by omega
      rw [List.getElem?_append_left h1] at hi
      rw [List.getElem?_append_right (Nat.le_refl _), Nat.sub_self] at hj
      simp at hj
      subst hj
      rw [hr] at hb
      injection hb with hb
      subst hb
      exact absurd e (hn a (List.mem_of_getElem? hi) pa ha)
    · obtain rfl : i = l.length := by omega
      rw [List.getElem?_append_left h2] at hj
      rw [List.getElem?_append_right (Nat.le_refl _), Nat.sub_self] at hi
      simp at hi
      subst hi
      rw [hr] at ha
      injection ha with ha
      subst ha
      exact absurd e.symm (hn b (List.mem_of_getElem? hj) pb hb)
    · omega
theorem Once.part {l : List Nm} {t : Nm} (h : Once (l ++ [t])) : Once l ∧ ∃ p, rd t = some p ∧ (∀ a ∈ l, ∀ q, rd a = some q → q.1 ≠ p.1) ∧ l.length < 5000 := by
  obtain ⟨p, hp⟩ := h.read t (by simp)
  have hf := h.few
  simp only [List.length_append, List.length_singleton] at hf
  refine ⟨⟨fun a ha => h.read a (by simp [ha]), ?_, by omega⟩, p, hp, ?_, by omega⟩
  · intro i j a b pa pb hi hj ha hb e
    have hil := (List.getElem?_eq_some_iff.1 hi).1
    have hjl := (List.getElem?_eq_some_iff.1 hj).1
    exact h.apart i j a b pa pb (by rw [List.getElem?_append_left hil]; exact hi) (by rw [List.getElem?_append_left hjl]; exact hj) ha hb e
  · intro a ha q hq e
    obtain ⟨i, hi⟩ := List.mem_iff_getElem?.1 ha
    have hil := (List.getElem?_eq_some_iff.1 hi).1
    have := h.apart i l.length a t q p (by rw [List.getElem?_append_left hil]; exact hi) (by rw [List.getElem?_append_right (Nat.le_refl _), Nat.sub_self]; rfl) hq hp e
    omega
theorem Once.told : ∀ {l : List Nm}, Once l → ∀ t ∈ l, ∀ p, rd t = some p → p ∈ told l := by
  intro l
  induction hn : l.length generalizing l with
  | zero => intro _ t ht; rw [List.eq_nil_of_length_eq_zero hn] at ht; cases ht
  | succ n ih =>
    have hne : l ≠ [] := by intro e; subst e; cases hn
    obtain ⟨m, x, rfl⟩ : ∃ m x, l = m ++ [x] := ⟨l.dropLast, l.getLast hne, (List.dropLast_concat_getLast hne).symm⟩
    intro h t ht p hp
    obtain ⟨h1, q, hq, h2, h3⟩ := h.part
    have hlen : (Hp.told m).length ≤ m.length := by
      have key : ∀ (l : List Nm) (P : List Pt), (l.foldl tell P).length ≤ P.length + l.length := by
        intro l
        induction l with
        | nil => intro P; simp
        | cons a l ih2 =>
          intro P
          have h5 := ih2 (tell P a)
          have h6 : (tell P a).length ≤ P.length + 1 := by
            unfold tell
            split
            · omega
            · split
              · omega
              · split
                · omega
                · simp
          simp only [List.foldl_cons, List.length_cons]
          omega
      have := key m []
      simpa [Hp.told] using this
    have ht2 : Hp.told (m ++ [x]) = Hp.told m ++ [q] := by
      rw [told_snoc]
      refine tell_yes hq ?_ (by omega)
      intro hm
      obtain ⟨r, hr, he⟩ := List.mem_map.1 hm
      obtain ⟨a, ha, hra⟩ := mem_told r hr
      exact h2 a ha r hra he
    rw [ht2]
    simp only [List.mem_append, List.mem_singleton] at ht ⊢
    rcases ht with ht | rfl
    · exact .inl (ih (by simpa using hn) h1 t ht p hp)
    · rw [hq] at hp
      injection hp with hp
      exact .inr hp.symm
/-- The same texts in another order. -/
theorem Once.perm {l m : List Nm} (h : Once l) (hlen : m.length = l.length) (f : Nat → Nat) (hf : ∀ i, i < l.length → f i < l.length ∧ m[i]? = l[f i]?) (hinj : ∀ i j, i < l.length → j < l.length → f i = f j → i = j) : Once m := by
  refine ⟨?_, ?_, by rw [hlen]; exact h.few⟩
  · intro t ht
    obtain ⟨i, hi⟩ := List.mem_iff_getElem?.1 ht
    have hil := (List.getElem?_eq_some_iff.1 hi).1
    rw [(hf i (by omega)).2] at hi
    exact h.read t (List.mem_of_getElem? hi)
  · intro i j a b p q hi hj ha hb e
    have hil := (List.getElem?_eq_some_iff.1 hi).1
    have hjl := (List.getElem?_eq_some_iff.1 hj).1
    rw [(hf i (by omega)).2] at hi
    rw [(hf j (by omega)).2] at hj
    exact hinj i j (by omega) (by omega) (h.apart _ _ a b p q hi hj ha hb e)
theorem Once.turn {l : List Nm} (h : Once l) {k : Nat} (hk : k < l.length) : Once (l.drop k ++ l.take k) := by
  refine h.perm (by simp; omega) (fun i => if i < l.length - k then k + i else i - (l.length - k)) ?_ ?_
  · intro i hi
    by_cases h1 : i < l.length - k
    · simp only [if_pos h1]
      refine ⟨by omega, ?_⟩
      rw [List.getElem?_append_left (by simp; omega), List.getElem?_drop]
    · simp only [if_neg h1]
      refine ⟨by omega, ?_⟩
      rw [List.getElem?_append_right (by simp; omega), List.length_drop, List.getElem?_take, if_pos (by omega)]
  · intro i j hi hj
    split <;> split <;> omega
/-- What depends on the patterns alone. -/
structure Same (P Q : List Pt) : Prop where
  mem : ∀ p, p ∈ P ↔ p ∈ Q
theorem same_turn {l : List Nm} (h : Once l) {k : Nat} (hk : k < l.length) : Same (told l) (told (l.drop k ++ l.take k)) := by
  have hm : ∀ t, t ∈ l ↔ t ∈ l.drop k ++ l.take k := by
    intro t
    conv => lhs; rw [← List.take_append_drop k l]
    simp only [List.mem_append]
    exact Or.comm
  refine ⟨fun p => ⟨fun hp => ?_, fun hp => ?_⟩⟩
  · obtain ⟨t, ht, hr⟩ := mem_told p hp
    exact (h.turn hk).told t ((hm t).1 ht) p hr
  · obtain ⟨t, ht, hr⟩ := mem_told p hp
    exact h.told t ((hm t).2 ht) p hr
theorem Same.luk {P Q : List Pt} (h : Same P Q) (hP : Pats P) (hQ : Pats Q) (s : Nm) : luk P s = luk Q s := by
  cases hq : Hp.luk Q s with
  | none =>
    rw [luk_none] at hq ⊢
    exact fun p hp => hq p ((h.mem p).1 hp)
  | some v =>
    rw [luk_some hQ.nodup] at hq
    rw [luk_some hP.nodup]
    exact (h.mem _).2 hq
theorem Same.ns {P Q : List Pt} (h : Same P Q) (s : Nm) : s ∈ nsOf P ↔ s ∈ nsOf Q := by
  rw [mem_nsOf, mem_nsOf]
  constructor
  · rintro (h1 | ⟨p, hp, h1⟩)
    · exact .inl h1
    · exact .inr ⟨p, (h.mem p).1 hp, h1⟩
  · rintro (h1 | ⟨p, hp, h1⟩)
    · exact .inl h1
    · exact .inr ⟨p, (h.mem p).2 hp, h1⟩
theorem Same.size {P Q : List Pt} (h : Same P Q) (hP : Pats P) (hQ : Pats Q) : (nsOf P).length = (nsOf Q).length :=
  Nat.le_antisymm (hP.tri.nodup.length_le_of_subset fun s hs => (h.ns s).1 hs) (hQ.tri.nodup.length_le_of_subset fun s hs => (h.ns s).2 hs)
theorem Same.dfs {P Q : List Pt} (h : Same P Q) (hP : Pats P) (hQ : Pats Q) (f : Nat) (s : Nm) : dfs P f s = dfs Q f s := dfs_congr (h.luk hP hQ) h.ns f s
theorem Same.tx {P Q : List Pt} (h : Same P Q) (hP : Pats P) (hQ : Pats Q) (s : Nm) : tx P s = tx Q s := by
  unfold Hp.tx
  rw [h.luk hP hQ]
theorem Same.mx {P Q : List Pt} (h : Same P Q) (hP : Pats P) (hQ : Pats Q) (e : Nm) (k : Nat) : mx (ya P e e.length) k ≤ mx (ya Q e e.length) k := by
  rw [mx_le]
  refine ⟨mx_nonneg _ _, fun y hy => cb_le_mx ?_ k⟩
  rw [mem_ya hP] at hy
  rw [mem_ya hQ]
  obtain ⟨s, h1, h2⟩ := hy
  exact ⟨s, (h.mem _).1 h1, h2⟩
theorem Same.symm {P Q : List Pt} (h : Same P Q) : Same Q P := ⟨fun p => (h.mem p).symm⟩
theorem Same.vals {P Q : List Pt} (h : Same P Q) (hP : Pats P) (hQ : Pats Q) (w : Nm) : vals P w = vals Q w := by
  apply List.ext_getElem?
  intro k
  by_cases hk : k < w.length - 1
  · rw [vals_get P w hk, vals_get Q w hk]
    have e : w.length + 2 = (edg w).length := (edg_len w).symm
    rw [e]
    exact congrArg some (Int.le_antisymm (h.mx hP hQ _ _) (h.symm.mx hQ hP _ _))
  · rw [List.getElem?_eq_none (by rw [vals_len]; omega), List.getElem?_eq_none (by rw [vals_len]; omega)]
end Go.Proofs.Ytmcekdjhkjhcdaa.Hp
namespace Go.Proofs.Ytmcekdjhkjhcdaa.Hy
open Go.ChangeShapes Go.WideShapes Go.ChangeAt Go.RowKit
open Me Hp
set_option linter.unusedVariables false
set_option linter.unusedSimpArgs false
theorem Same.ptexts {P Q : List Pt} (h : Hp.Same P Q) (hP : Pats P) (hQ : Pats Q) : ptexts P = ptexts Q := by
  unfold Hy.ptexts
  rw [h.dfs hP hQ]
  congr 1
  funext s
  exact h.tx hP hQ s
theorem same_words (A1 A2 : Option Addr) (l1 l2 : List Nm) (c1 c2 : Nat) (w : World) (h1 : l1.length ≤ 1048576) (h2 : l2.length ≤ 1048576) (hs1 : Seg w w.heap.size A1 (l1.map tv)) (hs2 : Seg w w.heap.size A2 (l2.map tv)) :
    Calls Try.prog 46 #[.slice A1 l1.length c1, .slice A2 l2.length c2] w fun e w' => e = .returned (.bool (decide (l1 = l2))) ∧ Below w.heap.size w w' := by
  by_cases hl : (l1.length : Int) = l2.length
  · have hl' : l1.length = l2.length := by omega
    have HS := Lib.hid (And.intro hs1 hs2)
    have HL := Lib.hid hl'
    rw [← hl']
    clear hs1 hs2 hl hl'
    go_enter Try.func46, Try.ntmps46
    go_wp2_with fail
    go_loopw [5] (fun v5 wr => ∃ k nq : Nat, k ≤ l1.length ∧ v5 = .int .i64 (k : Int) ∧ l1.take k = l2.take k ∧ wr = w.drewN nq) (fun v5 _ => l1.length - (intOf v5).toNat)
    case atStart => exact ⟨0, 0, by omega, rfl, by simp, rfl⟩
    case round =>
      obtain ⟨k, nq, hk, rfl, heq, hwr⟩ := hrel
      have HWR := Lib.hid hwr
      have HEQ := Lib.hid heq
      by_cases hlt : k < l1.length
      · obtain ⟨x, hx⟩ := get_some hlt
        obtain ⟨y, hy⟩ := get_some (l := l2) (k := k) (by rw [← HL.out]; exact hlt)
        obtain ⟨b1, o1, rfl, hb1, hc1⟩ := seg_get HS.out.1 (k := k) (u := tv x) (by rw [List.getElem?_map, hx]; rfl)
        obtain ⟨b2, o2, rfl, hb2, hc2⟩ := seg_get HS.out.2 (k := k) (u := tv y) (by rw [List.getElem?_map, hy]; rfl)
        have hc1' : wr.cell? ⟨b1, o1 + k, none⟩ = some (.string (S x)) := by rw [hwr]; exact hc1
        have hc2' : wr.cell? ⟨b2, o2 + k, none⟩ = some (.string (S y)) := by rw [hwr]; exact hc2
        have HXY := Lib.hid (And.intro hx hy)
        have hlti : (k : Int) < (l1.length : Int) := by omega
        clear hc1 hc2 hwr heq hx hy
        by_cases hxy : x = y
        · subst hxy
          have hq : ((S x).toList == (S x).toList) = true := by simp
          go_wp2_with fail
          go_quiet (fail)
          go_wp2_with fail
          go_roundw
          case rel =>
            refine ⟨k + 1, _, by omega, by go_num, ?_, by rw [HWR.out, World.drewN_drewN]⟩
            rw [List.take_add_one, List.take_add_one, HEQ.out, HXY.out.1, HXY.out.2]
          case measure => simp [intOf]; omega
        · have HN := Lib.hid hxy
          have hq : ((S x).toList == (S y).toList) = false := by
            rw [beq_eq_false_iff_ne, ByteArray.toList_eq, ByteArray.toList_eq]
            intro e
            exact hxy e
          clear hxy
          go_wp2_with fail
          go_quiet (fail)
          go_wp2_with fail
          go_ret
          refine ⟨?_, by rw [HWR.out, World.drewN_drewN]; exact below_drewN (Below.refl _ _) _⟩
          refine ret_b (decide_eq_false fun e => HN.out ?_).symm
          have := HXY.out.1
          rw [e, HXY.out.2] at this
          injection this with this
          exact this.symm
      · obtain rfl : k = l1.length := by omega
        go_wp2_with fail
        go_ret
        refine ⟨?_, below_drewN (Below.refl _ _) _⟩
        refine ret_b (decide_eq_true ?_).symm
        have := HEQ.out
        rw [List.take_length, HL.out, List.take_length] at this
        exact this
  · have HL := Lib.hid hl
    clear hs1 hs2
    go_enter Try.func46, Try.ntmps46
    go_wp2_with fail
    go_ret
    refine ⟨ret_b (decide_eq_false fun e => HL.out (by rw [e])).symm, Below.refl _ _⟩
end Go.Proofs.Ytmcekdjhkjhcdaa.Hy

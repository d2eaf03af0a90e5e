import Derived.Test.YtmcekdjhkjhcdaaGreatDoorNu
/- What a list comes to, Discs and all; two lists, one behind the other; in plain Lean. No Go in sight. Conditions: those that each theorem names. -/
namespace Go.Proofs.YtmcekdjhkjhcdaaGreatDoor.Np
set_option linter.unusedSimpArgs false
set_option linter.unusedVariables false

/-- How long the item at a place is, if it is no Disc. -/
def al0 (l : List Nd) (down : Bool) (x : Nat) : Int := match l[x]? with
  | none => 0
  | some n => alongP n down
/-- How long the item at a place is. -/
def AlV (ns : List Nd) (down : Bool) (x : Nat) (v : Int) : Prop :=
  ∃ n, ns[x]? = some n ∧ (if n.kind = 10 ∧ down = false then
    ∃ ss m xs, D3 ss (ns.drop (x + 1)) 0 m ∧ Its xs (thr ss (ns.drop (x + 1)) 0 2) 0 ∧ v = (tsum (thr ss (ns.drop (x + 1)) 0 2) (al0 (thr ss (ns.drop (x + 1)) 0 2) false) xs tz).nat
  else v = alongP n down)
theorem AlV.unique {ns : List Nd} {down : Bool} {x : Nat} {v u : Int} (h : AlV ns down x v) (k : AlV ns down x u) : v = u := by
  obtain ⟨n, hn, h⟩ := h
  obtain ⟨n', hn', k⟩ := k
  rw [hn] at hn'
  injection hn' with e
  subst e
  split at h
  · rename_i hc
    rw [if_pos hc] at k
    obtain ⟨ss, m, xs, h1, h2, h3⟩ := h
    obtain ⟨tt, q, ys, k1, k2, k3⟩ := k
    have e1 := D3.unique h1 k1
    subst e1
    have e2 := Its.unique h2 k2
    subst e2
    rw [h3, k3]
  · rename_i hc
    rw [if_neg hc] at k
    rw [h, k]
open Classical in
/-- The same as a function. -/
noncomputable def alD (ns : List Nd) (down : Bool) (x : Nat) : Int := if h : ∃ v, AlV ns down x v then h.choose else 0
theorem alD_of {ns : List Nd} {down : Bool} {x : Nat} {v : Int} (h : AlV ns down x v) : alD ns down x = v := by
  have hx : ∃ v, AlV ns down x v := ⟨v, h⟩
  unfold alD
  rw [dif_pos hx]
  exact AlV.unique hx.choose_spec h
/-- Sums of items, where each is no greater than a bound. -/
theorem tsum_nat_bd (ns : List Nd) (al : Nat → Int) : ∀ (xs : List Nat) (T : Tot) (k : Nat), (∀ x ∈ xs, -2147483646 ≤ al x ∧ al x ≤ 2147483646) → -(2147483646 * (k : Int)) ≤ T.nat → T.nat ≤ 2147483646 * (k : Int) →
    -(2147483646 * ((k + xs.length : Nat) : Int)) ≤ (tsum ns al xs T).nat ∧ (tsum ns al xs T).nat ≤ 2147483646 * ((k + xs.length : Nat) : Int)
  | [], T, k, h, h1, h2 => by simpa [tsum] using ⟨h1, h2⟩
  | x :: xs, T, k, h, h1, h2 => by
    have hx := h x (by simp)
    have hxs : ∀ y ∈ xs, -2147483646 ≤ al y ∧ al y ≤ 2147483646 := fun y hy => h y (by simp [hy])
    simp only [tsum, List.length_cons]
    have e : k + (xs.length + 1) = (k + 1) + xs.length := by omega
    rw [e]
    split
    · exact tsum_nat_bd ns al xs T (k + 1) hxs (by omega) (by omega)
    · rename_i n hn
      have e2 : (tstep T n (al x)).nat = T.nat + al x := by unfold tstep; split <;> rfl
      exact tsum_nat_bd ns al xs _ (k + 1) hxs (by omega) (by omega)
theorem al0_bd {l : List Nd} (hr : ∀ x ∈ l, right x = true) (down : Bool) (x : Nat) : -2147483646 ≤ al0 l down x ∧ al0 l down x ≤ 2147483646 := by
  unfold al0
  split
  · omega
  · rename_i n hn
    exact along_bd (hr n (List.mem_of_getElem? hn)) down
/-- Each item of a list is so long. -/
theorem alV_ex {ns : List Nd} (down : Bool) (h : chk ns = 0) {x : Nat} {n : Nd} (hn : ns[x]? = some n) (h6 : ¬ n.kind = 6) (h11 : ¬ n.kind = 11) : ∃ v, AlV ns down x v := by
  by_cases hc : n.kind = 10 ∧ down = false
  · obtain ⟨m, hm⟩ := item_ends h hn h6 h11
    obtain ⟨_, ss, hss⟩ := disc_steps h hn hc.1 hm
    obtain ⟨xs, hxs, _⟩ := thr_its 2 0 hss
    exact ⟨_, n, hn, by rw [if_pos hc]; exact ⟨ss, m - 2, xs, hss, hxs, rfl⟩⟩
  · exact ⟨_, n, hn, by rw [if_neg hc]⟩
theorem alV_bd {ns : List Nd} {down : Bool} (h : chk ns = 0) {x : Nat} {v : Int} (hv : AlV ns down x v) : -4294967292000 ≤ v ∧ v ≤ 4294967292000 := by
  have hr := chk_right h
  have hl := (chk_run h).1
  obtain ⟨n, hn, hv⟩ := hv
  split at hv
  · obtain ⟨ss, m, xs, h1, h2, rfl⟩ := hv
    have hr3 : ∀ y ∈ thr ss (ns.drop (x + 1)) 0 2, right y = true := fun y hy => hr y (List.mem_of_mem_drop (thr_mem y hy))
    have h3 := tsum_nat_bd (thr ss (ns.drop (x + 1)) 0 2) (al0 (thr ss (ns.drop (x + 1)) 0 2) false) xs tz 0 (fun y hy => al0_bd hr3 false y) (by simp [tz]) (by simp [tz])
    have h4 := h2.len
    have h5 := thr_len (j := 2) h1
    have h6 := h1.le
    rw [List.length_drop] at h6
    omega
  · have := along_bd (hr n (List.mem_of_getElem? hn)) down
    omega
theorem Its.beg : ∀ {xs : List Nat} {l : List Nd} {o : Nat}, Its xs l o → (∃ d d', run l ([], d) = some ([], d')) → ∀ x ∈ xs, ∃ n, l[x - o]? = some n ∧ ¬ n.kind = 6 ∧ ¬ n.kind = 11
  | [], l, o, h, _, x, hx => by cases hx
  | y :: xs, l, o, h, ⟨d, d', hd⟩, x, hx => by
    obtain ⟨rfl, m, hm, hxs⟩ := h
    have hb := endc_bd hm
    have hne : l ≠ [] := by rintro rfl; simp at hb; omega
    obtain ⟨m', d1, h1, h2, h3⟩ := run_item hd hne
    simp only [List.length_nil] at h1
    have h1' : endc l 0 = some m' := h1
    rw [hm] at h1'
    injection h1' with e
    subst e
    rcases List.mem_cons.1 hx with rfl | hx
    · cases l with
      | nil => exact absurd rfl hne
      | cons n l =>
        refine ⟨n, by simp, ?_, ?_⟩
        · intro h6
          simp only [run] at hd
          cases hs : stp ([], d) n with
          | none => rw [hs] at hd; cases hd
          | some s1 =>
            unfold stp at hs
            simp [h6] at hs
        · intro h11
          simp only [run] at hd
          cases hs : stp ([], d) n with
          | none => rw [hs] at hd; cases hd
          | some s1 =>
            unfold stp at hs
            simp [h11] at hs
    · obtain ⟨n, hn, hk⟩ := Its.beg hxs ⟨d1, d', h3⟩ x hx
      have := (Its.lt hxs x hx).1
      refine ⟨n, ?_, hk⟩
      rw [← hn, List.getElem?_drop]
      congr 1
      omega
theorem its_beg {l : List Nd} {xs : List Nat} (h : chk l = 0) (hx : Its xs l 0) : ∀ x ∈ xs, ∃ n, l[x]? = some n ∧ ¬ n.kind = 6 ∧ ¬ n.kind = 11 := by
  obtain ⟨_, d, hd, _⟩ := chk_run h
  intro x hm
  simpa using hx.beg ⟨0, d, hd⟩ x hm
/-- Each item's length, as a function. -/
theorem alD_spec {l : List Nd} {xs : List Nat} (down : Bool) (h : chk l = 0) (hx : Its xs l 0) : ∀ x ∈ xs, AlV l down x (alD l down x) := by
  intro x hm
  obtain ⟨n, hn, h6, h11⟩ := its_beg h hx x hm
  obtain ⟨v, hv⟩ := alV_ex down h hn h6 h11
  rw [alD_of hv]
  exact hv

/-! ### One list behind the other -/
theorem run_deeper : ∀ {l : List Nd} {st st' : List Int} {d d' : Int} (c : Int), run l (st, d) = some (st', d') → run l (st, max c d) = some (st', max c d')
  | [], st, st', d, d', c, h => by simp [run] at h ⊢; obtain ⟨rfl, rfl⟩ := h; exact ⟨rfl, rfl⟩
  | n :: l, st, st', d, d', c, h => by
    simp only [run] at h ⊢
    cases h1 : stp (st, d) n with
    | none => rw [h1] at h; cases h
    | some s =>
      obtain ⟨st1, d1⟩ := s
      rw [h1] at h
      simp only at h
      have h2 : stp (st, max c d) n = some (st1, max c d1) := by
        unfold stp at h1 ⊢
        split at h1
        · rename_i hr
          rw [if_pos hr]
          split at h1
          · rename_i h6
            rw [if_pos h6]
            split at h1
            · cases h1
            · rename_i hst
              simp only at hst
              subst hst
              simp only
              split at h1
              · cases h1
              · rename_i ht
                rw [if_neg ht]
                simp at h1
                obtain ⟨rfl, rfl⟩ := h1
                rfl
          · rename_i h6
            rw [if_neg h6]
            split at h1
            · rename_i h11
              rw [if_pos h11]
              split at h1
              · cases h1
              · rename_i hst
                simp only at hst
                subst hst
                simp only
                split at h1
                · cases h1
                · rename_i ht
                  rw [if_neg ht]
                  simp at h1
                  obtain ⟨rfl, rfl⟩ := h1
                  rfl
            · rename_i h11
              rw [if_neg h11]
              split at h1
              · cases h1
              · rename_i hb
                rw [if_neg hb]
                simp only [Option.some.injEq, Prod.mk.injEq] at h1
                obtain ⟨h3, h4⟩ := h1
                simp only [Option.some.injEq, Prod.mk.injEq]
                exact ⟨h3, by omega⟩
        · cases h1
      rw [h2]
      exact run_deeper c h
theorem chk_of {l : List Nd} {d : Int} (hl : l.length ≤ 2000) (h : run l ([], 0) = some ([], d)) (hd : d ≤ 40) : chk l = 0 := by
  rw [chk_end hl h, if_pos rfl, if_neg (by omega)]
theorem chk_join {a b : List Nd} (ha : chk a = 0) (hb : chk b = 0) (hl : a.length + b.length ≤ 2000) : chk (a ++ b) = 0 := by
  obtain ⟨_, d, h1, h2⟩ := chk_run ha
  obtain ⟨_, e, h3, h4⟩ := chk_run hb
  by_cases h0 : 0 ≤ d
  · have h5 := run_deeper d h3
    rw [Int.max_eq_left h0] at h5
    refine chk_of (d := max d e) (by rw [List.length_append]; omega) ?_ (by omega)
    rw [run_append, h1]
    exact h5
  · have := (run_bd (k := 0) h1 (by simp) (Int.le_refl _) (Int.le_refl _)).2.1
    omega
theorem Its.shift : ∀ {xs : List Nat} {l : List Nd} {o : Nat} (q : Nat), Its xs l o → Its (xs.map (q + ·)) l (q + o)
  | [], l, o, q, h => h
  | x :: xs, l, o, q, h => by
    obtain ⟨rfl, m, hm, hx⟩ := h
    refine ⟨rfl, m, hm, ?_⟩
    have := hx.shift q
    rwa [← Nat.add_assoc] at this
theorem its_join : ∀ {xs ys : List Nat} {a b : List Nd} {o : Nat}, Its xs a o → Its ys b (o + a.length) → Its (xs ++ ys) (a ++ b) o
  | [], ys, a, b, o, h, k => by
    have h : a = [] := h
    subst h
    simpa using k
  | x :: xs, ys, a, b, o, h, k => by
    obtain ⟨rfl, m, hm, hx⟩ := h
    have hb := endc_bd hm
    refine ⟨rfl, m, endc_more b hm, ?_⟩
    rw [List.drop_append_of_le_length hb.2]
    refine its_join hx ?_
    rw [List.length_drop]
    have e : x + m + (a.length - m) = x + a.length := by omega
    rw [e]
    exact k
/-- Totals that are others with an amount more. -/
structure Tmore (T T' D : Tot) : Prop where
  nat : T'.nat = T.nat + D.nat
  st4 : T.st.length = 4 ∧ T'.st.length = 4 ∧ T.sh.length = 4 ∧ T'.sh.length = 4
  st : ∀ i : Nat, T'.st.getD i 0 = T.st.getD i 0 + D.st.getD i 0
  sh : ∀ i : Nat, T'.sh.getD i 0 = T.sh.getD i 0 + D.sh.getD i 0
theorem Tmore.step {T T' D : Tot} (h : Tmore T T' D) (n : Nd) (v : Int) : Tmore (tstep T n v) (tstep T' n v) D := by
  obtain ⟨h1, ⟨h2, h3, h4, h5⟩, h6, h7⟩ := h
  unfold tstep
  split
  · refine ⟨by simp only; omega, by simp [h2, h3, h4, h5], fun i => ?_, fun i => ?_⟩
    · simp only
      rw [set_getD, set_getD, h2, h3]
      have a := h6 i
      by_cases e : n.ga.toNat = i
      · subst e; split <;> omega
      · rw [if_neg (by omega), if_neg (by omega)]; exact a
    · simp only
      rw [set_getD, set_getD, h4, h5]
      have a := h7 i
      by_cases e : n.gb.toNat = i
      · subst e; split <;> omega
      · rw [if_neg (by omega), if_neg (by omega)]; exact a
  · exact ⟨by simp only; omega, ⟨h2, h3, h4, h5⟩, h6, h7⟩
theorem tsum_more (ns : List Nd) (al : Nat → Int) : ∀ (xs : List Nat) {T T' D : Tot}, Tmore T T' D → Tmore (tsum ns al xs T) (tsum ns al xs T') D
  | [], T, T', D, h => h
  | x :: xs, T, T', D, h => by
    simp only [tsum]
    split
    · exact tsum_more ns al xs h
    · exact tsum_more ns al xs (h.step _ _)
theorem tsum_append (ns : List Nd) (al : Nat → Int) : ∀ (xs ys : List Nat) (T : Tot), tsum ns al (xs ++ ys) T = tsum ns al ys (tsum ns al xs T)
  | [], ys, T => rfl
  | x :: xs, ys, T => by
    simp only [List.cons_append, tsum]
    split <;> exact tsum_append ns al xs ys _
theorem tsum_same (ns ms : List Nd) (al bl : Nat → Int) (q : Nat) : ∀ (xs : List Nat) (T : Tot), (∀ x ∈ xs, ns[x]? = ms[q + x]? ∧ al x = bl (q + x)) → tsum ns al xs T = tsum ms bl (xs.map (q + ·)) T
  | [], T, h => rfl
  | x :: xs, T, h => by
    obtain ⟨h1, h2⟩ := h x (by simp)
    have hx : ∀ y ∈ xs, ns[y]? = ms[q + y]? ∧ al y = bl (q + y) := fun y hy => h y (by simp [hy])
    simp only [List.map_cons, tsum]
    rw [h1, h2]
    split <;> exact tsum_same ns ms al bl q xs _ hx
theorem tstep_len {T : Tot} (n : Nd) (v : Int) (h : T.st.length = 4 ∧ T.sh.length = 4) : (tstep T n v).st.length = 4 ∧ (tstep T n v).sh.length = 4 := by
  unfold tstep
  split
  · simp [h]
  · exact h
theorem tsum_len (ns : List Nd) (al : Nat → Int) : ∀ (xs : List Nat) (T : Tot), T.st.length = 4 ∧ T.sh.length = 4 → (tsum ns al xs T).st.length = 4 ∧ (tsum ns al xs T).sh.length = 4
  | [], T, h => h
  | x :: xs, T, h => by
    simp only [tsum]
    split
    · exact tsum_len ns al xs T h
    · exact tsum_len ns al xs _ (tstep_len _ _ h)
theorem tz_more {T : Tot} (h : T.st.length = 4 ∧ T.sh.length = 4) : Tmore tz T T :=
  ⟨by simp [tz], ⟨rfl, h.1, rfl, h.2⟩, fun i => by simp only [tz]; rw [tz_get]; omega, fun i => by simp only [tz]; rw [tz_get]; omega⟩
/-- What a list comes to. -/
noncomputable def totD (ns : List Nd) (down : Bool) (xs : List Nat) : Tot := tsum ns (alD ns down) xs tz
theorem totD_len (ns : List Nd) (down : Bool) (xs : List Nat) : (totD ns down xs).st.length = 4 ∧ (totD ns down xs).sh.length = 4 := tsum_len _ _ _ _ ⟨rfl, rfl⟩
theorem alV_left {a b : List Nd} {down : Bool} {x : Nat} {v : Int} (h : AlV a down x v) : AlV (a ++ b) down x v := by
  obtain ⟨n, hn, h⟩ := h
  have hx := (List.getElem?_eq_some_iff.1 hn).1
  refine ⟨n, by rw [List.getElem?_append_left hx]; exact hn, ?_⟩
  split
  · rename_i hc
    rw [if_pos hc] at h
    obtain ⟨ss, m, xs, h1, h2, h3⟩ := h
    have e : (a ++ b).drop (x + 1) = a.drop (x + 1) ++ b := List.drop_append_of_le_length (by omega)
    refine ⟨ss, m, xs, by rw [e]; exact h1.append b, ?_, ?_⟩
    · rw [e, thr_append b 2 h1]
      exact h2
    · rw [e, thr_append b 2 h1]
      exact h3
  · rename_i hc
    rw [if_neg hc] at h
    exact h
theorem alV_right {a b : List Nd} {down : Bool} {x : Nat} {v : Int} (h : AlV b down x v) : AlV (a ++ b) down (a.length + x) v := by
  obtain ⟨n, hn, h⟩ := h
  refine ⟨n, by rw [List.getElem?_append_right (by omega), Nat.add_sub_cancel_left]; exact hn, ?_⟩
  have e : (a ++ b).drop (a.length + x + 1) = b.drop (x + 1) := by
    rw [Nat.add_assoc, List.drop_append, List.drop_of_length_le (by omega), List.nil_append, Nat.add_sub_cancel_left]
  rw [e]
  exact h
/-- Two lists come to what both come to. -/
theorem tot_join {a b : List Nd} {xs ys : List Nat} (down : Bool) (ha : chk a = 0) (hb : chk b = 0) (hx : Its xs a 0) (hy : Its ys b 0) :
    Tmore (totD b down ys) (totD (a ++ b) down (xs ++ ys.map (a.length + ·))) (totD a down xs) := by
  have h1 : totD a down xs = tsum (a ++ b) (alD (a ++ b) down) xs tz := by
    have := tsum_same a (a ++ b) (alD a down) (alD (a ++ b) down) 0 xs tz fun x hm => by
      have hlt := (hx.lt x hm).2
      refine ⟨by rw [Nat.zero_add, List.getElem?_append_left (by omega)], ?_⟩
      rw [Nat.zero_add]
      exact (alD_of (alV_left (alD_spec down ha hx x hm))).symm
    simpa [totD] using this
  have h2 : totD b down ys = tsum (a ++ b) (alD (a ++ b) down) (ys.map (a.length + ·)) tz := by
    refine tsum_same b (a ++ b) (alD b down) (alD (a ++ b) down) a.length ys tz fun x hm => ?_
    refine ⟨by rw [List.getElem?_append_right (by omega), Nat.add_sub_cancel_left], ?_⟩
    exact (alD_of (alV_right (alD_spec down hb hy x hm))).symm
  have h3 : totD (a ++ b) down (xs ++ ys.map (a.length + ·)) = tsum (a ++ b) (alD (a ++ b) down) (ys.map (a.length + ·)) (totD a down xs) := by
    unfold totD
    rw [tsum_append]
    congr 1
    exact h1.symm
  rw [h2, h3]
  exact tsum_more _ _ _ (tz_more (totD_len a down xs))
theorem its_join0 {a b : List Nd} {xs ys : List Nat} (hx : Its xs a 0) (hy : Its ys b 0) : Its (xs ++ ys.map (a.length + ·)) (a ++ b) 0 := by
  refine its_join hx ?_
  have := hy.shift a.length
  simpa using this
end Go.Proofs.YtmcekdjhkjhcdaaGreatDoor.Np

import Derived.Test.YtoboecenlangmaaNr
import Derived.Test.YtoboecenlangmaaNodeKb
import Derived.Deep.RegionLaw
import Derived.Laws.AppendOwn
import Derived.Test.YtoboecenlangmaaNv
import Derived.RegionTactic
import Derived.BigRegion
import Derived.Deep.RegionWith
import Derived.Test.YtoboecenlangmaaNz
import Derived.Lib.MinMax
import Derived.BigQuiet
import Derived.Test.YtoboecenlangmaaNy
import Derived.Test.YtoboecenlangmaaPkc
import Derived.Test.YtoboecenlangmaaPka
import Derived.Test.YtoboecenlangmaaNodeG
import Derived.Deep.MidRow
import Derived.Handy
import Derived.Test.YtoboecenlangmaaNodeJ
import Derived.StillTailTactics
import Derived.IntWalk
import Derived.Test.YtoboecenlangmaaGlueG
import Derived.Test.YtoboecenlangmaaGlueI
import Derived.RowKit
import Derived.Test.YtoboecenlangmaaNp
/- Merged texts. Conditions: those that each theorem names. -/
section
namespace Go.Proofs.Ytoboecenlangmaa.Np

/-- How deep a whole list comes out. -/
def dep : List Nd → Int
  | [] => 0
  | x :: l => cnt x 0 + dep l
theorem cnt_add (x : Nd) (n : Int) : cnt x n = n + cnt x 0 := by
  unfold cnt
  split
  · omega
  · split <;> omega
theorem run_dep : ∀ {l : List Nd} {s s' : St}, run l s = some s' → (s'.1.length : Int) = s.1.length + dep l
  | [], s, s', h => by simp [run] at h; subst h; simp [dep]
  | x :: l, s, s', h => by
    simp only [run] at h
    cases h1 : stp s x with
    | none => rw [h1] at h; cases h
    | some s1 =>
      rw [h1] at h
      have h2 := run_dep h
      obtain ⟨st, d⟩ := s
      obtain ⟨st1, d1⟩ := s1
      have h3 := stp_cnt h1
      rw [cnt_add] at h3
      simp only [dep] at *
      omega
theorem dep_append : ∀ (l m : List Nd), dep (l ++ m) = dep l + dep m
  | [], m => by simp [dep]
  | x :: l, m => by simp only [List.cons_append, dep]; rw [dep_append l m]; omega
theorem chk_without {l m : List Nd} {x : Nd} (h : chk (l ++ x :: m) = 0) (hx : opensB x = true ∨ x.kind = 6) : chk (l ++ m) = 50 := by
  obtain ⟨hl, d, h1, _⟩ := chk_run h
  have h2 := run_dep h1
  rw [dep_append] at h2
  simp only [dep, List.length_nil] at h2
  have hlen : (l ++ m).length ≤ 2000 := by
    simp only [List.length_append, List.length_cons] at hl ⊢
    omega
  have hc : cnt x 0 ≠ 0 := by
    unfold cnt
    rcases hx with h | h
    · rw [if_pos h]; omega
    · have ho : opensB x = false := by simp [opensB, h]
      rw [ho, if_neg (by simp), if_pos h]; omega
  unfold chk
  rw [if_neg (by omega)]
  cases h3 : run (l ++ m) ([], 0) with
  | none => rfl
  | some s =>
    have h4 := run_dep h3
    rw [dep_append] at h4
    simp only [List.length_nil] at h4
    have : s.1 ≠ [] := by
      intro e
      rw [e] at h4
      simp only [List.length_nil] at h4
      omega
    simp only
    rw [if_neg this]
end Go.Proofs.Ytoboecenlangmaa.Np
end
section
namespace Go.Proofs.Ytoboecenlangmaa.No
open Go.ChangeShapes Go.WideShapes Go.ChangeAt Go.RowKit
open Me Np
set_option linter.unusedVariables false
set_option linter.unusedSimpArgs false

theorem refOpens_any (n : Nd) (w : World) : Calls Try.prog 67 #[.agg (nc n)] w fun e w' => e = .returned (.bool (opensB n)) ∧ w.alloc (.cells (nc n) 54) = w' := by
  go_enter Try.func67, Try.ntmps67
  go_wp2_with fail
  all_goals (go_ret; exact ⟨ret_bool (by simp_all [opensB]), rfl⟩)
/-- 'append(s, l...)' onto what the call owns, at a step of a region that draws its order. -/
theorem step_append_src {P : Program} {ops : Array Oper} {o : Oper} {a : Act} {w : World} {K : Act → World → Prop} {Q : Exit → Act → World → Prop} {E : Prop} (hgd : o.guard = none) (s x : Operand) (t : TypeId)
    (ho : o.op = .call { callee := .builtin .append, args := #[s, x], argTypes := #[t, t] })
    (base : Nat) (e : TypeId) (z : Value) (size bytes : Nat) (ht : P.underlying t = some (.slice e)) (hinfo : (P.info? e).map (fun i => (i.zero, i.size, i.bytes)) = some (some z, size, bytes))
    (hzs : z.cells.size = size) (hsz : 0 < size)
    (v : Value) (n : Nat) (xs : List Value) (hs : a.eval s = v) (hown : w.ownsRow base e size v n xs)
    (ad : Addr) (m c : Nat) (news : List Value) (hx : a.eval x = .slice (some ad) m c) (hl : news.length = m * size) (hnews : ∀ j u, news[j]? = some u → w.cell? (ad.add j) = some u) (h1 : ∀ u ∈ news, u.oneCell' = true)
    (h63 : n + m ≤ maxLen) (hbytes : (n + m) * bytes ≤ 140737488355328) (hbase : base ≤ w.heap.size)
    (h : ∀ v' w', w'.ownsRow base e size v' (n + m) (xs ++ news) → w.grownBy w' v.ownBlock → K (a.put o.dst v') w') :
    if Region.wanted o (yielded ops a.tmps) = true then Oper.wp P o a w K Q else E := by
  obtain ⟨i, hi, hz, hsi, hbi⟩ := info_parts hinfo
  have hw : Region.wanted o (yielded ops a.tmps) = true := by simp [Region.wanted, hgd]
  rw [if_pos hw]
  obtain ⟨v', w', hr, h2, h3, _⟩ := run_append_own (P := P) w base t o.type e i z size bytes ht hi hz hsi hbi hzs hsz v n xs hown ad m c news hl hnews h1 h63 hbytes hbase
  unfold Oper.wp execOp
  simp only [ho, resolve, invoke, builtin, Sem.run_bind, Sem.run_pure, Result.andThen_ok, List.map_toArray, List.map_cons, List.map_nil, hs, hx, hr]
  exact h v' w' h2 h3
theorem seg_cells {w : World} {B b off : Nat} {xs : List Value} (h : Seg w B (some ⟨b, off, none⟩) xs) : ∀ j u, xs[j]? = some u → w.cell? ((⟨b, off, none⟩ : Addr).add j) = some u := by
  intro j u hu
  rcases h with rfl | ⟨b', off', he, _, hc⟩
  · simp at hu
  · simp only [Option.some.injEq, Addr.mk.injEq, and_true] at he
    obtain ⟨rfl, rfl⟩ := he
    have hadd : (⟨b, off, none⟩ : Addr).add j = ⟨b, off + j, none⟩ := by unfold Addr.add; split <;> simp_all
    rw [hadd]
    exact hc j u hu
theorem node_row : (Try.prog.info? 54).map (fun i => (i.zero, i.size, i.bytes)) = some (some (.agg (nc (nz 0))), 19, 160) := by kernel_rfl
theorem ncs_one (l : List Nd) : ∀ u ∈ l.flatMap ncs, u.oneCell' = true := by
  intro u hu
  obtain ⟨n, _, hn⟩ := List.mem_flatMap.1 hu
  have := nc_one n
  rw [Array.all_eq_true_iff_forall_mem] at this
  exact this u (by simpa [ncs] using hn)
theorem place (a : Int) (len : Nat) (h0 : (0 : Int) < len) (h1 : (len : Int) ≤ 2000) : ∃ k : Nat, (wrap64 (a.tmod len + len)).tmod len = (k : Int) ∧ k < len := by
  have t1 := Int.tmod_lt_of_pos a h0
  have t2 := Int.lt_tmod_of_pos a h0
  rw [IntWalk.wrap64_in _ (by omega)]
  have t3 := Int.tmod_lt_of_pos (a.tmod len + len) h0
  have t4 := Int.tmod_nonneg (a := a.tmod len + len) len (by omega)
  exact ⟨((a.tmod len + len).tmod len).toNat, by omega, by omega⟩
end Go.Proofs.Ytoboecenlangmaa.No
end
section
namespace Go.Proofs.Ytoboecenlangmaa.No
open Go.ChangeShapes Go.WideShapes Go.ChangeAt Go.RowKit
open Me Np
set_option linter.unusedVariables false
set_option linter.unusedSimpArgs false

/-- A slice of the call's own with these nodes. -/
def MadeN (w : World) (l : List Nd) (e : Ending) (w' : World) : Prop := ∃ v, e = .returned v ∧ w'.ownsRow w.heap.size 54 19 v l.length (l.flatMap ncs) ∧ Below w.heap.size w w'
/-- The same, with an error beside it. -/
def MadeNE (w : World) (l : List Nd) (e : Ending) (w' : World) : Prop := ∃ v, e = .returned (.tuple #[v, .int .i64 0]) ∧ w'.ownsRow w.heap.size 54 19 v l.length (l.flatMap ncs) ∧ Below w.heap.size w w'
theorem copied_any (ad : Addr) (l : List Nd) (c : Nat) (w : World) (hl : l.length ≤ 2000) (hc : ∀ j u, (l.flatMap ncs)[j]? = some u → w.cell? (ad.add j) = some u) :
    Calls Try.prog 54 #[.slice (some ad) l.length c] w (MadeN w l) := by
  obtain ⟨i, hi, hz, hsi, hbi⟩ := info_parts node_row
  have HC := Lib.hid hc
  clear hc
  go_enter Try.func54, Try.ntmps54
  go_wp2_with (at_builtin; refine wpList_append_own _ rfl _ _ 34 rfl w.heap.size 54 i _ 19 160 Try.underlying34 hi hz hsi hbi rfl (by decide) _ 0 [] rfl (World.ownsRow_nil _ _ _ _) ad l.length c (l.flatMap ncs) rfl (flat_length ncs_length l) HC.out (ncs_one l) ?_ ?_ (Nat.le_refl _) ?_; (simp only [maxLen]; omega); omega; intro v1 w1 hown1 hg1 hnil1)
  go_ret
  exact ⟨_, rfl, by simpa using hown1, below_grown (Nat.le_refl _) (Below.refl _ _) hg1 (fun k hk => by cases hk)⟩
theorem ret_val {a b : Value} {v : Value} (h : b = v) : Ending.returned (.tuple #[a, b]) = .returned (.tuple #[a, v]) := by rw [h]
theorem inside_err (A : Option Addr) (ns : List Nd) (c : Nat) (a : Int) (w : World) (hl : ns.length ≤ 9223372036854775806) (hseg : Seg w w.heap.size A (ns.flatMap ncs)) (hc : ¬ chk ns = 0) :
    Calls Try.prog 24 #[.slice A ns.length c, .int .i64 a] w fun e w' => e = .returned (.tuple #[.slice none 0 0, .int .i64 (chk ns)]) ∧ Below w.heap.size w w' := by
  have e0 : (chk ns != 0) = true := by simp [hc]
  have HC := Lib.hid (check_any A ns c w (by omega) hseg)
  have HX := Lib.hid hc
  clear hseg hc
  generalize chk ns = v at *
  generalize ns.length = len at *
  go_enter Try.func24, Try.ntmps24
  go_wp2_with fail
  refine HC.out.mono ?_
  rintro e w1 ⟨rfl, hb1⟩
  go_wp2_with fail
  go_ret2
  exact ⟨rfl, hb1⟩
theorem inside_none (A : Option Addr) (ns : List Nd) (c : Nat) (a : Int) (w : World) (hl : ns.length ≤ 9223372036854775806) (hseg : Seg w w.heap.size A (ns.flatMap ncs)) (hc : chk ns = 0) (hb : begB ns a = false) :
    Calls Try.prog 24 #[.slice A ns.length c, .int .i64 a] w fun e w' => e = .returned (.tuple #[.slice none 0 0, .int .i64 3]) ∧ Below w.heap.size w w' := by
  have HC := Lib.hid (check_any A ns c w (by omega) hseg)
  have HB := Lib.hid hb
  have HE := Lib.hid hc
  have HBG := Lib.hid fun w1 (h : Below w.heap.size w w1) => begins_any A ns c a w1 (by omega) (Seg.belowW hseg h)
  clear hseg hc hb
  rw [HE.out] at HC
  rw [HB.out] at HBG
  generalize ns.length = len at *
  go_enter Try.func24, Try.ntmps24
  go_wp2_with fail
  refine HC.out.mono ?_
  rintro e w1 ⟨rfl, hb1⟩
  go_wp2_with fail
  refine (HBG.out w1 hb1).mono ?_
  rintro e w' ⟨rfl, rfl⟩
  go_wp2_with fail
  go_ret2
  exact ⟨rfl, hb1⟩
theorem inside_shut (A : Option Addr) (ns : List Nd) (c : Nat) (a : Nat) (x : Nd) (w : World) (hl : ns.length ≤ 9223372036854775806) (hseg : Seg w w.heap.size A (ns.flatMap ncs)) (hc : chk ns = 0) (hb : begB ns a = true) (hx : ns[a]? = some x) (ho : opensB x = false) :
    Calls Try.prog 24 #[.slice A ns.length c, .int .i64 (a : Int)] w fun e w' => e = .returned (.tuple #[.slice none 0 0, .int .i64 3]) ∧ Below w.heap.size w w' := by
  have HC := Lib.hid (check_any A ns c w (by omega) hseg)
  have HB := Lib.hid hb
  have HE := Lib.hid hc
  have HO := Lib.hid ho
  have HBG := Lib.hid fun w1 (h : Below w.heap.size w w1) => begins_any A ns c a w1 (by omega) (Seg.belowW hseg h)
  obtain ⟨b, off, rfl, hb', hnode⟩ := seg_node hseg hx
  have hal : a < ns.length := (List.getElem?_eq_some_iff.1 hx).1
  have HN := Lib.hid hnode
  clear hseg hc hb hx hnode ho
  rw [HE.out] at HC
  rw [HB.out] at HBG
  generalize ns.length = len at *
  go_enter Try.func24, Try.ntmps24
  go_wp2_with fail
  refine HC.out.mono ?_
  rintro e w1 ⟨rfl, hb1⟩
  have hn1 := HN.out.below hb1 hb'
  go_wp2_with (first
    | (go_at_call 52; refine (HBG.out w1 hb1).mono ?_; rintro e w' ⟨rfl, rfl⟩)
    | (go_at_call 53; (with_reducible refine (opens_any _ _).mono ?_); rintro e w' ⟨rfl, rfl⟩; simp only [HO.out])
    | (refine wpList_load_node rfl _ rfl _ _ rfl _ (by assumption) ?_)
    | (refine wpList_load_nodeG rfl _ rfl _ _ rfl _ (by assumption) ?_))
  go_ret2
  exact ⟨rfl, andAlloc hb1 _⟩
theorem own_base {w : World} {base base' : Nat} {e : TypeId} {size n : Nat} {v : Value} {xs : List Value} (h : w.ownsRow base e size v n xs) (hb : base' ≤ base) : w.ownsRow base' e size v n xs := by
  refine ⟨h.1, ?_⟩
  rcases h.2 with h1 | ⟨g, cap, cur, rfl, h1, h2⟩
  · exact .inl h1
  · exact .inr ⟨g, cap, cur, rfl, Nat.le_trans hb h1, h2⟩
/-- What stands within an item that opens. -/
def innerL (ns : List Nd) (a m : Nat) : List Nd := (ns.drop (a + 1)).take (m - 2)
theorem endc_two {ns : List Nd} {a m : Nat} {x : Nd} (hx : ns[a]? = some x) (ho : opensB x = true) (hm : endc (ns.drop a) 0 = some m) : 2 ≤ m := by
  obtain ⟨y, hy, hd⟩ := get_drop (List.getElem?_eq_some_iff.1 hx).1
  rw [hx] at hy
  injection hy with hy
  subst hy
  rw [hd] at hm
  rcases endc_cons hm with ⟨h, _⟩ | ⟨_, h, _⟩
  · simp [cnt, ho] at h
  · exact h
set_option maxHeartbeats 1000000 in
theorem inside_ok (A : Option Addr) (ns : List Nd) (c : Nat) (a m : Nat) (x : Nd) (w : World) (hcap : ns.length ≤ c) (hseg : Seg w w.heap.size A (ns.flatMap ncs)) (hc : chk ns = 0) (hb : begB ns a = true) (hx : ns[a]? = some x) (ho : opensB x = true) (hm : endc (ns.drop a) 0 = some m) :
    Calls Try.prog 24 #[.slice A ns.length c, .int .i64 (a : Int)] w (MadeNE w (innerL ns a m)) := by
  have hl := (chk_run hc).1
  have HC := Lib.hid (check_any A ns c w (by omega) hseg)
  have HB := Lib.hid hb
  have HE := Lib.hid hc
  have HO := Lib.hid ho
  have HBG := Lib.hid fun w1 (h : Below w.heap.size w w1) => begins_any A ns c a w1 (by omega) (Seg.belowW hseg h)
  have HEN := Lib.hid fun w1 (h : Below w.heap.size w w1) => end_any A ns c a m w1 (by omega) (Seg.belowW hseg h) hm
  obtain ⟨b, off, rfl, hb', hnode⟩ := seg_node hseg hx
  have hal : a < ns.length := (List.getElem?_eq_some_iff.1 hx).1
  have hm2 := endc_two hx ho hm
  have hmb := (endc_bd hm).2
  rw [List.length_drop] at hmb
  have hml : a + m ≤ ns.length := by omega
  have HN := Lib.hid hnode
  have hil : (innerL ns a m).length = m - 2 := by
    simp only [innerL, List.length_take, List.length_drop]
    omega
  have HIL := Lib.hid hil
  have had : ∀ w' : World, Below w.heap.size w w' → ∀ j u, ((innerL ns a m).flatMap ncs)[j]? = some u → w'.cell? ((⟨b, off + (a + 1) * 19, none⟩ : Addr).add j) = some u := by
    intro w' hw'
    unfold innerL
    rw [flat_take ncs_length, flat_drop ncs_length]
    exact seg_cells (Seg.take (Seg.drop (hseg.below hw') _) _)
  have HAD := Lib.hid had
  clear hseg hc hb hx hnode ho hm had hil
  rw [HE.out] at HC
  rw [HB.out] at HBG
  generalize ns.length = len at *
  go_enter Try.func24, Try.ntmps24
  go_wp2_with fail
  refine HC.out.mono ?_
  rintro e w1 ⟨rfl, hb1⟩
  have hn1 := HN.out.below hb1 hb'
  have hbo := andAlloc hb1 (.cells (nc x) 54)
  go_wp2_with (first
    | (go_at_call 52; refine (HBG.out w1 hb1).mono ?_; rintro e w' ⟨rfl, rfl⟩)
    | (go_at_call 53; (with_reducible refine (opens_any _ _).mono ?_); rintro e w' ⟨rfl, rfl⟩; simp only [HO.out])
    | (go_at_call 55; refine (HEN.out _ hbo).mono ?_; rintro e w2 ⟨rfl, hb2⟩)
    | (refine wpList_load_node rfl _ rfl _ _ rfl _ (by assumption) ?_)
    | (refine wpList_load_nodeG rfl _ rfl _ _ rfl _ (by assumption) ?_))
  have hln : a + m - 1 - (a + 1) = (innerL ns a m).length := by
    rw [HIL.out]
    omega
  rw [hln]
  have hb12 := andThen hbo hb2
  refine (copied_any _ (innerL ns a m) _ w2 (by rw [← hln]; omega) (HAD.out w2 hb12)).mono ?_
  rintro e w3 ⟨v, rfl, hown, hb3⟩
  have HOWN := Lib.hid hown
  clear hown hln
  go_wp2_with fail
  go_ret2
  exact ⟨v, rfl, own_base HOWN.out hb12.size, andThen hb12 hb3⟩
end Go.Proofs.Ytoboecenlangmaa.No
end
section
namespace Go.Proofs.Ytoboecenlangmaa.No
open Go.ChangeShapes Go.WideShapes Go.ChangeAt Go.RowKit
open Me Np
set_option linter.unusedVariables false
set_option linter.unusedSimpArgs false

/-- A slice (A: where it begins; its capacity) reads as these nodes; or it is nil. -/
def Src (w : World) (A : Option Addr) (c : Nat) (l : List Nd) : Prop :=
  (∃ b off : Nat, A = some ⟨b, off, none⟩ ∧ (l = [] ∨ b < w.heap.size) ∧ ∀ j u, (l.flatMap ncs)[j]? = some u → w.cell? ⟨b, off + j, none⟩ = some u) ∨ (A = none ∧ c = 0 ∧ l = []) ∨ (∃ ad, A = some ad ∧ l = [])
theorem Src.seg {w : World} {A : Option Addr} {c : Nat} {l : List Nd} (h : Src w A c l) : Seg w w.heap.size A (l.flatMap ncs) := by
  rcases h with ⟨b, off, rfl, hb, hc⟩ | ⟨rfl, rfl, rfl⟩ | ⟨ad, rfl, rfl⟩
  · rcases hb with rfl | hb
    · exact .inl rfl
    · exact .inr ⟨b, off, rfl, hb, hc⟩
  · exact .inl rfl
  · exact .inl rfl
/-- Whatever comes in. -/
theorem src_in {w : World} {A : Option Addr} {c : Nat} {l : List Nd} (h : Seg w w.heap.size A (l.flatMap ncs)) (hA : A = none → c = 0) : Src w A c l := by
  by_cases hl : l = []
  · subst hl
    cases A with
    | none => exact .inr (.inl ⟨rfl, hA rfl, rfl⟩)
    | some ad => exact .inr (.inr ⟨ad, rfl, rfl⟩)
  · rcases h with h | ⟨b, off, rfl, hb, hc⟩
    · have h2 := congrArg List.length h
      rw [flat_length ncs_length] at h2
      exact absurd (List.eq_nil_of_length_eq_zero (by simp at h2; omega)) hl
    · exact .inl ⟨b, off, rfl, .inr hb, hc⟩
theorem Src.below {w w' : World} {A : Option Addr} {c : Nat} {l : List Nd} (h : Src w A c l) (hb : Below w.heap.size w w') : Src w' A c l := by
  rcases h with ⟨b, off, rfl, h1, hc⟩ | h
  · refine .inl ⟨b, off, rfl, ?_, fun j u hu => ?_⟩
    · rcases h1 with h1 | h1
      · exact .inl h1
      · exact .inr (Nat.lt_of_lt_of_le h1 hb.size)
    · rcases h1 with rfl | h1
      · simp at hu
      · rw [hb.cell (p := ⟨b, off + j, none⟩) h1]
        exact hc j u hu
  · exact .inr h
theorem Src.own {w : World} {base : Nat} {n : Nat} {v : Value} {l : List Nd} (h : w.ownsRow base 54 19 v n (l.flatMap ncs)) : ∃ A c, v = .slice A l.length c ∧ l.length ≤ c ∧ c ≤ maxLen ∧ Src w A c l := by
  have hn : n = l.length := by
    have := h.1
    rw [flat_length ncs_length] at this
    omega
  subst hn
  rcases id h.2 with ⟨rfl, h0⟩ | ⟨g, cap, cur, rfl, hb, hg, hnc, hcm, hcs, htake⟩
  · have hl := List.eq_nil_of_length_eq_zero h0
    subst hl
    exact ⟨none, 0, rfl, Nat.le_refl _, by simp [maxLen], .inr (.inl ⟨rfl, rfl, rfl⟩)⟩
  · refine ⟨_, _, rfl, hnc, hcm, .inl ⟨g, 0, rfl, .inr (Array.getElem?_eq_some_iff.1 hg).1, fun j u hu => ?_⟩⟩
    have := h.cells (g := g) rfl j u hu
    have hadd : (⟨g, 0, none⟩ : Addr).add j = ⟨g, 0 + j, none⟩ := by unfold Addr.add; split <;> simp_all
    rwa [hadd] at this
theorem run_append_nodes {w : World} (ty : TypeId) (base : Nat) (hbase : base ≤ w.heap.size) (v : Value) (n : Nat) (xs : List Value) (hown : w.ownsRow base 54 19 v n xs) (A : Option Addr) (c : Nat) (l : List Nd) (hs : Src w A c l) (hn : n + l.length ≤ 100000) :
    ∃ v' w', (Builtin.append_ #[34, 34] ty #[v, .slice A l.length c]).run Try.prog w = .ok v' w' ∧ w'.ownsRow base 54 19 v' (n + l.length) (xs ++ l.flatMap ncs) ∧ w.grownBy w' v.ownBlock := by
  obtain ⟨i, hi, hz, hsi, hbi⟩ := info_parts node_row
  rcases hs with ⟨b, off, rfl, hb, hc⟩ | ⟨rfl, rfl, rfl⟩ | ⟨ad, rfl, rfl⟩
  · obtain ⟨v', w', hr, h2, h3, _⟩ := run_append_own (P := Try.prog) w base 34 ty 54 i _ 19 160 Try.underlying34 hi hz hsi hbi rfl (by decide) v n xs hown ⟨b, off, none⟩ l.length c (l.flatMap ncs) (flat_length ncs_length l) (fun j u hu => by
      have hadd : (⟨b, off, none⟩ : Addr).add j = ⟨b, off + j, none⟩ := by unfold Addr.add; split <;> simp_all
      rw [hadd]
      exact hc j u hu) (ncs_one l) (by simp only [maxLen]; omega) (by omega) hbase
    exact ⟨v', w', hr, h2, h3⟩
  · refine ⟨v, w, run_append_owned_none w base 34 ty 54 i 19 Try.underlying34 hi v n xs hown, by simpa using hown, ?_⟩
    exact ⟨rfl, rfl, rfl, Nat.le_refl _, fun k _ _ => rfl⟩
  · obtain ⟨v', w', hr, h2, h3, _⟩ := run_append_own (P := Try.prog) w base 34 ty 54 i _ 19 160 Try.underlying34 hi hz hsi hbi rfl (by decide) v n xs hown ad 0 c [] rfl (fun j u hu => by simp at hu) (by simp) (by simp only [maxLen]; omega) (by omega) hbase
    exact ⟨v', w', by simpa using hr, by simpa using h2, h3⟩
theorem wpList_append_nodes {ops : Array Oper} {rest : List Oper} {o : Oper} {a : Act} {w : World} {Q : Exit → Act → World → Prop} (hgd : o.guard = none) (s x : Operand) (ho : o.op = .call { callee := .builtin .append, args := #[s, x], argTypes := #[34, 34] })
    (base : Nat) (hbase : base ≤ w.heap.size) (v : Value) (n : Nat) (xs : List Value) (hs : a.eval s = v) (hown : w.ownsRow base 54 19 v n xs) (A : Option Addr) (c : Nat) (l : List Nd) (hx : a.eval x = .slice A l.length c) (hsrc : Src w A c l) (hn : n + l.length ≤ 100000)
    (h : ∀ v' w', w'.ownsRow base 54 19 v' (n + l.length) (xs ++ l.flatMap ncs) → w.grownBy w' v.ownBlock → wpList Try.prog ops Q rest (a.put o.dst v') w') : wpList Try.prog ops Q (o :: rest) a w :=
  wpList_plain hgd fun K hK => by
    obtain ⟨v', w', hr, h2, h3⟩ := run_append_nodes o.type base hbase v n xs hown A c l hsrc hn
    unfold Oper.wp execOp
    simp only [ho, resolve, invoke, builtin, Sem.run_bind, Sem.run_pure, Result.andThen_ok, List.map_toArray, List.map_cons, List.map_nil, hs, hx, hr]
    exact hK _ _ (h v' w' h2 h3)
theorem step_append_nodes {ops : Array Oper} {o : Oper} {a : Act} {w : World} {K : Act → World → Prop} {Q : Exit → Act → World → Prop} {E : Prop} (hgd : o.guard = none) (s x : Operand) (ho : o.op = .call { callee := .builtin .append, args := #[s, x], argTypes := #[34, 34] })
    (base : Nat) (hbase : base ≤ w.heap.size) (v : Value) (n : Nat) (xs : List Value) (hs : a.eval s = v) (hown : w.ownsRow base 54 19 v n xs) (A : Option Addr) (c : Nat) (l : List Nd) (hx : a.eval x = .slice A l.length c) (hsrc : Src w A c l) (hn : n + l.length ≤ 100000)
    (h : ∀ v' w', w'.ownsRow base 54 19 v' (n + l.length) (xs ++ l.flatMap ncs) → w.grownBy w' v.ownBlock → K (a.put o.dst v') w') :
    if Region.wanted o (yielded ops a.tmps) = true then Oper.wp Try.prog o a w K Q else E := by
  have hw : Region.wanted o (yielded ops a.tmps) = true := by simp [Region.wanted, hgd]
  rw [if_pos hw]
  obtain ⟨v', w', hr, h2, h3⟩ := run_append_nodes o.type base hbase v n xs hown A c l hsrc hn
  unfold Oper.wp execOp
  simp only [ho, resolve, invoke, builtin, Sem.run_bind, Sem.run_pure, Result.andThen_ok, List.map_toArray, List.map_cons, List.map_nil, hs, hx, hr]
  exact h v' w' h2 h3
end Go.Proofs.Ytoboecenlangmaa.No
end
section
namespace Go.Proofs.Ytoboecenlangmaa.No
open Go.ChangeShapes Go.WideShapes Go.ChangeAt Go.RowKit
open Me Np
set_option linter.unusedVariables false
set_option linter.unusedSimpArgs false

/-- Where the answer of an append lies: where the row lay, or in a new block. -/
theorem run_append_where {w : World} (ty : TypeId) (base : Nat) (v : Value) (n : Nat) (xs : List Value) (hown : w.ownsRow base 54 19 v n xs) (b off c : Nat) (l : List Nd) (hc : ∀ j u, (l.flatMap ncs)[j]? = some u → w.cell? ⟨b, off + j, none⟩ = some u) (hn : n + l.length ≤ 100000) :
    ∃ v' w', (Builtin.append_ #[34, 34] ty #[v, .slice (some ⟨b, off, none⟩) l.length c]).run Try.prog w = .ok v' w' ∧ (v'.ownBlock = v.ownBlock ∨ v'.ownBlock = some w.heap.size) := by
  obtain ⟨i, hi, hz, hsi, hbi⟩ := info_parts node_row
  have hnews : ∀ j u, (l.flatMap ncs)[j]? = some u → w.cell? ((⟨b, off, none⟩ : Addr).add j) = some u := fun j u hu => by
    have hadd : (⟨b, off, none⟩ : Addr).add j = ⟨b, off + j, none⟩ := by unfold Addr.add; split <;> simp_all
    rw [hadd]
    exact hc j u hu
  have hl : (l.flatMap ncs).length = l.length * i.size := by rw [hsi]; exact flat_length ncs_length l
  rcases hown.2 with ⟨rfl, h0⟩ | ⟨g, cap, cur, rfl, hbg, hg, hnc, hcm, hcs, htake⟩
  · by_cases hm : l.length = 0
    · have h0 := List.eq_nil_of_length_eq_zero hm
      subst h0
      refine ⟨.slice none 0 0, w, ?_, .inl rfl⟩
      simp [Builtin.append_, run_underlying (show Try.prog.underlying 34 = some (.slice 54) from Try.underlying34), sizeOf, typeInfo, hi, Builtin.lenOf, Builtin.firstCells, loadCells, loadCellsFrom]
    · exact ⟨_, _, run_append_nil (P := Try.prog) w 34 ty 54 i _ Try.underlying34 hi hz ⟨b, off, none⟩ l.length c (l.flatMap ncs) hl hnews (by omega) (by omega) (by rw [hbi]; omega), .inr rfl⟩
  · by_cases hroom : n + l.length ≤ cap
    · have hfit : n * i.size + (l.flatMap ncs).length ≤ cur.size := by rw [hl, hcs, hsi, ← Nat.add_mul]; exact Nat.mul_le_mul_right _ hroom
      exact ⟨_, _, run_append_room (P := Try.prog) w 34 ty 54 i Try.underlying34 hi g n cap cur hg ⟨b, off, none⟩ l.length c (l.flatMap ncs) hl hnews (ncs_one l) hroom hfit, .inl rfl⟩
    · have holds : ∀ j u, xs[j]? = some u → w.cell? ((⟨g, 0, none⟩ : Addr).add j) = some u := hown.cells (g := g) rfl
      exact ⟨_, _, run_append_grow (P := Try.prog) w 34 ty 54 i _ Try.underlying34 hi hz ⟨g, 0, none⟩ n cap xs (by rw [hsi]; exact hown.1) holds ⟨b, off, none⟩ l.length c (l.flatMap ncs) hl hnews (by omega) (by omega) (growslice_fits (by omega) (by rw [hbi]; omega)), .inr rfl⟩
/-- The same together with what the row holds. -/
theorem run_append_own_at {w : World} (ty : TypeId) (base : Nat) (hbase : base ≤ w.heap.size) (v : Value) (n : Nat) (xs : List Value) (hown : w.ownsRow base 54 19 v n xs) (b off c : Nat) (l : List Nd) (hb : l = [] ∨ b < w.heap.size) (hc : ∀ j u, (l.flatMap ncs)[j]? = some u → w.cell? ⟨b, off + j, none⟩ = some u) (hn : n + l.length ≤ 100000) :
    ∃ v' w', (Builtin.append_ #[34, 34] ty #[v, .slice (some ⟨b, off, none⟩) l.length c]).run Try.prog w = .ok v' w' ∧ w'.ownsRow base 54 19 v' (n + l.length) (xs ++ l.flatMap ncs) ∧ w.grownBy w' v.ownBlock ∧ (v'.ownBlock = v.ownBlock ∨ v'.ownBlock = some w.heap.size) := by
  obtain ⟨v', w', hr, h2, h3⟩ := run_append_nodes ty base hbase v n xs hown (some ⟨b, off, none⟩) c l (.inl ⟨b, off, rfl, hb, hc⟩) hn
  obtain ⟨v2, w2, hr2, h4⟩ := run_append_where ty base v n xs hown b off c l hc hn
  rw [hr] at hr2
  injection hr2 with e1 e2
  subst e1
  exact ⟨v', w', hr, h2, h3, h4⟩
theorem step_append_at {ops : Array Oper} {o : Oper} {a : Act} {w : World} {K : Act → World → Prop} {Q : Exit → Act → World → Prop} {E : Prop} (hgd : o.guard = none) (s x : Operand) (ho : o.op = .call { callee := .builtin .append, args := #[s, x], argTypes := #[34, 34] })
    (base : Nat) (hbase : base ≤ w.heap.size) (v : Value) (n : Nat) (xs : List Value) (hs : a.eval s = v) (hown : w.ownsRow base 54 19 v n xs) (b off c len : Nat) (l : List Nd) (hx : a.eval x = .slice (some ⟨b, off, none⟩) len c) (hlen : len = l.length) (hb : l = [] ∨ b < w.heap.size) (hc : ∀ j u, (l.flatMap ncs)[j]? = some u → w.cell? ⟨b, off + j, none⟩ = some u) (hn : n + l.length ≤ 100000)
    (h : ∀ v' w', w'.ownsRow base 54 19 v' (n + l.length) (xs ++ l.flatMap ncs) → w.grownBy w' v.ownBlock → (v'.ownBlock = v.ownBlock ∨ v'.ownBlock = some w.heap.size) → K (a.put o.dst v') w') :
    if Region.wanted o (yielded ops a.tmps) = true then Oper.wp Try.prog o a w K Q else E := by
  have hw : Region.wanted o (yielded ops a.tmps) = true := by simp [Region.wanted, hgd]
  subst hlen
  rw [if_pos hw]
  obtain ⟨v', w', hr, h2, h3, h4⟩ := run_append_own_at o.type base hbase v n xs hown b off c l hb hc hn
  unfold Oper.wp execOp
  simp only [ho, resolve, invoke, builtin, Sem.run_bind, Sem.run_pure, Result.andThen_ok, List.map_toArray, List.map_cons, List.map_nil, hs, hx, hr]
  exact h v' w' h2 h3 h4

/-- Three slices in a block. -/
def tc3 (vs : Nat → Value) : Array Value := #[vs 0, vs 1, vs 2]
theorem tc3_size (vs : Nat → Value) : (tc3 vs).size = 3 := rfl
theorem tc3_at {vs : Nat → Value} {k : Nat} (h : k < 3) : (tc3 vs)[k]? = some (vs k) := by
  match k, h with
  | 0, _ => rfl
  | 1, _ => rfl
  | 2, _ => rfl
theorem tc3_set {vs : Nat → Value} {k : Nat} (h : k < 3) (u : Value) : (tc3 vs).setIfInBounds k u = tc3 (fun j => if j = k then u else vs j) := by
  match k, h with
  | 0, _ => rfl
  | 1, _ => rfl
  | 2, _ => rfl
theorem three_info : (Try.prog.info? 110).map (·.size) = some 3 := by kernel_rfl
/-- Rows of one's own, each of another block. -/
structure Own3 (w : World) (base : Nat) (vs : Nat → Value) (L : Nat → List Nd) : Prop where
  own : ∀ j, j < 3 → w.ownsRow base 54 19 (vs j) (L j).length ((L j).flatMap ncs)
  dist : ∀ i j, i < 3 → j < 3 → i ≠ j → (vs i).ownBlock = none ∨ (vs i).ownBlock ≠ (vs j).ownBlock
theorem Own3.below {w w' : World} {base : Nat} {vs : Nat → Value} {L : Nat → List Nd} (h : Own3 w base vs L) (hb : Below w.heap.size w w') : Own3 w' base vs L :=
  ⟨fun j hj => own_below (h.own j hj) hb, h.dist⟩
theorem Own3.nil (w : World) (base : Nat) : Own3 w base (fun _ => .slice none 0 0) (fun _ => []) :=
  ⟨fun j _ => World.ownsRow_nil _ _ _ _, fun i j _ _ _ => .inl rfl⟩
theorem Own3.grown {w w' : World} {base : Nat} {vs : Nat → Value} {L : Nat → List Nd} (h : Own3 w base vs L) {k : Nat} (hk : k < 3) {v' : Value} {l : List Nd} (hown : w'.ownsRow base 54 19 v' ((L k).length + l.length) ((L k).flatMap ncs ++ l.flatMap ncs)) (hg : w.grownBy w' (vs k).ownBlock) (hv : v'.ownBlock = (vs k).ownBlock ∨ v'.ownBlock = some w.heap.size) :
    Own3 w' base (fun j => if j = k then v' else vs j) (fun j => if j = k then L k ++ l else L j) := by
  have hold : ∀ j, j < 3 → ∀ q, (vs j).ownBlock = some q → q < w.heap.size := fun j hj q hq => ((h.own j hj).lt q hq).2
  refine ⟨fun j hj => ?_, fun i j hi hj hne => ?_⟩
  · by_cases e : j = k
    · subst e
      simp only [if_true]
      rw [List.length_append, List.flatMap_append]
      exact hown
    · simp only [if_neg e]
      exact (h.own j hj).kept (row := (vs k).ownBlock) hg (h.dist j k hj hk e)
  · by_cases e1 : i = k
    · subst e1
      have e2 : ¬ j = i := fun e => hne e.symm
      simp only [if_true, if_neg e2]
      rcases hv with hv | hv
      · rw [hv]
        exact h.dist i j hi hj hne
      · right
        rw [hv]
        intro e
        have := hold j hj _ e.symm
        omega
    · by_cases e2 : j = k
      · subst e2
        simp only [if_true, if_neg e1]
        rcases hv with hv | hv
        · rw [hv]
          exact h.dist i j hi hj hne
        · right
          rw [hv]
          intro e
          have := hold i hi _ e
          omega
      · simp only [if_neg e1, if_neg e2]
        exact h.dist i j hi hj hne
/-- What the loop of three holds in memory. -/
structure Mem3 (w : World) (vs : Nat → Value) (L : Nat → List Nd) (wr : World) : Prop where
  blk : Blk wr (w.heap.size + 1) 110 (tc3 vs)
  own : Own3 wr (w.heap.size + 2) vs L
  low : Below w.heap.size w wr
  res : Blk wr w.heap.size 110 (tc3 fun _ => .slice none 0 0)
theorem Mem3.below {w : World} {vs : Nat → Value} {L : Nat → List Nd} {wr w' : World} (h : Mem3 w vs L wr) (hb : Below wr.heap.size wr w') : Mem3 w vs L w' :=
  ⟨h.blk.below hb h.blk.lt, h.own.below hb, andThen h.low hb, h.res.below hb h.res.lt⟩
theorem Mem3.drew {w : World} {vs : Nat → Value} {L : Nat → List Nd} {wr : World} (h : Mem3 w vs L wr) : Mem3 w vs L wr.drew := h.below (below_drewN (Below.refl _ _) 1)
/-- One row grows, and its slice is stored. -/
theorem Mem3.grow {w : World} {vs : Nat → Value} {L : Nat → List Nd} {wr w' : World} (h : Mem3 w vs L wr) {k : Nat} (hk : k < 3) {v' : Value} {l : List Nd} (hown : w'.ownsRow (w.heap.size + 2) 54 19 v' ((L k).length + l.length) ((L k).flatMap ncs ++ l.flatMap ncs)) (hg : wr.grownBy w' (vs k).ownBlock) (hv : v'.ownBlock = (vs k).ownBlock ∨ v'.ownBlock = some wr.heap.size) :
    Mem3 w (fun j => if j = k then v' else vs j) (fun j => if j = k then L k ++ l else L j) (w'.setCell ⟨w.heap.size + 1, k, none⟩ v') := by
  have hlt : ∀ q, (vs k).ownBlock = some q → w.heap.size + 2 ≤ q := fun q hq => ((h.own.own k hk).lt q hq).1
  have hlow : Below w.heap.size w w' := below_grown (Nat.le_refl _) h.low hg fun q hq => by have := hlt q hq; omega
  have hb1 : Blk w' (w.heap.size + 1) 110 (tc3 vs) := h.blk.grown hg fun e => by have := hlt _ e.symm; omega
  have hb2 : Blk w' w.heap.size 110 (tc3 fun _ => .slice none 0 0) := h.res.grown hg fun e => by have := hlt _ e.symm; omega
  have ho := h.own.grown hk hown hg hv
  refine ⟨by rw [← tc3_set hk]; exact hb1.set k v', ⟨fun j hj => ?_, ho.dist⟩, hlow.setCell (by simp) _, hb2.far (by simp) v'⟩
  have hoj := ho.own j hj
  refine hoj.kept (row := some (w.heap.size + 1)) ⟨rfl, rfl, rfl, by simp, fun q _ hq => heap_setCell_other w' ⟨w.heap.size + 1, k, none⟩ q v' (fun e => hq (by simp [e]))⟩ ?_
  right
  intro e
  have := (hoj.lt _ e).1
  omega
/-- What the loop of three holds. -/
structure Inv3 (ns : List Nd) (w : World) (F : Nat → List Nd) (last : Nat) (k i : Nat) (wr : World) : Prop where
  k2 : k ≤ 2
  rest : ∃ ss r L vs, D3 ss (ns.drop i) k r ∧ i + r = last ∧ (∀ j, L j ++ thr ss (ns.drop i) k j = F j) ∧ Mem3 w vs L wr
theorem drop_cons {l : List Nd} {k : Nat} {x : Nd} {l' : List Nd} (h : l.drop k = x :: l') : l[k]? = some x ∧ l.drop (k + 1) = l' := by
  constructor
  · have := List.getElem?_drop (xs := l) (i := k) (j := 0)
    rw [h] at this
    simpa using this.symm
  · have : l.drop (k + 1) = (l.drop k).drop 1 := by rw [List.drop_drop]
    rw [this, h]
    rfl
end Go.Proofs.Ytoboecenlangmaa.No
end
section
namespace Go.Proofs.Ytoboecenlangmaa.No
open Go.ChangeShapes Go.WideShapes Go.ChangeAt Go.RowKit
open Me Np
set_option linter.unusedVariables false
set_option linter.unusedSimpArgs false

theorem tc3_one {w : World} {base : Nat} {L : Nat → List Nd} (vs : Nat → Value) (h : Own3 w base vs L) : (tc3 vs).all (·.oneCell') = true := by
  have h1 : ∀ j, j < 3 → (vs j).oneCell' = true := fun j hj => by
    rcases (h.own j hj).2 with ⟨e, _⟩ | ⟨g, cap, cur, e, _⟩ <;> rw [e] <;> rfl
  simp [tc3, h1 0 (by omega), h1 1 (by omega), h1 2 (by omega)]
theorem Own3.setRow {w : World} {g : Nat} {vs : Nat → Value} {L : Nat → List Nd} (h : Own3 w (g + 2) vs L) (hg : g ≤ w.heap.size) (cs : Array Value) : Own3 (w.setRow g cs) g vs L :=
  ⟨fun j hj => own_base ((h.own j hj).kept (row := some g) ⟨rfl, rfl, rfl, by simp, fun k hk hne => setRow_other w g k cs (fun e => hne (by rw [e]))⟩ (.inr (fun e => by have := ((h.own j hj).lt _ e).1; omega))) (by omega), h.dist⟩
theorem own_slice {w : World} {base : Nat} {e : TypeId} {size n : Nat} {v : Value} {xs : List Value} (h : w.ownsRow base e size v n xs) : ∃ A c, v = .slice A n c := by
  rcases h.2 with ⟨rfl, rfl⟩ | ⟨g, cap, cur, rfl, _⟩
  · exact ⟨none, 0, rfl⟩
  · exact ⟨_, _, rfl⟩
theorem Mem3.size2 {w : World} {vs : Nat → Value} {L : Nat → List Nd} {wr : World} (h : Mem3 w vs L wr) : w.heap.size + 2 ≤ wr.heap.size := h.blk.lt
theorem Mem3.blkGrown {w : World} {vs : Nat → Value} {L : Nat → List Nd} {wr w' : World} (h : Mem3 w vs L wr) {k : Nat} (hk : k < 3) (hg : wr.grownBy w' (vs k).ownBlock) : Blk w' (w.heap.size + 1) 110 (tc3 vs) :=
  h.blk.grown hg fun e => by have := ((h.own.own k hk).lt _ e.symm).1; omega
/-- What three answers. -/
def Made3 (w : World) (F : Nat → List Nd) (e : Ending) (w' : World) : Prop := ∃ vs, e = .returned (.agg (tc3 vs)) ∧ Own3 w' w.heap.size vs F ∧ Below w.heap.size w w'
set_option maxHeartbeats 4000000 in
set_option maxRecDepth 100000 in
theorem three_any (A : Option Addr) (ns : List Nd) (c a m : Nat) (ss : List Nat) (n : Nd) (w : World) (hc : chk ns = 0) (hcap : ns.length ≤ c) (hseg : Seg w w.heap.size A (ns.flatMap ncs)) (hn : ns[a]? = some n) (hm : endc (ns.drop a) 0 = some m) (hd : D3 ss (ns.drop (a + 1)) 0 (m - 2)) (hm2 : 2 ≤ m) :
    Calls Try.prog 119 #[.slice A ns.length c, .int .i64 (a : Int)] w (Made3 w (thr ss (ns.drop (a + 1)) 0)) := by
  have hl := (chk_run hc).1
  obtain ⟨b, off, rfl, hb', _⟩ := seg_node hseg hn
  have hmb := (endc_bd hm).2
  rw [List.length_drop] at hmb
  have hal : a < ns.length := (List.getElem?_eq_some_iff.1 hn).1
  have hml : a + m ≤ ns.length := by omega
  have HEN0 := Lib.hid fun w1 (h : Below w.heap.size w w1) => end_any (some ⟨b, off, none⟩) ns c a m w1 (by omega) (Seg.belowW hseg h) hm
  have HEN := Lib.hid fun (i q : Nat) w1 (h : Below w.heap.size w w1) hm => end_any (some ⟨b, off, none⟩) ns c i q w1 (by omega) (Seg.belowW hseg h) hm
  have HNO := Lib.hid fun (k : Nat) (x : Nd) w1 (h : Below w.heap.size w w1) (hk : ns[k]? = some x) => seg_node (hseg.below h) hk
  have HSEG := Lib.hid hseg
  have HD := Lib.hid hd
  clear hc hseg hn hm hd
  have HL := Lib.hid (rfl : ns.length = ns.length)
  generalize hlen : ns.length = len at hl HEN HEN0 HL hal hml hmb hcap ⊢
  clear HL
  have HL := Lib.hid hlen
  clear hlen
  generalize hF : thr ss (ns.drop (a + 1)) 0 = F
  have HF := Lib.hid hF
  clear hF
  go_enter Try.func119, Try.ntmps119
  go_wp2_with fail
  refine (HEN0.out _ (andAlloc (andAlloc (Below.refl _ _) _) _)).mono ?_
  rintro e w1 ⟨rfl, hb1⟩
  have hI0 : Inv3 ns w F (a + m - 1) 0 (a + 1) w1 := by
    have h1 : Blk w1 (w.heap.size + 1) 110 (tc3 fun _ => .slice none 0 0) := Blk.below (Blk.new' (by simp)) hb1 (by simp)
    have h2 : Blk w1 w.heap.size 110 (tc3 fun _ => .slice none 0 0) := Blk.below (Blk.alloc (Blk.new' rfl) _) hb1 (by simp; omega)
    have h3 : Below w.heap.size w w1 := andThen (andAlloc (andAlloc (Below.refl _ _) _) _) hb1
    exact ⟨by omega, ss, m - 2, fun _ => [], _, HD.out, by omega, fun j => by rw [List.nil_append, HF.out], ⟨h1, Own3.nil _ _, h3, h2⟩⟩
  have HI0 := Lib.hid hI0
  clear hI0 hb1
  have hlast : IntKind.i64.wrap ((a + m : Nat) - 1 : Int) = ((a + m - 1 : Nat) : Int) := by
    rw [IntWalk.i64_in _ (by omega)]
    omega
  go_wp2_with fail
  go_loopw [6, 7] (fun kv iv wr => ∃ k i : Nat, kv = .int .i64 (k : Int) ∧ iv = .int .i64 (i : Int) ∧ Inv3 ns w F (a + m - 1) k i wr) (fun _ iv _ => len - (intOf iv).toNat)
  case atStart => exact ⟨0, a + 1, rfl, by go_num, HI0.out⟩
  case round =>
    obtain ⟨k, i, rfl, rfl, hI⟩ := hrel
    obtain ⟨hk2, tt, r, L, vs, hD, hir, hall, hM⟩ := hI
    have HM := Lib.hid hM
    have HALL := Lib.hid hall
    clear hM hall HI0 hlast
    cases tt with
    | nil =>
      obtain ⟨rfl, rfl, _⟩ := hD
      obtain rfl : i = a + m - 1 := by omega
      have hF : ∀ j, L j = F j := fun j => by have := HALL.out j; simpa [thr] using this
      obtain rfl : L = F := funext hF
      have hblk := HM.out.blk
      have hres := HM.out.res
      have hlow := HM.out.low
      have hown := HM.out.own
      have HB := Lib.hid hblk
      have HRS := Lib.hid hres
      have HO := Lib.hid hown
      have HLW := Lib.hid hlow
      go_wp2_with (first | (refine wpList_load_row rfl 110 _ rfl _ rfl _ _ _ _ hblk Try.underlying110 rfl three_info ?_) | (refine wpList_store_row rfl 110 _ _ rfl _ _ rfl rfl _ _ hres three_info rfl (tc3_one _ hown) ?_))
      refine bodyPost_ret (v := .agg (tc3 vs)) (results_cell_row rfl _ _ w.heap.size 110 (tc3 vs) (0, 0) _ rfl (Blk.row HRS.out _) Try.underlying110 rfl three_info) rfl ⟨vs, rfl, ?_, below_setRow HLW.out _ _ (Nat.le_refl _)⟩
      exact HO.out.setRow (Nat.le_of_lt HRS.out.lt) _
    | cons q tt =>
      obtain ⟨x, l', r', hdx, h6, hD⟩ := hD
      obtain ⟨hx, hdr⟩ := drop_cons hdx
      obtain ⟨b2, off2, e2, _, hnode⟩ := HNO.out i x wr HM.out.low hx
      injection e2 with e2
      injection e2 with e3 e4
      subst e3; subst e4
      have c0 : wr.cell? ⟨b, off + i * 19, none⟩ = some (.int .i64 x.kind) := hnode 0 _ rfl
      have hil : i < len := by have := (List.getElem?_eq_some_iff.1 hx).1; have := HL.out; omega
      clear hnode
      rcases hD with ⟨rfl, h11, hk, rfl, hD⟩ | ⟨hq0, h11, hsm, hk, rfl, hq, hD⟩
      · have e11 : (x.kind == 11) = true := by simp [h11]
        have HD1 := Lib.hid hD
        have HDR := Lib.hid hdr
        have HDX := Lib.hid hdx
        clear hD hdr hdx hx
        go_wp2_with fail
        go_roundw
        case rel =>
          refine ⟨k + 1, i + 1, by go_num, by go_num, by omega, tt, r', L, vs, ?_, by omega, fun j => ?_, ?_⟩
          · rw [HDR.out]
            exact HD1.out
          · have := HALL.out j
            rw [HDX.out] at this
            rw [HDR.out]
            simpa [thr] using this
          · repeat (first | exact HM.out | apply Mem3.drew)
        case measure => simp [intOf]; omega
      · have e11 : (x.kind == 11) = false := by simp [h11]
        have HD1 := Lib.hid hD
        have HDX := Lib.hid hdx
        have hqb := endc_bd hq
        rw [List.length_drop, HL.out] at hqb
        have HQ := Lib.hid hq
        have hiq : i + q ≤ len := by omega
        clear hD hx hdr hq hdx hqb
        go_wp2_with fail
        refine (HEN.out i q _ (by repeat (first | exact HM.out.low | refine below_drewN ?_ 1)) HQ.out).mono ?_
        rintro e w2 ⟨rfl, hb2⟩
        have hM2 : Mem3 w vs L w2 := Mem3.below (by repeat (first | exact HM.out | apply Mem3.drew)) hb2
        have HM2 := Lib.hid hM2
        clear hM2 hb2 HM
        go_wp2_with fail
        have hk3 : k < 3 := by omega
        have hM3 := HM2.out.drew
        have hcc : w2.cell? ⟨w.heap.size + 1, k, none⟩ = some (vs k) := (HM2.out.blk.cell k).trans (tc3_at hk3)
        have hcf := HM2.out.blk.free k
        have hz2 : w.heap.size + 1 < w2.heap.size := HM2.out.blk.lt
        have hOW := Lib.hid (hM3.own.own k hk3)
        have hSG := Lib.hid (HSEG.out.below hM3.low)
        have HM3 := Lib.hid hM3
        clear hM3
        have hLk : (L k).length + q ≤ 4000 := by
          have h1 := congrArg List.length (HALL.out k)
          have h2 : (F k).length ≤ len := by
            rw [← HF.out]
            have h3 := thr_len (j := k) HD.out
            omega
          rw [List.length_append] at h1
          omega
        have htl : ((ns.drop i).take q).length = q := by
          rw [List.length_take, List.length_drop, HL.out]
          omega
        have HTL := Lib.hid htl
        have hif : (if c = i then some (⟨b, off, none⟩ : Addr) else some ⟨b, off + i * 19, none⟩) = some ⟨b, off + i * 19, none⟩ := if_neg (by omega)
        have HIF := Lib.hid hif
        have hcell : ∀ j u, (((ns.drop i).take q).flatMap ncs)[j]? = some u → w2.drew.cell? ⟨b, off + i * 19 + j, none⟩ = some u := by
          rw [flat_take ncs_length, flat_drop ncs_length]
          intro j u hu
          have := seg_cells (Seg.take (Seg.drop hSG.out (i * 19)) (q * 19)) j u hu
          have hadd : (⟨b, off + i * 19, none⟩ : Addr).add j = ⟨b, off + i * 19 + j, none⟩ := by unfold Addr.add; split <;> simp_all
          rwa [hadd] at this
        have HCELL := Lib.hid hcell
        clear htl hif hcell
        have hb2' : b < w2.heap.size := by omega
        have hi1 : (i : Int) + q ≤ len := by omega
        have hi2 : (i : Int) + q ≤ c := by omega
        have hi3 : (i : Int) ≤ i + q := by omega
        have hk3i : (k : Int) < 3 := by omega
        go_region_law (first
          | (refine step_append_at rfl (.tmp 35) (.tmp 39) rfl (w.heap.size + 2) ?_ (vs k) (L k).length ((L k).flatMap ncs) rfl hOW.out b (off + i * 19) (c - i) (((i : Int) + q).toNat - i) ((ns.drop i).take q) ?_ ?_ ?_ HCELL.out ?_ ?_; exact HM3.out.size2; (first | rfl | exact congrArg (fun p => Value.slice p (((i : Int) + q).toNat - i) (c - i)) HIF.out); (rw [HTL.out]; omega); exact .inr hb2'; (rw [HTL.out]; omega); intro v3 W3 hown3 hg3 hv3; obtain ⟨A3, c3, rfl⟩ := own_slice hown3; have HM4 := Lib.hid (HM3.out.grow hk3 hown3 hg3 hv3); have hB3 := HM3.out.blkGrown hk3 hg3; have hcc3 := (hB3.cell k).trans (tc3_at hk3); have hcf3 := hB3.free k; have hz3 := hB3.lt))
        have hlq : ((ns.drop i).take q).length = min q (ns.length - i) := by simp
        rw [hlq] at HM4
        clear hlq hcc hcf hcc3 hcf3 hz3 hB3 hg3 hv3 hown3 hOW hSG HCELL
        generalize W3.setCell ⟨w.heap.size + 1, k, none⟩ (.slice A3 ((L k).length + min q (ns.length - i)) c3) = W4 at HM4 ⊢
        generalize min q (ns.length - i) = qq at HM4 ⊢
        go_wp2_with fail
        go_roundw
        case rel =>
          refine ⟨k, i + q, by go_num, by go_num, by omega, tt, r', _, _, ?_, by omega, fun j => ?_, HM4.out⟩
          · have := HD1.out
            rwa [List.drop_drop] at this
          · have := HALL.out j
            obtain ⟨q, rfl⟩ : ∃ y, q = y + 1 := ⟨q - 1, by omega⟩
            simp only [thr, List.drop_drop] at this
            rw [← this]
            by_cases e : j = k
            · simp only [if_pos e, List.append_assoc]
              rw [e]
            · simp only [if_neg e, List.nil_append]
        case measure => simp [intOf]; omega
end Go.Proofs.Ytoboecenlangmaa.No
end
section
namespace Go.Proofs.Ytoboecenlangmaa.No
open Go.ChangeShapes Go.WideShapes Go.ChangeAt Go.RowKit
open Me Np
set_option linter.unusedVariables false
set_option linter.unusedSimpArgs false

theorem idx2 (x y z : Value) (w : World) : (Instr.index 110 (.agg #[x, y, z]) (.int .i64 2)).run Try.prog w = .ok z w := by kernel_rfl
theorem fld0' (x a b c d e f g h : Int) (w : World) : (Instr.field 69 (.agg #[.int .i64 x, .int .i64 a, .int .i64 b, .int .i64 c, .int .i64 d, .int .i64 e, .int .i64 f, .int .i64 g, .int .i64 h]) 0).run Try.prog w = .ok (.int .i64 x) w := by kernel_rfl
theorem fld0 (T : Tot) (h4 : T.st.length = 4) (h5 : T.sh.length = 4) (w : World) : (Instr.field 69 (.agg (tc T)) 0).run Try.prog w = .ok (.int .i64 T.nat) w := by
  obtain ⟨x, st, sh⟩ := T
  match st, sh, h4, h5 with
  | [a, b, c, d], [e, f, g, h], _, _ => exact fld0' x a b c d e f g h w
set_option maxHeartbeats 2000000 in
set_option maxRecDepth 100000 in
theorem along_disc (A : Option Addr) (ns : List Nd) (c k m : Nat) (ss : List Nat) (n : Nd) (v : Int) (w : World) (hc : chk ns = 0) (hcap : ns.length ≤ c) (hseg : Seg w w.heap.size A (ns.flatMap ncs)) (hk : ns[k]? = some n) (hm : endc (ns.drop k) 0 = some m) (hm2 : 2 ≤ m) (hd : D3 ss (ns.drop (k + 1)) 0 (m - 2)) (hn : n.kind = 10)
    (hsum : ∀ w1 A1 c1, (thr ss (ns.drop (k + 1)) 0 2).length ≤ c1 → Seg w1 w1.heap.size A1 ((thr ss (ns.drop (k + 1)) 0 2).flatMap ncs) → Calls Try.prog 63 #[.slice A1 (thr ss (ns.drop (k + 1)) 0 2).length c1, .bool false] w1 fun e w' => ∃ T : Tot, T.nat = v ∧ (T.st.length = 4 ∧ T.sh.length = 4) ∧ e = .returned (.agg (tc T)) ∧ Below w1.heap.size w1 w') :
    Calls Try.prog 112 #[.slice A ns.length c, .int .i64 (k : Int), .bool false] w fun e w' => e = .returned (.int .i64 v) ∧ Below w.heap.size w w' := by
  have hl := (chk_run hc).1
  have HT := Lib.hid fun w1 (h : Below w.heap.size w w1) => three_any A ns c k m ss n w1 hc hcap (Seg.belowW hseg h) hk hm hd hm2
  have HS := Lib.hid hsum
  obtain ⟨b, off, rfl, hb, hnode⟩ := seg_node hseg hk
  have hkl : k < ns.length := (List.getElem?_eq_some_iff.1 hk).1
  clear hseg hk hsum hm hd hc
  generalize thr ss (ns.drop (k + 1)) 0 = F at *
  generalize ns.length = len at *
  go_enter Try.func112, Try.ntmps112
  go_wp2_with (first | (refine wpList_load_node rfl _ rfl _ _ rfl _ (by repeat (first | apply NodeAt.row | (apply Blk.new'; first | rfl | (simp; done)) | (apply Blk.node; apply Blk.new'; first | rfl | (simp; done)) | assumption | apply NodeAt.alloc)) ?_) | (refine wpList_alloc_node rfl rfl ?_) | (refine wpList_store_node rfl _ _ rfl _ _ _ rfl rfl _ (by repeat (first | (apply Blk.new'; first | rfl | (simp; done)) | assumption | apply Blk.alloc)) ?_))
  refine (HT.out _ (andAlloc (Below.refl _ _) _)).mono ?_
  rintro e w1 ⟨vs, rfl, ho, hb1⟩
  obtain ⟨A2, c2, h2, hc2, _, hs2⟩ := Seg.of_own (ho.own 2 (by omega))
  have hl1 : Below w.heap.size w w1 := andThen (andAlloc (Below.refl _ _) _) hb1
  have hix : ∀ w, (Instr.index 110 (.agg (tc3 vs)) (.int .i64 2)).run Try.prog w = .ok (vs 2) w := fun w => idx2 _ _ _ w
  rw [h2] at hix
  generalize tc3 vs = cs at hix ⊢
  go_wp2_with fail
  refine (HS.out _ _ _ hc2 hs2).mono ?_
  rintro e w2 ⟨T, hT, ⟨h4, h5⟩, rfl, hb2⟩
  have ht0 := fld0 T h4 h5
  rw [hT] at ht0
  go_wp2_with fail
  go_ret
  exact ⟨rfl, andThen hl1 hb2⟩
set_option maxHeartbeats 1000000 in
/-- along: every item of a list. -/
theorem along_every (A : Option Addr) (ns : List Nd) (c k : Nat) (n : Nd) (down : Bool) (w : World) (hc : chk ns = 0) (hcap : ns.length ≤ c) (hseg : Seg w w.heap.size A (ns.flatMap ncs)) (hk : ns[k]? = some n) (h6 : ¬ n.kind = 6) (h11 : ¬ n.kind = 11) :
    Calls Try.prog 112 #[.slice A ns.length c, .int .i64 (k : Int), .bool down] w fun e w' => e = .returned (.int .i64 (alD ns down k)) ∧ Below w.heap.size w w' := by
  have hl := (chk_run hc).1
  have hr := chk_right hc
  by_cases hd : n.kind = 10 ∧ down = false
  · obtain ⟨h10, rfl⟩ := hd
    obtain ⟨m, hm⟩ := item_ends hc hk h6 h11
    obtain ⟨hm2, ss, hss⟩ := disc_steps hc hk h10 hm
    obtain ⟨xs, hxs, hsm⟩ := thr_its 2 0 hss
    have hv : AlV ns false k (tsum (thr ss (ns.drop (k + 1)) 0 2) (al0 (thr ss (ns.drop (k + 1)) 0 2) false) xs tz).nat := ⟨n, hk, by rw [if_pos ⟨h10, rfl⟩]; exact ⟨ss, m - 2, xs, hss, hxs, rfl⟩⟩
    rw [alD_of hv]
    have hr3 : ∀ y ∈ thr ss (ns.drop (k + 1)) 0 2, right y = true := fun y hy => hr y (List.mem_of_mem_drop (thr_mem y hy))
    have hlen : (thr ss (ns.drop (k + 1)) 0 2).length ≤ 2000 := by
      have h1 := thr_len (j := 2) hss
      have h2 := hss.le
      rw [List.length_drop] at h2
      omega
    refine along_disc A ns c k m ss n _ w hc hcap hseg hk hm hm2 hss h10 fun w1 A1 c1 hc1 hs1 => ?_
    refine (sum_of A1 (thr ss (ns.drop (k + 1)) 0 2) c1 xs false (al0 (thr ss (ns.drop (k + 1)) 0 2) false) w1 hlen hs1 hxs hr3 (fun x _ => by have := al0_bd hr3 false x; omega) fun x hx w2 hb2 => ?_).mono ?_
    · obtain ⟨y, hy, hsy⟩ := hsm x hx
      rw [Nat.sub_zero] at hy
      have e : al0 (thr ss (ns.drop (k + 1)) 0 2) false x = alongP y false := by simp [al0, hy]
      rw [e]
      refine along_any A1 _ c1 x y false w2 (by omega) (Seg.belowW hs1 hb2) hy (hr3 y (List.mem_of_getElem? hy)) (.inr fun h => ?_)
      simp [smallB, h] at hsy
    · rintro e w2 ⟨rfl, hb2⟩
      exact ⟨_, rfl, tsum_len _ _ _ _ ⟨rfl, rfl⟩, rfl, hb2⟩
  · have hv : AlV ns down k (alongP n down) := ⟨n, hk, by rw [if_neg hd]⟩
    rw [alD_of hv]
    refine along_any A ns c k n down w (by omega) hseg hk (hr n (List.mem_of_getElem? hk)) ?_
    cases down
    · right
      intro h
      exact hd ⟨h, rfl⟩
    · exact .inl rfl
theorem sum_any (A : Option Addr) (ns : List Nd) (c : Nat) (xs : List Nat) (down : Bool) (w : World) (hc : chk ns = 0) (hcap : ns.length ≤ c) (hseg : Seg w w.heap.size A (ns.flatMap ncs)) (hx : Its xs ns 0) :
    Calls Try.prog 63 #[.slice A ns.length c, .bool down] w fun e w' => e = .returned (.agg (tc (totD ns down xs))) ∧ Below w.heap.size w w' := by
  have hl := (chk_run hc).1
  refine sum_of A ns c xs down (alD ns down) w hl hseg hx (chk_right hc) (fun x hm => alV_bd hc (alD_spec down hc hx x hm)) fun x hm w1 hb1 => ?_
  obtain ⟨n, hn, h6, h11⟩ := its_beg hc hx x hm
  exact along_every A ns c x n down w1 hc hcap (Seg.belowW hseg hb1) hn h6 h11
theorem totals_ok (A : Option Addr) (ns : List Nd) (c : Nat) (xs : List Nat) (down : Bool) (w : World) (hc : chk ns = 0) (hcap : ns.length ≤ c) (hseg : Seg w w.heap.size A (ns.flatMap ncs)) (hx : Its xs ns 0) (hd : dimB (totD ns down xs).nat = true) :
    Calls Try.prog 31 #[.slice A ns.length c, .bool down] w fun e w' => e = .returned (.tuple #[.agg (tc (totD ns down xs)), .int .i64 0]) ∧ Below w.heap.size w w' :=
  totals_of A ns c down _ w (by have := (chk_run hc).1; omega) hseg hc (totD_len ns down xs).1 (totD_len ns down xs).2 hd fun w1 hb1 => sum_any A ns c xs down w1 hc hcap (Seg.belowW hseg hb1) hx
end Go.Proofs.Ytoboecenlangmaa.No
end
section
namespace Go.Proofs.Ytoboecenlangmaa.No
open Go.ChangeShapes Go.WideShapes Go.ChangeAt Go.RowKit
open Me Np
set_option linter.unusedVariables false
set_option linter.unusedSimpArgs false
set_option maxHeartbeats 1000000 in
set_option maxRecDepth 100000 in
theorem totals_off (A : Option Addr) (ns : List Nd) (c : Nat) (down : Bool) (T : Tot) (w : World) (hl : ns.length ≤ 9223372036854775806) (hseg : Seg w w.heap.size A (ns.flatMap ncs)) (hc : chk ns = 0) (h4 : T.st.length = 4) (h5 : T.sh.length = 4) (hd : dimB T.nat = false)
    (hsum : ∀ w1, Below w.heap.size w w1 → Calls Try.prog 63 #[.slice A ns.length c, .bool down] w1 fun e w' => e = .returned (.agg (tc T)) ∧ Below w1.heap.size w1 w') :
    Calls Try.prog 31 #[.slice A ns.length c, .bool down] w fun e w' => e = .returned (.tuple #[.agg (tc tz), .int .i64 20]) ∧ Below w.heap.size w w' := by
  have HC := Lib.hid fun w1 (h : Below w.heap.size w w1) => check_any A ns c w1 (by omega) (Seg.belowW hseg h)
  have HE := Lib.hid hc
  have HS := Lib.hid hsum
  have HD := Lib.hid hd
  have hn0 := tc_nat T
  have hsz := tc_size h4 h5
  have HSZ := Lib.hid hsz
  have htw : (Try.prog.info? 69).map (·.size) = some (tc T).size := by rw [hsz]; exact tot_info
  have HTW := Lib.hid htw
  clear hseg hc hsum hd hsz htw
  rw [HE.out] at HC
  generalize ns.length = len at *
  go_enter Try.func31, Try.ntmps31
  go_wp2_with fail
  refine (HC.out _ (andAlloc (Below.refl _ _) _)).mono ?_
  rintro e w1 ⟨rfl, hb1⟩
  have hr1 : Blk w1 w.heap.size 69 (tc tz) := Blk.below (Blk.new' rfl) hb1 (by simp)
  have hl1 : Below w.heap.size w w1 := andThen (andAlloc (Below.refl _ _) _) hb1
  clear hb1
  go_wp2_with fail
  refine (HS.out _ hl1).mono ?_
  rintro e w2 ⟨rfl, hb2⟩
  have hr2 : Blk w2 w.heap.size 69 (tc tz) := hr1.below hb2 hr1.lt
  have hl2 : Below w.heap.size w w2 := andThen hl1 hb2
  have hz2 := hr2.lt
  clear hr1 hl1 hb2
  have hr3 := hr2.alloc (.cells (tc T) 69)
  go_wp2_with (first | (refine wpList_store_row (o := ⟨none, .store _ (.tmp 7) _, _, _, _, _⟩) rfl 69 _ _ rfl w2.heap.size (tc T) rfl rfl 69 (tc tz) (Blk.new' rfl) HTW.out (by rw [HSZ.out]; rfl) (tc_one _) ?_) | (go_at_call 64; fail))
  have hk : Blk ((w2.alloc (.cells (tc T) 69)).alloc (.cells #[.int .i64 T.nat] 3)) w2.heap.size 69 (tc T) := Blk.alloc (Blk.new' rfl) _
  have hr4 : Blk ((w2.alloc (.cells (tc T) 69)).alloc (.cells #[.int .i64 T.nat] 3)) w.heap.size 69 (tc tz) := hr3.alloc _
  refine (dimen1 _ T.nat _ ((Blk.new' (by simp)).cell 0)).mono ?_
  rintro e w' ⟨rfl, rfl⟩
  rw [HD.out]
  generalize hW : (w2.alloc (.cells (tc T) 69)).alloc (.cells #[.int .i64 T.nat] 3) = W at hk hr4 ⊢
  have HWB := Lib.hid (by rw [← hW]; exact andAlloc (andAlloc hl2 _) _ : Below w.heap.size w W)
  clear hW hr2 hr3 hl2 hz2 hn0
  go_wp2_with (first
    | (refine wpList_store_row (o := ⟨none, .store _ (.tmp 4) _, _, _, _, _⟩) rfl 69 _ _ rfl w.heap.size (tc tz) rfl rfl 69 (tc tz) hr4 tot_info rfl (tc_one _) ?_))
  exact bodyPost_ret (v := .tuple #[.agg (tc tz), .int .i64 20]) (results_cell_tmp rfl _ _ w.heap.size 69 (tc tz) (0, 0) _ _ rfl rfl (Blk.row hr4 _) Try.underlying69 rfl tot_info) rfl ⟨rfl, below_setRow HWB.out _ _ (Nat.le_refl _)⟩
theorem totals_err (A : Option Addr) (ns : List Nd) (c : Nat) (xs : List Nat) (down : Bool) (w : World) (hc : chk ns = 0) (hcap : ns.length ≤ c) (hseg : Seg w w.heap.size A (ns.flatMap ncs)) (hx : Its xs ns 0) (hd : dimB (totD ns down xs).nat = false) :
    Calls Try.prog 31 #[.slice A ns.length c, .bool down] w fun e w' => e = .returned (.tuple #[.agg (tc tz), .int .i64 20]) ∧ Below w.heap.size w w' :=
  totals_off A ns c down _ w (by have := (chk_run hc).1; omega) hseg hc (totD_len ns down xs).1 (totD_len ns down xs).2 hd fun w1 hb1 => sum_any A ns c xs down w1 hc hcap (Seg.belowW hseg hb1) hx
/-- Totals, whatever they come to. -/
noncomputable def totR (ns : List Nd) (down : Bool) (xs : List Nat) : Tot := if dimB (totD ns down xs).nat = true then totD ns down xs else tz
theorem totals_any (A : Option Addr) (ns : List Nd) (c : Nat) (xs : List Nat) (down : Bool) (w : World) (hc : chk ns = 0) (hcap : ns.length ≤ c) (hseg : Seg w w.heap.size A (ns.flatMap ncs)) (hx : Its xs ns 0) :
    Calls Try.prog 31 #[.slice A ns.length c, .bool down] w fun e w' => e = .returned (.tuple #[.agg (tc (totR ns down xs)), .int .i64 (if dimB (totD ns down xs).nat = true then 0 else 20)]) ∧ Below w.heap.size w w' := by
  unfold totR
  cases h : dimB (totD ns down xs).nat
  · simpa using totals_err A ns c xs down w hc hcap hseg hx h
  · simpa using totals_ok A ns c xs down w hc hcap hseg hx h
theorem totR_len (ns : List Nd) (down : Bool) (xs : List Nat) : (totR ns down xs).st.length = 4 ∧ (totR ns down xs).sh.length = 4 := by
  unfold totR
  split
  · exact totD_len _ _ _
  · exact ⟨rfl, rfl⟩
end Go.Proofs.Ytoboecenlangmaa.No
end
section
namespace Go.Proofs.Ytoboecenlangmaa.No
open Go.ChangeShapes Go.WideShapes Go.ChangeAt Go.RowKit
open Me Np
set_option linter.unusedVariables false
set_option linter.unusedSimpArgs false

set_option maxHeartbeats 1000000 in
set_option maxRecDepth 100000 in
theorem totals_bad (A : Option Addr) (ns : List Nd) (c : Nat) (down : Bool) (w : World) (hl : ns.length ≤ 9223372036854775806) (hseg : Seg w w.heap.size A (ns.flatMap ncs)) (hc : ¬ chk ns = 0) :
    Calls Try.prog 31 #[.slice A ns.length c, .bool down] w fun e w' => e = .returned (.tuple #[.agg (tc tz), .int .i64 (chk ns)]) ∧ Below w.heap.size w w' := by
  have HC := Lib.hid fun w1 (h : Below w.heap.size w w1) => check_any A ns c w1 (by omega) (Seg.belowW hseg h)
  have e0 : (chk ns != 0) = true := by simp [hc]
  clear hseg hc
  generalize chk ns = v at *
  generalize ns.length = len at *
  go_enter Try.func31, Try.ntmps31
  go_wp2_with fail
  refine (HC.out _ (andAlloc (Below.refl _ _) _)).mono ?_
  rintro e w1 ⟨rfl, hb1⟩
  have hr1 : Blk w1 w.heap.size 69 (tc tz) := Blk.below (Blk.new' rfl) hb1 (by simp)
  have HL1 := Lib.hid (andThen (andAlloc (Below.refl _ _) _) hb1 : Below w.heap.size w w1)
  clear hb1
  go_wp2_with (first | (refine wpList_store_row (o := ⟨none, .store _ (.tmp 4) _, _, _, _, _⟩) rfl 69 _ _ rfl w.heap.size (tc tz) rfl rfl 69 (tc tz) hr1 tot_info rfl (tc_one _) ?_))
  exact bodyPost_ret (v := .tuple #[.agg (tc tz), .int .i64 v]) (results_cell_tmp rfl _ _ w.heap.size 69 (tc tz) (0, 0) _ _ rfl rfl (Blk.row hr1 _) Try.underlying69 rfl tot_info) rfl ⟨rfl, below_setRow HL1.out _ _ (Nat.le_refl _)⟩
end Go.Proofs.Ytoboecenlangmaa.No
end
section
namespace Go.Proofs.Ytoboecenlangmaa.No
open Go.ChangeShapes Go.WideShapes Go.ChangeAt Go.RowKit
open Me Np
set_option linter.unusedVariables false
set_option linter.unusedSimpArgs false
attribute [local go_sem ↓] ldN_eq
theorem box_shift {n : Nd} (h : right n = true) (h4 : n.kind = 4 ∨ n.kind = 5) : -1073741823 ≤ n.shift ∧ n.shift ≤ 1073741823 := by
  have hs : dimB n.shift = true := by
    rcases h4 with h4 | h4
    · have := right_kind (k := 4) h h4
      simp only [goodK, gBox, Bool.and_eq_true] at this
      exact this.1.2.2.2
    · have := right_kind (k := 5) h h4
      simp only [goodK, gBox, Bool.and_eq_true] at this
      exact this.1.2.2.2
  exact dm_of hs
set_option maxHeartbeats 4000000 in
set_option maxRecDepth 100000 in
theorem row_of (A : Option Addr) (ns : List Nd) (c : Nat) (xs : List Nat) (ra : Nat → Int × Int) (w : World) (hl : ns.length ≤ 2000) (hseg : Seg w w.heap.size A (ns.flatMap ncs)) (hx : Its xs ns 0) (hr : ∀ x ∈ ns, right x = true)
    (hrv : ∀ k ∈ xs, RV (ra k)) (hone : ∀ k ∈ xs, ∀ n, ns[k]? = some n → ¬ n.kind = 10 → ra k = rowP n)
    (hdisc : ∀ k ∈ xs, ∀ n, ns[k]? = some n → n.kind = 10 → ∀ w1, Below w.heap.size w w1 → Calls Try.prog 119 #[.slice A ns.length c, .int .i64 (k : Int)] w1 fun e w' => ∃ vs A2 c2 l2, e = .returned (.agg (tc3 vs)) ∧ vs 2 = .slice A2 l2 c2 ∧ Below w1.heap.size w1 w' ∧
      Calls Try.prog 77 #[.slice A2 l2 c2] w' fun e w2 => e = .returned (.tuple #[.int .i64 (ra k).1, .int .i64 (ra k).2]) ∧ Below w'.heap.size w' w2) :
    Calls Try.prog 77 #[.slice A ns.length c] w fun e w' => e = .returned (.tuple #[.int .i64 (rfold ra xs (0, 0)).1, .int .i64 (rfold ra xs (0, 0)).2]) ∧ Below w.heap.size w w' := by
  have HDI := Lib.hid hdisc
  have HON := Lib.hid hone
  have HRV := Lib.hid hrv
  have HRT := Lib.hid hr
  have HSEG := Lib.hid hseg
  have HITS := Lib.hid (items_any A ns c xs w hl hseg hx)
  have hxl := Its.len hx
  have HLT := Lib.hid (Its.lt hx)
  clear hdisc hone hrv hr hseg hx
  have HL := Lib.hid (rfl : ns.length = ns.length)
  generalize hlen : ns.length = len at hl HDI HITS HL hxl HLT ⊢
  clear HL
  have HL := Lib.hid hlen
  clear hlen
  go_enter Try.func77, Try.ntmps77
  go_wp2_with fail
  refine HITS.out.mono ?_
  rintro e w1 ⟨v, rfl, ho, hb1⟩
  obtain ⟨A', c', rfl⟩ := made_len ho
  have HO := Lib.hid ho
  have HB1 := Lib.hid hb1
  clear ho hb1
  go_wp2_with fail
  go_loopw [2, 3, 12] (fun h d i wr => ∃ (k : Nat) (s : Int × Int), k ≤ xs.length ∧ i = .int .i64 k ∧ h = .int .i64 s.1 ∧ d = .int .i64 s.2 ∧ RB s ∧ rfold ra (xs.drop k) s = rfold ra xs (0, 0) ∧ Below w1.heap.size w1 wr) (fun _ _ i _ => xs.length - (intOf i).toNat)
  case atStart => exact ⟨0, (0, 0), by omega, rfl, rfl, rfl, by unfold RB; simp only; omega, rfl, Below.refl _ _⟩
  case round =>
    obtain ⟨k, s, hk, rfl, rfl, rfl, hrb, hfo, hlow⟩ := hrel
    have HRB := Lib.hid hrb
    by_cases hlt : k < xs.length
    · obtain ⟨x, hx, hxd⟩ : ∃ x, xs[k]? = some x ∧ xs.drop k = x :: xs.drop (k + 1) := ⟨xs[k], List.getElem?_eq_getElem hlt, List.drop_eq_getElem_cons hlt⟩
      have hxm : x ∈ xs := List.mem_of_getElem? hx
      have hxl2 := (HLT.out x hxm).2
      obtain ⟨n, hn, hnd⟩ := get_drop (l := ns) (k := x) (by rw [HL.out]; omega)
      have HRN := Lib.hid (HRT.out n (List.mem_of_getElem? hn))
      have HNN := Lib.hid hn
      obtain ⟨b, off, rfl, hb, hnode⟩ := seg_node HSEG.out hn
      have HLW := Lib.hid (andThen HB1.out hlow)
      have hnr : NodeAt wr b (off + x * 19) n := hnode.below HLW.out hb
      have hld0 : (ldN ⟨b, off + x * 19, none⟩).run Try.prog wr = .ok (.agg (nc n)) wr := run_ldN hnr
      rw [hxd] at hfo
      have HFO := Lib.hid (show rfold ra (xs.drop (k + 1)) (rstep s (ra x)) = rfold ra xs (0, 0) from hfo)
      obtain ⟨g, rfl, hg⟩ : ∃ g, A' = some ⟨g, 0, none⟩ ∧ g < w1.heap.size := by
        rcases id HO.out.2 with ⟨_, h5⟩ | ⟨g, _, _, h5, _, h6, _⟩
        · omega
        · simp at h5
          exact ⟨g, h5.1, (Array.getElem?_eq_some_iff.1 h6).1⟩
      have hxc : wr.cell? ⟨g, k, none⟩ = some (.int .i64 x) := by
        rw [hlow.cell (p := ⟨g, k, none⟩) hg, World.ownsRow.cellAt HO.out k (by omega), List.getElem?_map, hx]
        rfl
      clear hn hnd hx hnode hxd hfo hnr hrb
      by_cases h10 : n.kind = 10
      · have e1 : (n.kind == 1) = false := by simp [h10]
        have e2 : (n.kind == 2) = false := by simp [h10]
        have e3 : (n.kind == 3) = false := by simp [h10]
        have e4 : (n.kind == 4) = false := by simp [h10]
        have e5 : (n.kind == 5) = false := by simp [h10]
        have e10 : (n.kind == 10) = true := by simp [h10]
        have HD3 := Lib.hid (HDI.out x hxm n HNN.out h10 (wr.alloc (.cells (nc n) 54)) (andAlloc HLW.out _))
        have hlw2 := andAlloc hlow (.cells (nc n) 54)
        clear h10
        go_wp2_with (first | (with_reducible show wpList _ _ _ _ _ _; refine wpList_alloc_node rfl rfl ?_) | (with_reducible show wpList _ _ _ _ _ _; refine wpList_store_node rfl _ _ rfl _ _ _ rfl rfl _ (by repeat (first | (apply Blk.new'; first | rfl | (simp; done)) | assumption | apply Blk.alloc)) ?_))
        refine HD3.out.mono ?_
        rintro e w4 ⟨vs, A2, c2, l2, rfl, hv2, hb4, hsum⟩
        have HSU := Lib.hid hsum
        have hlw4 := andThen hlw2 hb4
        have hix : ∀ w, (Instr.index 110 (.agg (tc3 vs)) (.int .i64 2)).run Try.prog w = .ok (vs 2) w := fun w => idx2 _ _ _ w
        rw [hv2] at hix
        clear hsum hv2 hb4 HD3 hlw2
        generalize tc3 vs = cs3 at hix ⊢
        go_wp2_with fail
        refine HSU.out.mono ?_
        rintro e w5 ⟨rfl, hb5⟩
        have hlw5 := andThen hlw4 hb5
        clear hb5 hlw4 HSU hix
        go_wp2_with fail
        go_roundw
        case rel => exact ⟨k + 1, rstep s (ra x), by omega, by go_num, rfl, rfl, HRB.out.step (HRV.out x hxm), HFO.out, by repeat (first | exact hlw5 | refine below_drewN ?_ _ | refine andAlloc ?_ _)⟩
        case measure => simp [intOf]; omega
      · by_cases hk5 : n.kind = 1 ∨ n.kind = 2 ∨ n.kind = 3 ∨ n.kind = 4 ∨ n.kind = 5
        · rcases hk5 with hk | hk | hk | hk | hk
          · have e1 : (n.kind == 1) = true := by simp [hk]
            have hra := HON.out x hxm n HNN.out (by omega)
            rw [show rowP n = (n.ht, n.dp) by unfold rowP; rw [if_pos (by omega)]] at hra
            have HRA := Lib.hid hra
            clear hra hk
            go_wp2_with (first | (with_reducible show wpList _ _ _ _ _ _; refine wpList_alloc_node rfl rfl ?_) | (with_reducible show wpList _ _ _ _ _ _; refine wpList_store_node rfl _ _ rfl _ _ _ rfl rfl _ (by repeat (first | (apply Blk.new'; first | rfl | (simp; done)) | assumption | apply Blk.alloc)) ?_))
            go_quiet (fail)
            go_wp2_with fail
            go_roundw
            case rel => exact ⟨k + 1, rstep s (n.ht, n.dp), by omega, by go_num, rfl, rfl, by rw [← HRA.out]; exact HRB.out.step (HRV.out x hxm), by rw [← HRA.out]; exact HFO.out, by repeat (first | exact hlow | refine below_drewN ?_ _ | refine andAlloc ?_ _)⟩
            case measure => simp [intOf]; omega
          · have e1 : (n.kind == 1) = false := by simp [hk]
            have e2 : (n.kind == 2) = true := by simp [hk]
            have hra := HON.out x hxm n HNN.out (by omega)
            rw [show rowP n = (n.ht, n.dp) by unfold rowP; rw [if_pos (by omega)]] at hra
            have HRA := Lib.hid hra
            clear hra hk
            go_wp2_with (first | (with_reducible show wpList _ _ _ _ _ _; refine wpList_alloc_node rfl rfl ?_) | (with_reducible show wpList _ _ _ _ _ _; refine wpList_store_node rfl _ _ rfl _ _ _ rfl rfl _ (by repeat (first | (apply Blk.new'; first | rfl | (simp; done)) | assumption | apply Blk.alloc)) ?_))
            go_quiet (fail)
            go_wp2_with fail
            go_roundw
            case rel => exact ⟨k + 1, rstep s (n.ht, n.dp), by omega, by go_num, rfl, rfl, by rw [← HRA.out]; exact HRB.out.step (HRV.out x hxm), by rw [← HRA.out]; exact HFO.out, by repeat (first | exact hlow | refine below_drewN ?_ _ | refine andAlloc ?_ _)⟩
            case measure => simp [intOf]; omega
          · have e1 : (n.kind == 1) = false := by simp [hk]
            have e2 : (n.kind == 2) = false := by simp [hk]
            have e3 : (n.kind == 3) = true := by simp [hk]
            have hra := HON.out x hxm n HNN.out (by omega)
            rw [show rowP n = (n.ht, n.dp) by unfold rowP; rw [if_pos (by omega)]] at hra
            have HRA := Lib.hid hra
            clear hra hk
            go_wp2_with (first | (with_reducible show wpList _ _ _ _ _ _; refine wpList_alloc_node rfl rfl ?_) | (with_reducible show wpList _ _ _ _ _ _; refine wpList_store_node rfl _ _ rfl _ _ _ rfl rfl _ (by repeat (first | (apply Blk.new'; first | rfl | (simp; done)) | assumption | apply Blk.alloc)) ?_))
            go_quiet (fail)
            go_wp2_with fail
            go_roundw
            case rel => exact ⟨k + 1, rstep s (n.ht, n.dp), by omega, by go_num, rfl, rfl, by rw [← HRA.out]; exact HRB.out.step (HRV.out x hxm), by rw [← HRA.out]; exact HFO.out, by repeat (first | exact hlow | refine below_drewN ?_ _ | refine andAlloc ?_ _)⟩
            case measure => simp [intOf]; omega
          · have e1 : (n.kind == 1) = false := by simp [hk]
            have e2 : (n.kind == 2) = false := by simp [hk]
            have e3 : (n.kind == 3) = false := by simp [hk]
            have e4 : (n.kind == 4) = true := by simp [hk]
            have hra := HON.out x hxm n HNN.out (by omega)
            rw [show rowP n = (n.ht - n.shift, n.dp + n.shift) by unfold rowP; rw [if_neg (by omega), if_pos (by omega)]] at hra
            have hd := right_hd HRN.out (by omega)
            unfold dm at hd
            have hsh := box_shift HRN.out (by omega)
            have hw1 : IntKind.i64.wrap (n.ht - n.shift) = n.ht - n.shift := IntWalk.i64_in _ (by omega)
            have hw2 : IntKind.i64.wrap (n.dp + n.shift) = n.dp + n.shift := IntWalk.i64_in _ (by omega)
            clear hd hsh
            have HRA := Lib.hid hra
            clear hra hk
            go_wp2_with (first | (with_reducible show wpList _ _ _ _ _ _; refine wpList_alloc_node rfl rfl ?_) | (with_reducible show wpList _ _ _ _ _ _; refine wpList_store_node rfl _ _ rfl _ _ _ rfl rfl _ (by repeat (first | (apply Blk.new'; first | rfl | (simp; done)) | assumption | apply Blk.alloc)) ?_))
            go_quiet (fail)
            go_wp2_with fail
            go_roundw
            case rel => exact ⟨k + 1, rstep s (n.ht - n.shift, n.dp + n.shift), by omega, by go_num, rfl, rfl, by rw [← HRA.out]; exact HRB.out.step (HRV.out x hxm), by rw [← HRA.out]; exact HFO.out, by repeat (first | exact hlow | refine below_drewN ?_ _ | refine andAlloc ?_ _)⟩
            case measure => simp [intOf]; omega
          · have e1 : (n.kind == 1) = false := by simp [hk]
            have e2 : (n.kind == 2) = false := by simp [hk]
            have e3 : (n.kind == 3) = false := by simp [hk]
            have e4 : (n.kind == 4) = false := by simp [hk]
            have e5 : (n.kind == 5) = true := by simp [hk]
            have hra := HON.out x hxm n HNN.out (by omega)
            rw [show rowP n = (n.ht - n.shift, n.dp + n.shift) by unfold rowP; rw [if_neg (by omega), if_pos (by omega)]] at hra
            have hd := right_hd HRN.out (by omega)
            unfold dm at hd
            have hsh := box_shift HRN.out (by omega)
            have hw1 : IntKind.i64.wrap (n.ht - n.shift) = n.ht - n.shift := IntWalk.i64_in _ (by omega)
            have hw2 : IntKind.i64.wrap (n.dp + n.shift) = n.dp + n.shift := IntWalk.i64_in _ (by omega)
            clear hd hsh
            have HRA := Lib.hid hra
            clear hra hk
            go_wp2_with (first | (with_reducible show wpList _ _ _ _ _ _; refine wpList_alloc_node rfl rfl ?_) | (with_reducible show wpList _ _ _ _ _ _; refine wpList_store_node rfl _ _ rfl _ _ _ rfl rfl _ (by repeat (first | (apply Blk.new'; first | rfl | (simp; done)) | assumption | apply Blk.alloc)) ?_))
            go_quiet (fail)
            go_wp2_with fail
            go_roundw
            case rel => exact ⟨k + 1, rstep s (n.ht - n.shift, n.dp + n.shift), by omega, by go_num, rfl, rfl, by rw [← HRA.out]; exact HRB.out.step (HRV.out x hxm), by rw [← HRA.out]; exact HFO.out, by repeat (first | exact hlow | refine below_drewN ?_ _ | refine andAlloc ?_ _)⟩
            case measure => simp [intOf]; omega
        · have e1 : (n.kind == 1) = false := by simp; omega
          have e2 : (n.kind == 2) = false := by simp; omega
          have e3 : (n.kind == 3) = false := by simp; omega
          have e4 : (n.kind == 4) = false := by simp; omega
          have e5 : (n.kind == 5) = false := by simp; omega
          have e10 : (n.kind == 10) = false := by simp; omega
          have hra := HON.out x hxm n HNN.out h10
          rw [show rowP n = (0, 0) by unfold rowP; rw [if_neg (by omega), if_neg (by omega)]] at hra
          have HRA := Lib.hid hra
          clear hra h10 hk5
          go_wp2_with (first | (with_reducible show wpList _ _ _ _ _ _; refine wpList_alloc_node rfl rfl ?_) | (with_reducible show wpList _ _ _ _ _ _; refine wpList_store_node rfl _ _ rfl _ _ _ rfl rfl _ (by repeat (first | (apply Blk.new'; first | rfl | (simp; done)) | assumption | apply Blk.alloc)) ?_))
          go_roundw
          case rel => exact ⟨k + 1, rstep s (0, 0), by omega, by go_num, rfl, rfl, by have hh := HRB.out.step (HRV.out x hxm); rw [HRA.out] at hh; exact hh, by have hf := HFO.out; rw [HRA.out] at hf; exact hf, by repeat (first | exact hlow | refine below_drewN ?_ _ | refine andAlloc ?_ _)⟩
          case measure => simp [intOf]; omega
    · obtain rfl : k = xs.length := by omega
      rw [List.drop_of_length_le (Nat.le_refl _)] at hfo
      have hfo : s = rfold ra xs (0, 0) := hfo
      subst hfo
      have HLW := Lib.hid (andThen HB1.out hlow)
      go_wp2_with fail
      go_ret2
      exact ⟨rfl, HLW.out⟩
end Go.Proofs.Ytoboecenlangmaa.No
end
section
namespace Go.Proofs.Ytoboecenlangmaa.No
open Go.ChangeShapes Go.WideShapes Go.ChangeAt Go.RowKit
open Me Np
set_option linter.unusedVariables false
set_option linter.unusedSimpArgs false
attribute [local go_sem ↓] ldN_eq
set_option maxHeartbeats 4000000 in
set_option maxRecDepth 100000 in
theorem column_of (A : Option Addr) (ns : List Nd) (c : Nat) (xs : List Nat) (w : World) (hl : ns.length ≤ 2000) (hseg : Seg w w.heap.size A (ns.flatMap ncs)) (hx : Its xs ns 0) (hr : ∀ x ∈ ns, right x = true) :
    Calls Try.prog 78 #[.slice A ns.length c] w fun e w' => e = .returned (.tuple #[.int .i64 (cfold ns xs (0, 0)).1, .int .i64 (cfold ns xs (0, 0)).2]) ∧ Below w.heap.size w w' := by
  have HRT := Lib.hid hr
  have HSEG := Lib.hid hseg
  have HITS := Lib.hid (items_any A ns c xs w hl hseg hx)
  have hxl := Its.len hx
  have HLT := Lib.hid (Its.lt hx)
  clear hr hseg hx
  have HL := Lib.hid (rfl : ns.length = ns.length)
  generalize hlen : ns.length = len at hl HITS HL hxl HLT ⊢
  clear HL
  have HL := Lib.hid hlen
  clear hlen
  go_enter Try.func78, Try.ntmps78
  go_wp2_with fail
  refine HITS.out.mono ?_
  rintro e w1 ⟨v, rfl, ho, hb1⟩
  obtain ⟨A', c', rfl⟩ := made_len ho
  have HO := Lib.hid ho
  have HB1 := Lib.hid hb1
  clear ho hb1
  go_wp2_with fail
  go_loopw [2, 3, 10] (fun h d i wr => ∃ (k : Nat) (s : Int × Int), k ≤ xs.length ∧ i = .int .i64 k ∧ h = .int .i64 s.1 ∧ d = .int .i64 s.2 ∧ cfold ns (xs.drop k) s = cfold ns xs (0, 0) ∧ Below w1.heap.size w1 wr) (fun _ _ i _ => xs.length - (intOf i).toNat)
  case atStart => exact ⟨0, (0, 0), by omega, rfl, rfl, rfl, rfl, Below.refl _ _⟩
  case round =>
    obtain ⟨k, s, hk, rfl, rfl, rfl, hfo, hlow⟩ := hrel
    by_cases hlt : k < xs.length
    · obtain ⟨x, hx, hxd⟩ : ∃ x, xs[k]? = some x ∧ xs.drop k = x :: xs.drop (k + 1) := ⟨xs[k], List.getElem?_eq_getElem hlt, List.drop_eq_getElem_cons hlt⟩
      have hxm : x ∈ xs := List.mem_of_getElem? hx
      have hxl2 := (HLT.out x hxm).2
      obtain ⟨n, hn, hnd⟩ := get_drop (l := ns) (k := x) (by rw [HL.out]; omega)
      have HRN := Lib.hid (HRT.out n (List.mem_of_getElem? hn))
      have HNN := Lib.hid hn
      obtain ⟨b, off, rfl, hb, hnode⟩ := seg_node HSEG.out hn
      have HLW := Lib.hid (andThen HB1.out hlow)
      have hnr : NodeAt wr b (off + x * 19) n := hnode.below HLW.out hb
      have hld0 : (ldN ⟨b, off + x * 19, none⟩).run Try.prog wr = .ok (.agg (nc n)) wr := run_ldN hnr
      rw [hxd] at hfo
      have HFO := Lib.hid (show cfold ns (xs.drop (k + 1)) (cstep s n) = cfold ns xs (0, 0) by simpa [cfold, hn] using hfo)
      obtain ⟨g, rfl, hg⟩ : ∃ g, A' = some ⟨g, 0, none⟩ ∧ g < w1.heap.size := by
        rcases id HO.out.2 with ⟨_, h5⟩ | ⟨g, _, _, h5, _, h6, _⟩
        · omega
        · simp at h5
          exact ⟨g, h5.1, (Array.getElem?_eq_some_iff.1 h6).1⟩
      have hxc : wr.cell? ⟨g, k, none⟩ = some (.int .i64 x) := by
        rw [hlow.cell (p := ⟨g, k, none⟩) hg, World.ownsRow.cellAt HO.out k (by omega), List.getElem?_map, hx]
        rfl
      have hgl : g < wr.heap.size := Nat.lt_of_lt_of_le hg hlow.size
      clear hn hnd hx hnode hxd hfo hnr
      by_cases hk5 : n.kind = 3 ∨ n.kind = 4 ∨ n.kind = 5
      · rcases hk5 with hk | hk | hk
        · have e3 : (n.kind == 3) = true := by simp [hk]
          have HST := Lib.hid (show cstep s n = (max s.1 n.wd, n.dp) by unfold cstep; rw [if_pos (by omega)])
          clear hk
          go_wp2_with (first | (with_reducible show wpList _ _ _ _ _ _; refine wpList_alloc_node rfl rfl ?_) | (with_reducible show wpList _ _ _ _ _ _; refine wpList_store_node rfl _ _ rfl _ _ _ rfl rfl _ (by repeat (first | (apply Blk.new'; first | rfl | (simp; done)) | assumption | apply Blk.alloc)) ?_))
          go_region
          all_goals go_wp2_with fail
          all_goals go_roundw
          all_goals first | (case measure => simp [intOf]; omega) | (case rel => exact ⟨k + 1, (max s.1 n.wd, n.dp), by omega, by go_num, rfl, rfl, by have hf := HFO.out; rw [HST.out] at hf; exact hf, by repeat (first | exact hlow | refine below_drewN ?_ _ | refine andAlloc ?_ _)⟩)
        · have e3 : (n.kind == 3) = false := by simp [hk]
          have e4 : (n.kind == 4) = true := by simp [hk]
          have HST := Lib.hid (show cstep s n = (max s.1 (n.wd + n.shift), n.dp) by unfold cstep; rw [if_neg (by omega), if_pos (by omega)])
          have hd := right_wd HRN.out (by omega)
          unfold dm at hd
          have hsh := box_shift HRN.out (by omega)
          have hw1 : IntKind.i64.wrap (n.wd + n.shift) = n.wd + n.shift := IntWalk.i64_in _ (by omega)
          clear hd hsh
          clear hk
          go_wp2_with (first | (with_reducible show wpList _ _ _ _ _ _; refine wpList_alloc_node rfl rfl ?_) | (with_reducible show wpList _ _ _ _ _ _; refine wpList_store_node rfl _ _ rfl _ _ _ rfl rfl _ (by repeat (first | (apply Blk.new'; first | rfl | (simp; done)) | assumption | apply Blk.alloc)) ?_))
          go_region
          all_goals go_wp2_with fail
          all_goals go_roundw
          all_goals first | (case measure => simp [intOf]; omega) | (case rel => exact ⟨k + 1, (max s.1 (n.wd + n.shift), n.dp), by omega, by go_num, rfl, rfl, by have hf := HFO.out; rw [HST.out] at hf; exact hf, by repeat (first | exact hlow | refine below_drewN ?_ _ | refine andAlloc ?_ _)⟩)
        · have e3 : (n.kind == 3) = false := by simp [hk]
          have e4 : (n.kind == 4) = false := by simp [hk]
          have e5 : (n.kind == 5) = true := by simp [hk]
          have HST := Lib.hid (show cstep s n = (max s.1 (n.wd + n.shift), n.dp) by unfold cstep; rw [if_neg (by omega), if_pos (by omega)])
          have hd := right_wd HRN.out (by omega)
          unfold dm at hd
          have hsh := box_shift HRN.out (by omega)
          have hw1 : IntKind.i64.wrap (n.wd + n.shift) = n.wd + n.shift := IntWalk.i64_in _ (by omega)
          clear hd hsh
          clear hk
          go_wp2_with (first | (with_reducible show wpList _ _ _ _ _ _; refine wpList_alloc_node rfl rfl ?_) | (with_reducible show wpList _ _ _ _ _ _; refine wpList_store_node rfl _ _ rfl _ _ _ rfl rfl _ (by repeat (first | (apply Blk.new'; first | rfl | (simp; done)) | assumption | apply Blk.alloc)) ?_))
          go_region
          all_goals go_wp2_with fail
          all_goals go_roundw
          all_goals first | (case measure => simp [intOf]; omega) | (case rel => exact ⟨k + 1, (max s.1 (n.wd + n.shift), n.dp), by omega, by go_num, rfl, rfl, by have hf := HFO.out; rw [HST.out] at hf; exact hf, by repeat (first | exact hlow | refine below_drewN ?_ _ | refine andAlloc ?_ _)⟩)
      · have e3 : (n.kind == 3) = false := by simp; omega
        have e4 : (n.kind == 4) = false := by simp; omega
        have e5 : (n.kind == 5) = false := by simp; omega
        have HST := Lib.hid (show cstep s n = (s.1, 0) by unfold cstep; rw [if_neg (by omega), if_neg (by omega)])
        clear hk5
        go_wp2_with (first | (with_reducible show wpList _ _ _ _ _ _; refine wpList_alloc_node rfl rfl ?_) | (with_reducible show wpList _ _ _ _ _ _; refine wpList_store_node rfl _ _ rfl _ _ _ rfl rfl _ (by repeat (first | (apply Blk.new'; first | rfl | (simp; done)) | assumption | apply Blk.alloc)) ?_))
        go_roundw
        case rel => exact ⟨k + 1, (s.1, 0), by omega, by go_num, rfl, rfl, by have hf := HFO.out; rw [HST.out] at hf; exact hf, by repeat (first | exact hlow | refine below_drewN ?_ _ | refine andAlloc ?_ _)⟩
        case measure => simp [intOf]; omega
    · obtain rfl : k = xs.length := by omega
      rw [List.drop_of_length_le (Nat.le_refl _)] at hfo
      have hfo : s = cfold ns xs (0, 0) := hfo
      subst hfo
      have HLW := Lib.hid (andThen HB1.out hlow)
      go_wp2_with fail
      go_ret2
      exact ⟨rfl, HLW.out⟩
end Go.Proofs.Ytoboecenlangmaa.No
end
section
namespace Go.Proofs.Ytoboecenlangmaa.No
open Go.ChangeShapes Go.WideShapes Go.ChangeAt Go.RowKit
open Me Np
set_option linter.unusedVariables false
set_option linter.unusedSimpArgs false

/-- A list's height and depth in a row. -/
noncomputable def rowD (ns : List Nd) (xs : List Nat) : Int × Int := rfold (roD ns) xs (0, 0)
/-- A list's extent. -/
noncomputable def extD (ns : List Nd) (down : Bool) (xs : List Nat) : Int × Int := if down = true then cfold ns xs (0, 0) else rowD ns xs
/-- What Extent answers. -/
def extV (P : Int × Int) : Value := .tuple #[.int .i64 (if (dimB P.1 && dimB P.2) = true then P.1 else 0), .int .i64 (if (dimB P.1 && dimB P.2) = true then P.2 else 0), .int .i64 (if (dimB P.1 && dimB P.2) = true then 0 else 20)]
theorem ext_yes {P : Int × Int} (h : (dimB P.1 && dimB P.2) = true) : Ending.returned (.tuple #[.int .i64 P.1, .int .i64 P.2, .int .i64 0]) = .returned (extV P) := by unfold extV; rw [if_pos h, if_pos h, if_pos h]
theorem ext_no {P : Int × Int} (h : (dimB P.1 && dimB P.2) = false) : Ending.returned (.tuple #[.int .i64 0, .int .i64 0, .int .i64 20]) = .returned (extV P) := by unfold extV; rw [if_neg (by rw [h]; decide), if_neg (by rw [h]; decide), if_neg (by rw [h]; decide)]
theorem row_any (A : Option Addr) (ns : List Nd) (c : Nat) (xs : List Nat) (w : World) (hc : chk ns = 0) (hcap : ns.length ≤ c) (hseg : Seg w w.heap.size A (ns.flatMap ncs)) (hx : Its xs ns 0) :
    Calls Try.prog 77 #[.slice A ns.length c] w fun e w' => e = .returned (.tuple #[.int .i64 (rowD ns xs).1, .int .i64 (rowD ns xs).2]) ∧ Below w.heap.size w w' := by
  have hl := (chk_run hc).1
  have hr := chk_right hc
  refine row_of A ns c xs (roD ns) w hl hseg hx hr (fun k _ => roD_rv hr k) ?_ ?_
  · intro k hk n hn h10
    exact roD_of ⟨n, hn, by rw [if_neg h10]⟩
  · intro k hk n hn h10 w1 hb1
    obtain ⟨m, hm⟩ := item_ends hc hn (by omega) (by omega)
    obtain ⟨hm2, ss, hss⟩ := disc_steps hc hn h10 hm
    obtain ⟨xs', hxs, hsm⟩ := thr_its 2 0 hss
    have hv : RoV ns k (rfold (ra0 (thr ss (ns.drop (k + 1)) 0 2)) xs' (0, 0)) := ⟨n, hn, by rw [if_pos h10]; exact ⟨ss, m - 2, xs', hss, hxs, rfl⟩⟩
    rw [roD_of hv]
    have hr3 : ∀ y ∈ thr ss (ns.drop (k + 1)) 0 2, right y = true := fun y hy => hr y (List.mem_of_mem_drop (thr_mem y hy))
    have hlen : (thr ss (ns.drop (k + 1)) 0 2).length ≤ 2000 := by
      have h1 := thr_len (j := 2) hss
      have h2 := hss.le
      rw [List.length_drop] at h2
      omega
    refine (three_any A ns c k m ss n w1 hc hcap (Seg.belowW hseg hb1) hn hm hss hm2).mono ?_
    rintro e w2 ⟨vs, rfl, ho, hb2⟩
    obtain ⟨A2, c2, h2, hc2, _, hs2⟩ := Seg.of_own (ho.own 2 (by omega))
    refine ⟨vs, A2, c2, _, rfl, h2, hb2, ?_⟩
    have hsm' : ∀ x ∈ xs', ∀ y, (thr ss (ns.drop (k + 1)) 0 2)[x]? = some y → smallB y = true := fun x hx' y hy => by
      obtain ⟨y', hy', hs⟩ := hsm x hx'
      rw [Nat.sub_zero, hy] at hy'
      injection hy' with e
      rw [e]
      exact hs
    refine row_of A2 (thr ss (ns.drop (k + 1)) 0 2) c2 xs' (ra0 (thr ss (ns.drop (k + 1)) 0 2)) w2 hlen hs2 hxs hr3 (fun x _ => ra0_rv hr3 x) (fun x hx' y hy _ => by simp [ra0, hy]) (fun x hx' y hy h => ?_)
    have := hsm' x hx' y hy
    simp [smallB, h] at this
set_option maxHeartbeats 1000000 in
set_option maxRecDepth 100000 in
theorem extent_bad (A : Option Addr) (ns : List Nd) (c : Nat) (down : Bool) (w : World) (hl : ns.length ≤ 9223372036854775806) (hseg : Seg w w.heap.size A (ns.flatMap ncs)) (hc : ¬ chk ns = 0) :
    Calls Try.prog 44 #[.slice A ns.length c, .bool down] w fun e w' => e = .returned (.tuple #[.int .i64 0, .int .i64 0, .int .i64 (chk ns)]) ∧ Below w.heap.size w w' := by
  have HC := Lib.hid (check_any A ns c w (by omega) hseg)
  have e0 : (chk ns != 0) = true := by simp [hc]
  clear hseg hc
  generalize chk ns = v at *
  generalize ns.length = len at *
  go_enter Try.func44, Try.ntmps44
  go_wp2_with fail
  refine HC.out.mono ?_
  rintro e w1 ⟨rfl, hb1⟩
  go_wp2_with fail
  go_ret3
  exact ⟨rfl, hb1⟩
set_option maxHeartbeats 1000000 in
set_option maxRecDepth 100000 in
theorem extent_good (A : Option Addr) (ns : List Nd) (c : Nat) (xs : List Nat) (down : Bool) (w : World) (hc : chk ns = 0) (hcap : ns.length ≤ c) (hseg : Seg w w.heap.size A (ns.flatMap ncs)) (hx : Its xs ns 0) :
    Calls Try.prog 44 #[.slice A ns.length c, .bool down] w fun e w' => e = .returned (extV (extD ns down xs)) ∧ Below w.heap.size w w' := by
  have hl := (chk_run hc).1
  have hr := chk_right hc
  have HC := Lib.hid (check_any A ns c w (by omega) hseg)
  have HR := Lib.hid fun w1 (h : Below w.heap.size w w1) => row_any A ns c xs w1 hc hcap (Seg.belowW hseg h) hx
  have HCO := Lib.hid fun w1 (h : Below w.heap.size w w1) => column_of A ns c xs w1 hl (Seg.belowW hseg h) hx hr
  rw [hc] at HC
  have HE0 := Lib.hid (show down = false → extD ns down xs = rowD ns xs from fun h => by rw [h]; rfl)
  have HE1 := Lib.hid (show down = true → extD ns down xs = cfold ns xs (0, 0) from fun h => by rw [h]; rfl)
  generalize extD ns down xs = E at *
  clear hseg hc hx hr hcap
  generalize hQ : cfold ns xs (0, 0) = Q at *
  generalize hP0 : rowD ns xs = P0 at *
  clear hQ hP0
  generalize ns.length = len at *
  go_enter Try.func44, Try.ntmps44
  go_wp2_with fail
  refine HC.out.mono ?_
  rintro e w1 ⟨rfl, hb1⟩
  go_wp2_with fail
  refine (HR.out _ hb1).mono ?_
  rintro e w2 ⟨rfl, hb2⟩
  have hb12 := andThen hb1 hb2
  cases down
  · have HLX := Lib.hid hb12
    clear hb1 hb2 hb12
    have hE := HE0.out (by first | rfl | trivial)
    clear HE0 HE1
    subst hE
    cases hD : dimB E.1 && dimB E.2
    all_goals
      have HD := Lib.hid hD
      clear hD
      go_wp2_with (go_at_call 64; refine (dimen2 _ E.1 E.2 _ (by simp [go_sem]) (by simp [go_sem])).mono ?_; rintro e w' ⟨rfl, rfl⟩; simp only [HD.out])
      go_ret3
      exact ⟨by first | exact ext_no HD.out | exact ext_yes HD.out, andAlloc HLX.out _⟩
  · go_wp2_with fail
    refine (HCO.out _ hb12).mono ?_
    rintro e w3 ⟨rfl, hb3⟩
    have HLX := Lib.hid (andThen hb12 hb3)
    clear hb1 hb2 hb12 hb3
    have hE := HE1.out (by first | rfl | trivial)
    clear HE0 HE1
    subst hE
    cases hD : dimB E.1 && dimB E.2
    all_goals
      have HD := Lib.hid hD
      clear hD
      go_wp2_with (go_at_call 64; refine (dimen2 _ E.1 E.2 _ (by simp [go_sem]) (by simp [go_sem])).mono ?_; rintro e w' ⟨rfl, rfl⟩; simp only [HD.out])
      go_ret3
      exact ⟨by first | exact ext_no HD.out | exact ext_yes HD.out, andAlloc HLX.out _⟩
end Go.Proofs.Ytoboecenlangmaa.No
end
section
namespace Go.Proofs.Ytoboecenlangmaa.No
open Go.ChangeShapes Go.WideShapes Go.ChangeAt Go.RowKit
open Me Np
set_option linter.unusedVariables false
set_option linter.unusedSimpArgs false

theorem run_append_seg {w : World} (ty : TypeId) (base : Nat) (hbase : base ≤ w.heap.size) (v : Value) (n : Nat) (xs : List Value) (hown : w.ownsRow base 54 19 v n xs) (B : Nat) (A : Option Addr) (c : Nat) (l : List Nd) (hs : Seg w B A (l.flatMap ncs)) (hA : A = none → c = 0) (hn : n + l.length ≤ 100000) :
    ∃ v' w', (Builtin.append_ #[34, 34] ty #[v, .slice A l.length c]).run Try.prog w = .ok v' w' ∧ w'.ownsRow base 54 19 v' (n + l.length) (xs ++ l.flatMap ncs) ∧ w.grownBy w' v.ownBlock := by
  obtain ⟨i, hi, hz, hsi, hbi⟩ := info_parts node_row
  have hl0 : l.flatMap ncs = [] → l = [] := fun h => by
    have := flat_length ncs_length l
    rw [h] at this
    simp only [List.length_nil] at this
    exact List.eq_nil_of_length_eq_zero (by omega)
  cases A with
  | none =>
    obtain rfl := hA rfl
    have hl : l = [] := by
      rcases hs with h | ⟨b, off, e, _⟩
      · exact hl0 h
      · cases e
    subst hl
    exact ⟨v, w, run_append_owned_none w base 34 ty 54 i 19 Try.underlying34 hi v n xs hown, by simpa using hown, rfl, rfl, rfl, Nat.le_refl _, fun k _ _ => rfl⟩
  | some ad =>
    have hc : ∀ j u, (l.flatMap ncs)[j]? = some u → w.cell? (ad.add j) = some u := by
      rcases hs with h | ⟨b, off, e, _, h⟩
      · intro j u hu
        rw [h] at hu
        simp at hu
      · injection e with e
        subst e
        intro j u hu
        have hadd : (⟨b, off, none⟩ : Addr).add j = ⟨b, off + j, none⟩ := by unfold Addr.add; split <;> simp_all
        rw [hadd]
        exact h j u hu
    obtain ⟨v', w', hr, h2, h3, _⟩ := run_append_own (P := Try.prog) w base 34 ty 54 i _ 19 160 Try.underlying34 hi hz hsi hbi rfl (by decide) v n xs hown ad l.length c (l.flatMap ncs) (flat_length ncs_length l) hc (ncs_one l) (by simp only [maxLen]; omega) (by omega) hbase
    exact ⟨v', w', hr, h2, h3⟩
theorem wpList_append_seg {ops : Array Oper} {rest : List Oper} {o : Oper} {a : Act} {w : World} {Q : Exit → Act → World → Prop} (hgd : o.guard = none) (s x : Operand) (ho : o.op = .call { callee := .builtin .append, args := #[s, x], argTypes := #[34, 34] })
    (base : Nat) (hbase : base ≤ w.heap.size) (v : Value) (n : Nat) (xs : List Value) (hs : a.eval s = v) (hown : w.ownsRow base 54 19 v n xs) (B : Nat) (A : Option Addr) (c len : Nat) (l : List Nd) (hx : a.eval x = .slice A len c) (hlen : len = l.length) (hseg : Seg w B A (l.flatMap ncs)) (hA : A = none → c = 0) (hn : n + l.length ≤ 100000)
    (h : ∀ v' w', w'.ownsRow base 54 19 v' (n + l.length) (xs ++ l.flatMap ncs) → w.grownBy w' v.ownBlock → wpList Try.prog ops Q rest (a.put o.dst v') w') : wpList Try.prog ops Q (o :: rest) a w :=
  wpList_plain hgd fun K hK => by
    subst hlen
    obtain ⟨v', w', hr, h2, h3⟩ := run_append_seg o.type base hbase v n xs hown B A c l hseg hA hn
    unfold Oper.wp execOp
    simp only [ho, resolve, invoke, builtin, Sem.run_bind, Sem.run_pure, Result.andThen_ok, List.map_toArray, List.map_cons, List.map_nil, hs, hx, hr]
    exact hK _ _ (h v' w' h2 h3)

end Go.Proofs.Ytoboecenlangmaa.No
end
section
namespace Go.Proofs.Ytoboecenlangmaa.No
open Go.ChangeShapes Go.WideShapes Go.ChangeAt Go.RowKit
open Me Np
set_option linter.unusedVariables false
set_option linter.unusedSimpArgs false

theorem own_one (w : World) (n : Nd) : (w.alloc (.cells (nc n) 54)).ownsRow w.heap.size 54 19 (.slice (some ⟨w.heap.size, 0, none⟩) 1 1) 1 (ncs n) :=
  ⟨by rw [ncs_length], .inr ⟨w.heap.size, 1, nc n, rfl, Nat.le_refl _, heap_alloc_new w _, Nat.le_refl _, by simp [maxLen], by simp [nc_size], List.take_of_length_le (by rw [nc_list]; omega)⟩⟩
attribute [local go_sem ↓] ldN_eq bldN_eq
set_option maxHeartbeats 2000000 in
set_option maxRecDepth 100000 in
theorem wrap_ok (n : Nd) (A : Option Addr) (l : List Nd) (c : Nat) (w : World) (hsrc : Src w A c l) (hr : right n = true) (ho : opensB n = true) (h10 : ¬ n.kind = 10) (hc : chk l = 0) (hw : chk (wrapL n l) = 0) :
    Calls Try.prog 79 #[.agg (nc n), .slice A l.length c] w (MadeNE w (wrapL n l)) := by
  have hl := (chk_run hc).1
  have e10 : (n.kind == 10) = false := by simp [h10]
  have HO := Lib.hid ho
  have HR := Lib.hid hr
  have HC := Lib.hid fun w1 (h : Below w.heap.size w w1) => check_any A l c w1 (by omega) (Src.below hsrc h).seg
  have HE := Lib.hid hc
  have HS := Lib.hid hsrc
  have HW := Lib.hid hw
  rw [HE.out] at HC
  clear hc ho hr hsrc hw h10
  go_enter Try.func79, Try.ntmps79
  go_wp2_with fail
  refine (kinds_any _).mono ?_
  rintro e w1 ⟨rfl, hq, hz1, hb1⟩
  have HQ := Lib.hid hq
  have HZ1 := Lib.hid hz1
  have hn1 : NodeAt w1 w.heap.size 0 n := NodeAt.below (Blk.node (Blk.new' rfl)) hb1 (by simp)
  have hl1 : Below w.heap.size w w1 := andThen (andAlloc (Below.refl _ _) _) hb1
  clear hq hz1 hb1
  have hld1 : ∀ o : Obj, (ldN ⟨w.heap.size, 0, none⟩).run Try.prog (w1.alloc o) = .ok (.agg (nc n)) (w1.alloc o) := fun o => run_ldN (hn1.alloc o)
  go_wp2_with (first
    | (refine wpList_store_row rfl 117 _ _ rfl w1.heap.size (ktab (w.heap.size + 1 + 1)) rfl rfl 117 Try.zeroCells117 (Blk.new' rfl) (by rw [ktab_size]; exact kinds_info) (by rw [ktab_size]; exact zero_size) (ktab_one _) ?_)
    | fail)
  have hq2 : (w1.alloc (.cells (ktab (w.heap.size + 1 + 1)) 117)).cell? ⟨w.heap.size + 1 + 1, 0, none⟩ = some (.func (.func 87) #[] #[]) := by
    have h1 := HQ.out
    have h2 := HZ1.out
    simp at h1 h2
    exact (World.cell?_alloc_past (w := w1) _ _ _ (by omega)).trans h1
  have hw2 := andAlloc hl1 (.cells (ktab (w.heap.size + 1 + 1)) 117)
  have hn2 := hn1.alloc (.cells (ktab (w.heap.size + 1 + 1)) 117)
  refine (right_any n w1.heap.size (w.heap.size + 1 + 1) _ (Blk.new' rfl) hq2).mono ?_
  rintro e w2 ⟨rfl, hb2⟩
  have hl2 := andThen hw2 hb2
  have hn2' := hn2.below hb2 hn2.lt
  have hc2 : w2.cell? ⟨w.heap.size, 0, none⟩ = some (.int .i64 n.kind) := hn2' 0 _ rfl
  have hz2 := hn2'.lt
  rw [HR.out]
  have hld2 : (ldN ⟨w.heap.size, 0, none⟩).run Try.prog w2 = .ok (.agg (nc n)) w2 := run_ldN hn2'
  have hld3 : ∀ o : Obj, (ldN ⟨w.heap.size, 0, none⟩).run Try.prog (w2.alloc o) = .ok (.agg (nc n)) (w2.alloc o) := fun o => run_ldN (hn2'.alloc o)
  clear hq2 hw2 hn2 hb2 hn1 hl1 HQ HZ1 hld1
  go_wp2_with (first
    | (go_at_call 53; (with_reducible refine (opens_any _ _).mono ?_); rintro e w' ⟨rfl, rfl⟩; simp only [HO.out]))
  have hl3 := andAlloc hl2 (.cells (nc n) 54)
  have hn3 := hn2'.alloc (.cells (nc n) 54)
  refine (HC.out _ hl3).mono ?_
  rintro e w3 ⟨rfl, hb3⟩
  have HL3 := Lib.hid (andThen hl3 hb3)
  have hn4 := hn3.below hb3 hn3.lt
  have hld4 : (ldN ⟨w.heap.size, 0, none⟩).run Try.prog w3 = .ok (.agg (nc n)) w3 := run_ldN hn4
  have hb6 := run_bldN 6
  have HSR := Lib.hid (fun (W : World) (h : Below w.heap.size w W) => Src.below HS.out h)
  have HO1 := Lib.hid (own_one w3 n)
  have HLA := Lib.hid (andAlloc HL3.out (.cells (nc n) 54))
  clear hl2 hn2' hc2 hz2 hld2 hld3 hl3 hn3 hb3 hn4 HC
  go_wp2_with (first
    | (refine wpList_ex (o := ⟨some 30, _, _, _, _, _⟩) (v := .slice (some ⟨w3.heap.size, 0, none⟩) 1 1) (w' := w3.alloc (.cells (nc n) 54)) rfl (by kernel_rfl) ?_)
    | (at_builtin; refine wpList_append_nodes rfl (.tmp 30) (.tmp 31) rfl w3.heap.size ?_ _ 1 _ rfl HO1.out A c l rfl (HSR.out _ HLA.out) ?_ ?_; simp; omega; intro v1 W1 hown1 hg1; have hlw1 : Below w.heap.size w W1 := below_grown (Nat.le_refl _) HLA.out hg1 (fun g hg => by have hh := HL3.out.size; have hg' : some w3.heap.size = some g := hg; injection hg' with hg'; omega))
    | (refine wpList_build_eq (o := ⟨some 34, _, _, _, _, _⟩) rfl _ _ rfl (nc (nz 6)) (by kernel_rfl) ?_)
    | (refine wpList_ex (o := ⟨some 35, _, _, _, _, _⟩) (v := .slice (some ⟨W1.heap.size, 0, none⟩) 1 1) (w' := W1.alloc (.cells (nc (nz 6)) 54)) rfl (by kernel_rfl) ?_)
    | (at_builtin; refine wpList_push rfl (.tmp 33) (.tmp 35) 34 rfl w3.heap.size 54 _ 19 160 Try.underlying34 node_row rfl (by decide) (by decide) _ _ _ rfl hown1 ?_ _ rfl rfl rfl rfl ?_ ?_; (have hh := hg1.size; simp at hh; omega); omega; intro v2 W2 hown2 hg2 hnn2)
    | fail)
  have hg2' : (W1.alloc (.cells (nc (nz 6)) 54)).grownBy W2 v1.ownBlock := hg2
  clear hg2 hnn2
  have hlw2 : Below w.heap.size w W2 := below_grown (Nat.le_refl _) (andAlloc hlw1 _) hg2' (fun g hg => by
    have h1 := hown1.lt g hg
    have h2 := HL3.out.size
    omega)
  have hfl : (wrapL n l).flatMap ncs = ncs n ++ l.flatMap ncs ++ (nc (nz 6)).toList := by
    show _ = ncs n ++ l.flatMap ncs ++ ncs (nz 6)
    simp [wrapL, List.flatMap_append]
  have hln : 1 + l.length + 1 = (wrapL n l).length := by
    simp [wrapL]
    omega
  rw [← hfl, hln] at hown2
  have HOW := Lib.hid (own_base hown2 (show w.heap.size ≤ w3.heap.size from HL3.out.size))
  obtain ⟨A2, c2, rfl, hc2, hm2, hs2⟩ := Seg.of_own hown2
  have hch := check_any A2 (wrapL n l) c2 W2 (by rw [← hln]; omega) hs2
  rw [HW.out] at hch
  have HLW2 := Lib.hid hlw2
  clear hg2' hown2 hown1 hg1 hlw1 hlw2 hfl hs2 hm2 HSR HO1 HLA hld4 hb6
  generalize hwl : (wrapL n l).length = wl at *
  have HWL := Lib.hid hwl
  clear hwl
  refine hch.mono ?_
  rintro e w5 ⟨rfl, hb5⟩
  have HF := Lib.hid (own_below HOW.out hb5)
  have HLF := Lib.hid (andThen HLW2.out hb5)
  clear hch hb5 HOW HLW2
  go_wp2_with fail
  go_ret2
  exact ⟨.slice A2 wl c2, rfl, by rw [HWL.out]; exact HF.out, HLF.out⟩
end Go.Proofs.Ytoboecenlangmaa.No
end
section
namespace Go.Proofs.Ytoboecenlangmaa.Pk
open Go.ChangeShapes Go.WideShapes Go.ChangeAt Go.RowKit
open Me Np No
set_option linter.unusedVariables false
set_option linter.unusedSimpArgs false

/-- What a list measures. -/
structure Msr (l : List Nd) (down : Bool) (x a b c d p q r s e1 h v e2 : Int) : Prop where
  tot : ∀ (A : Option Addr) (k : Nat) (w : World), l.length ≤ k → Seg w w.heap.size A (l.flatMap ncs) → Calls Try.prog 31 #[.slice A l.length k, .bool down] w fun e w' => e = .returned (.tuple #[.agg #[.int .i64 x, .int .i64 a, .int .i64 b, .int .i64 c, .int .i64 d, .int .i64 p, .int .i64 q, .int .i64 r, .int .i64 s], .int .i64 e1]) ∧ Below w.heap.size w w'
  ext : ∀ (A : Option Addr) (k : Nat) (w : World), l.length ≤ k → Seg w w.heap.size A (l.flatMap ncs) → Calls Try.prog 44 #[.slice A l.length k, .bool down] w fun e w' => e = .returned (.tuple #[.int .i64 h, .int .i64 v, .int .i64 e2]) ∧ Below w.heap.size w w'
  nat : e1 = 0 → dimB x = true
  near : e1 = 0 → Gl.nearB a = true ∧ Gl.nearB b = true ∧ Gl.nearB c = true ∧ Gl.nearB d = true ∧ Gl.nearB p = true ∧ Gl.nearB q = true ∧ Gl.nearB r = true ∧ Gl.nearB s = true
  err : e1 = 0 → e2 = 0 ∨ e2 = 20
  hv : e2 = 0 → dimB h = true ∧ dimB v = true
theorem near_of {z : Int} (h : -(1073741823 * ((2000 : Nat) : Int)) ≤ z ∧ z ≤ 1073741823 * ((2000 : Nat) : Int)) : Gl.nearB z = true := by
  unfold Gl.nearB
  rw [decide_eq_true_eq]
  omega
attribute [local go_sem ↓] ldN_eq
set_option maxRecDepth 100000 in
/-- The maker's wrap. -/
theorem mwrap_any (g : Nat) (n : Nd) (x a b c d p q r s : Int) (em : Bool) (bad ov : Int) (S L : List Nd) (e0 : Int) (A : Option Addr) (k : Nat) (w : World) (hg : Mk w g n x a b c d p q r s em bad ov 0)
    (hw : ∀ (A : Option Addr) (c : Nat) (w : World), Src w A c S → Calls Try.prog 79 #[.agg (nc n), .slice A S.length c] w fun e' w' => ∃ v, e' = .returned (.tuple #[v, .int .i64 e0]) ∧ w'.ownsRow w.heap.size 54 19 v L.length (L.flatMap ncs) ∧ Below w.heap.size w w') (hs : Src w A k S) :
    Calls Try.prog 45 #[.pointer (some ⟨g, 0, none⟩), .slice A S.length k] w fun e' w' => ∃ v, e' = .returned (.tuple #[v, .int .i64 e0]) ∧ w'.ownsRow w.heap.size 54 19 v L.length (L.flatMap ncs) ∧ Below w.heap.size w w' := by
  have hc31 : w.cell? ⟨g, 31, none⟩ = some (.int .i64 0) := Blk.cell hg 31
  have hld := run_ldN hg.node
  have HW := Lib.hid (hw A k w hs)
  clear hg hw hs
  generalize S.length = len at *
  go_enter Try.func45, Try.ntmps45
  go_wp2_with fail
  refine HW.out.mono ?_
  rintro e w1 ⟨v, rfl, ho, hb⟩
  have HO := Lib.hid (And.intro ho hb)
  clear ho hb HW
  go_wp2_with fail
  go_ret2
  exact ⟨v, rfl, HO.out.1, HO.out.2⟩
end Go.Proofs.Ytoboecenlangmaa.Pk
end
section
namespace Go.Proofs.Ytoboecenlangmaa.Pk
open Go.ChangeShapes Go.WideShapes Go.ChangeAt Go.RowKit
open Me Np No
set_option linter.unusedVariables false
set_option linter.unusedSimpArgs false

/-- An append of nodes that lie somewhere; where the answer lies. -/
theorem wpList_append_at {ops : Array Oper} {rest : List Oper} {o : Oper} {a : Act} {w : World} {Q : Exit → Act → World → Prop} (hgd : o.guard = none) (s x : Operand) (ho : o.op = .call { callee := .builtin .append, args := #[s, x], argTypes := #[34, 34] })
    (base : Nat) (hbase : base ≤ w.heap.size) (v : Value) (n : Nat) (xs : List Value) (hs : a.eval s = v) (hown : w.ownsRow base 54 19 v n xs) (b off c len : Nat) (l : List Nd) (hx : a.eval x = .slice (some ⟨b, off, none⟩) len c) (hlen : len = l.length) (hb : l = [] ∨ b < w.heap.size) (hc : ∀ j u, (l.flatMap ncs)[j]? = some u → w.cell? ⟨b, off + j, none⟩ = some u) (hn : n + l.length ≤ 100000)
    (h : ∀ v' w', w'.ownsRow base 54 19 v' (n + l.length) (xs ++ l.flatMap ncs) → w.grownBy w' v.ownBlock → (v'.ownBlock = v.ownBlock ∨ v'.ownBlock = some w.heap.size) → wpList Try.prog ops Q rest (a.put o.dst v') w') : wpList Try.prog ops Q (o :: rest) a w :=
  wpList_plain hgd fun K hK => by
    subst hlen
    obtain ⟨v', w', hr, h2, h3, h4⟩   := Go.Proofs.Ytoboecenlangmaa.No.run_append_own_at o.type base hbase v n xs hown b off c l hb hc hn
    unfold Oper.wp execOp
    simp only [ho, resolve, invoke, builtin, Sem.run_bind, Sem.run_pure, Result.andThen_ok, List.map_toArray, List.map_cons, List.map_nil, hs, hx, hr]
    exact hK _ _ (h v' w' h2 h3 h4)
theorem beg_of {ns : List Nd} {a : Nat} {x : Nd} (hx : ns[a]? = some x) (h6 : ¬ x.kind = 6) (h11 : ¬ x.kind = 11) : begB ns a = true := by
  simp [begB, hx, h6, h11]
/-- Two rows of the call's own, each of its own block. -/
structure Own2 (w : World) (base : Nat) (v u : Value) (l m : List Nd) : Prop where
  one : w.ownsRow base 54 19 v l.length (l.flatMap ncs)
  two : w.ownsRow base 54 19 u m.length (m.flatMap ncs)
  dist : v.ownBlock = none ∨ v.ownBlock ≠ u.ownBlock
  dist' : u.ownBlock = none ∨ u.ownBlock ≠ v.ownBlock
theorem Own2.below {w w' : World} {base : Nat} {v u : Value} {l m : List Nd} (h : Own2 w base v u l m) (hb : Below w.heap.size w w') : Own2 w' base v u l m := ⟨own_below h.one hb, own_below h.two hb, h.dist, h.dist'⟩
theorem Own2.swap {w : World} {base : Nat} {v u : Value} {l m : List Nd} (h : Own2 w base v u l m) : Own2 w base u v m l := ⟨h.two, h.one, h.dist', h.dist⟩
theorem Own2.grow {w w' : World} {base : Nat} {v v' u : Value} {l m k : List Nd} (h : Own2 w base v u l m) (ho : w'.ownsRow base 54 19 v' (l.length + k.length) (l.flatMap ncs ++ k.flatMap ncs)) (hg : w.grownBy w' v.ownBlock) (hw : v'.ownBlock = v.ownBlock ∨ v'.ownBlock = some w.heap.size) : Own2 w' base v' u (l ++ k) m := by
  have hu : ∀ q, u.ownBlock = some q → q < w.heap.size := fun q hq => (h.two.lt q hq).2
  have hd : v'.ownBlock = none ∨ v'.ownBlock ≠ u.ownBlock := by
    rcases hw with e | e
    · rw [e]; exact h.dist
    · refine .inr ?_
      rw [e]
      intro e2
      have := hu _ e2.symm
      omega
  refine ⟨by rw [List.length_append, List.flatMap_append]; exact ho, h.two.kept hg h.dist', hd, ?_⟩
  cases e : u.ownBlock with
  | none => exact .inl rfl
  | some q =>
    refine .inr ?_
    rw [← e]
    rcases hd with hd | hd
    · rw [hd, e]; intro e2; cases e2
    · exact fun e2 => hd e2.symm
/-- What the loop of parted holds. -/
structure InvQ (ns : List Nd) (w : World) (R : List Nd × List Nd) (a : Nat) (v u : Value) (wr : World) : Prop where
  rest : ∃ ys s, Stand ns a ys ∧ partF ns ys s = R ∧ s.1.length ≤ a ∧ s.2.length ≤ a ∧ Own2 wr w.heap.size v u s.1 s.2
  low : Below w.heap.size w wr
theorem take_len {ns : List Nd} {a m : Nat} (h : a + m ≤ ns.length) : ((ns.drop a).take m).length = m := by
  rw [List.length_take, List.length_drop]; omega
theorem inn_len {ns : List Nd} {a m : Nat} (h : a + m ≤ ns.length) (h2 : 2 ≤ m) : (inn ns a m).length = m - 2 := by
  unfold inn
  rw [List.length_take, List.length_drop]; omega
set_option maxHeartbeats 4000000 in
set_option maxRecDepth 100000 in
theorem parted_any (A : Option Addr) (ns : List Nd) (c : Nat) (w : World) (hc : chk ns = 0) (hcap : ns.length ≤ c) (hseg : Seg w w.heap.size A (ns.flatMap ncs)) :
    Calls Try.prog 42 #[.slice A ns.length c] w fun e w' => ∃ v u, e = .returned (.tuple #[v, u]) ∧ Own2 w' w.heap.size v u (partD ns).1 (partD ns).2 ∧ Below w.heap.size w w' := by
  have hl := (chk_run hc).1
  have HIT := Lib.hid (fun (a m : Nat) w1 (h : Below w.heap.size w w1) hb hm => item_ok A ns c a m w1 (by omega) (Seg.belowW hseg h) hc hb hm)
  have HSG := Lib.hid hseg
  have HST := Lib.hid (stand0 hc (itsD_is hc))
  have HCK := Lib.hid hc
  have HR := Lib.hid (show partF ns (itsD ns) ([], []) = partD ns from rfl)
  generalize partD ns = R at HR ⊢
  clear hc hseg
  have hl0 := Lib.hid hl
  generalize hlen : ns.length = len at *
  have HL := Lib.hid hlen
  clear hlen
  go_enter Try.func42, Try.ntmps42
  go_wp2_with fail
  go_loopw [2, 3, 4] (fun v2 v3 v4 wr => ∃ a : Nat, v4 = .int .i64 (a : Int) ∧ InvQ ns w R a v2 v3 wr) (fun _ _ v4 _ => len - (intOf v4).toNat)
  case atStart => exact ⟨0, rfl, ⟨itsD ns, ([], []), HST.out, HR.out, by simp, by simp, World.ownsRow_nil _ _ _ _, World.ownsRow_nil _ _ _ _, .inl rfl, .inl rfl⟩, Below.refl _ _⟩
  case round =>
    obtain ⟨a, rfl, hI⟩ := hrel
    obtain ⟨ys, s, hst, hR, h1, h2, hO⟩ := hI.rest
    have HLOW := Lib.hid hI.low
    have hal := hst.le
    rw [HL.out] at hal
    by_cases hlt : a < len
    · obtain ⟨m, zs, x, rfl, hm, hm1, ham, hst', _, hx, h6, h11⟩ := hst.step (by rw [HL.out]; exact hl) (by rw [HL.out]; exact hlt)
      rw [HL.out] at ham
      obtain ⟨b, off, rfl, hb, hnode⟩ := seg_node HSG.out hx
      have HNO := Lib.hid hnode
      have HS := Lib.hid (And.intro hst' (And.intro hR hO))
      have HX := Lib.hid (And.intro hx hm)
      have HB := Lib.hid (beg_of hx h6 h11)
      have HH := Lib.hid (And.intro h1 h2)
      clear hst' hR hO hx hm hnode hI hst h1 h2
      have hifs : (if c = a then some (⟨b, off, none⟩ : Addr) else some ⟨b, off + a * 19, none⟩) = some ⟨b, off + a * 19, none⟩ := if_neg (by omega)
      have HIF := Lib.hid hifs
      have HTL := Lib.hid (show ((ns.drop a).take m).length = m from take_len (by rw [HL.out]; exact ham))
      have HAD := Lib.hid (fun w1 (h : Below w.heap.size w w1) => show ∀ j u, (((ns.drop a).take m).flatMap ncs)[j]? = some u → w1.cell? ⟨b, off + a * 19 + j, none⟩ = some u by
        rw [flat_take ncs_length, flat_drop ncs_length]
        intro j u hu
        have := seg_cells (Seg.take (Seg.drop (HSG.out.below h) (a * 19)) (m * 19)) j u hu
        have hadd : (⟨b, off + a * 19, none⟩ : Addr).add j = ⟨b, off + a * 19 + j, none⟩ := by unfold Addr.add; split <;> simp_all
        rwa [hadd] at this)
      clear hifs
      have hal1 : (a : Int) + m ≤ len := by omega
      have hal2 : (a : Int) + m ≤ c := by omega
      have hal3 : (a : Int) ≤ a + m := by omega
      have HTI : (inn ns a m).length ≤ m := by unfold inn; rw [List.length_take]; omega
      by_cases k13 : x.kind = 13
      · have e13 : (x.kind == 13) = true := by simp [k13]
        have HP := Lib.hid (pstep_out (s := s) HX.out.1 HX.out.2 (.inl k13))
        clear k13 h6 h11
        go_wp2_with (first | (go_at_call 48; refine (HIT.out a m _ HLOW.out HB.out HX.out.2).mono ?_; rintro e w1 ⟨rfl, hb1⟩; have hn1 : w1.cell? ⟨b, off + a * 19, none⟩ = some (.int .i64 x.kind) := (HNO.out.below HLOW.out hb).below hb1 (Nat.lt_of_lt_of_le hb HLOW.out.size) 0 _ rfl; have HB1 := Lib.hid hb1; have HO1 := Lib.hid (HS.out.2.2.below hb1); have HL1 := Lib.hid (andThen HLOW.out hb1); clear hb1) | (at_builtin; go_loud (refine wpList_append_at rfl (.tmp 28) (.tmp 32) rfl w.heap.size HL1.out.size _ _ _ rfl HO1.out.two b (off + a * 19) (c - a) (a + m - a) ((ns.drop a).take m) rfl (by rw [HTL.out]; omega) (.inr (Nat.lt_of_lt_of_le hb HL1.out.size)) (HAD.out _ HL1.out) (by rw [HTL.out]; have := HH.out.2; omega) ?_; intro v3 W3 hown3 hg3 hv3; have HG3 := Lib.hid (HO1.out.swap.grow hown3 hg3 hv3); have hlow3 := below_grown (Nat.le_refl _) HL1.out hg3 (fun q hq => (HO1.out.two.lt q hq).1); have HLW3 := Lib.hid hlow3; clear hown3 hg3 hv3 hlow3)))
        go_roundw
        case rel =>
          refine ⟨a + m, by go_num, ⟨zs, _, HS.out.1, HS.out.2.1, ?_, ?_, ?_⟩, HLW3.out⟩
          · rw [HP.out]; have := HH.out; have := HTL.out; simp only [List.length_append]; omega
          · rw [HP.out]; have := HH.out; have := HTL.out; have := HTI; simp only [List.length_append]; omega
          · rw [HP.out]; exact HG3.out.swap
        case measure => simp [intOf]; omega
      · have e13 : (x.kind == 13) = false := by simp [k13]
        by_cases k12 : x.kind = 12
        · have e12 : (x.kind == 12) = true := by simp [k12]
          have HP := Lib.hid (pstep_out (s := s) HX.out.1 HX.out.2 (.inr k12))
          clear k13 k12 h6 h11
          go_wp2_with (first | (go_at_call 48; refine (HIT.out a m _ HLOW.out HB.out HX.out.2).mono ?_; rintro e w1 ⟨rfl, hb1⟩; have hn1 : w1.cell? ⟨b, off + a * 19, none⟩ = some (.int .i64 x.kind) := (HNO.out.below HLOW.out hb).below hb1 (Nat.lt_of_lt_of_le hb HLOW.out.size) 0 _ rfl; have HB1 := Lib.hid hb1; have HO1 := Lib.hid (HS.out.2.2.below hb1); have HL1 := Lib.hid (andThen HLOW.out hb1); clear hb1) | (at_builtin; go_loud (refine wpList_append_at rfl (.tmp 28) (.tmp 32) rfl w.heap.size HL1.out.size _ _ _ rfl HO1.out.two b (off + a * 19) (c - a) (a + m - a) ((ns.drop a).take m) rfl (by rw [HTL.out]; omega) (.inr (Nat.lt_of_lt_of_le hb HL1.out.size)) (HAD.out _ HL1.out) (by rw [HTL.out]; have := HH.out.2; omega) ?_; intro v3 W3 hown3 hg3 hv3; have HG3 := Lib.hid (HO1.out.swap.grow hown3 hg3 hv3); have hlow3 := below_grown (Nat.le_refl _) HL1.out hg3 (fun q hq => (HO1.out.two.lt q hq).1); have HLW3 := Lib.hid hlow3; clear hown3 hg3 hv3 hlow3)))
          go_roundw
          case rel =>
            refine ⟨a + m, by go_num, ⟨zs, _, HS.out.1, HS.out.2.1, ?_, ?_, ?_⟩, HLW3.out⟩
            · rw [HP.out]; have := HH.out; have := HTL.out; simp only [List.length_append]; omega
            · rw [HP.out]; have := HH.out; have := HTL.out; have := HTI; simp only [List.length_append]; omega
            · rw [HP.out]; exact HG3.out.swap
          case measure => simp [intOf]; omega
        · have e12 : (x.kind == 12) = false := by simp [k12]
          by_cases k17 : x.kind = 17
          · have e17 : (x.kind == 17) = true := by simp [k17]
            have HP := Lib.hid (pstep_in (s := s) HX.out.1 HX.out.2 k17)
            have hm2 : 2 ≤ m := endc_two HX.out.1 (by simp [opensB, k17]) HX.out.2
            have HTN := Lib.hid (inn_len (ns := ns) (by rw [HL.out]; exact ham) hm2)
            have HAI := Lib.hid (fun w1 (h : Below w.heap.size w w1) => show ∀ j u, ((inn ns a m).flatMap ncs)[j]? = some u → w1.cell? ⟨b, off + (a + 1) * 19 + j, none⟩ = some u by
              unfold inn
              rw [flat_take ncs_length, flat_drop ncs_length]
              intro j u hu
              have := seg_cells (Seg.take (Seg.drop (HSG.out.below h) ((a + 1) * 19)) ((m - 2) * 19)) j u hu
              have hadd : (⟨b, off + (a + 1) * 19, none⟩ : Addr).add j = ⟨b, off + (a + 1) * 19 + j, none⟩ := by unfold Addr.add; split <;> simp_all
              rwa [hadd] at this)
            clear k13 k12 k17 h6 h11
            go_wp2_with (first | (go_at_call 48; refine (HIT.out a m _ HLOW.out HB.out HX.out.2).mono ?_; rintro e w1 ⟨rfl, hb1⟩; have hn1 : w1.cell? ⟨b, off + a * 19, none⟩ = some (.int .i64 x.kind) := (HNO.out.below HLOW.out hb).below hb1 (Nat.lt_of_lt_of_le hb HLOW.out.size) 0 _ rfl; have HB1 := Lib.hid hb1; have HO1 := Lib.hid (HS.out.2.2.below hb1); have HL1 := Lib.hid (andThen HLOW.out hb1); clear hb1) | (at_builtin; go_loud (refine wpList_append_at rfl (.tmp 34) (.tmp 40) rfl w.heap.size HL1.out.size _ _ _ rfl HO1.out.two b (off + (a + 1) * 19) (c - (a + 1)) (a + m - 1 - (a + 1)) (inn ns a m) rfl (by rw [HTN.out]; omega) (.inr (Nat.lt_of_lt_of_le hb HL1.out.size)) (HAI.out _ HL1.out) (by rw [HTN.out]; have := HH.out.2; omega) ?_; intro v3 W3 hown3 hg3 hv3; have HG3 := Lib.hid (HO1.out.swap.grow hown3 hg3 hv3); have hlow3 := below_grown (Nat.le_refl _) HL1.out hg3 (fun q hq => (HO1.out.two.lt q hq).1); have HLW3 := Lib.hid hlow3; clear hown3 hg3 hv3 hlow3)))
            go_roundw
            case rel =>
              refine ⟨a + m, by go_num, ⟨zs, _, HS.out.1, HS.out.2.1, ?_, ?_, ?_⟩, HLW3.out⟩
              · rw [HP.out]; have := HH.out; simp only; omega
              · rw [HP.out]; have := HH.out; have := HTI; simp only [List.length_append]; omega
              · rw [HP.out]; exact HG3.out.swap
            case measure => simp [intOf]; omega
          · have e17 : (x.kind == 17) = false := by simp [k17]
            have HP := Lib.hid (pstep_stay (s := s) HX.out.1 HX.out.2 k13 k12 k17)
            clear k13 k12 k17 h6 h11
            go_wp2_with (first | (go_at_call 48; refine (HIT.out a m _ HLOW.out HB.out HX.out.2).mono ?_; rintro e w1 ⟨rfl, hb1⟩; have hn1 : w1.cell? ⟨b, off + a * 19, none⟩ = some (.int .i64 x.kind) := (HNO.out.below HLOW.out hb).below hb1 (Nat.lt_of_lt_of_le hb HLOW.out.size) 0 _ rfl; have HB1 := Lib.hid hb1; have HO1 := Lib.hid (HS.out.2.2.below hb1); have HL1 := Lib.hid (andThen HLOW.out hb1); clear hb1) | (at_builtin; go_loud (refine wpList_append_at rfl (.tmp 42) (.tmp 46) rfl w.heap.size HL1.out.size _ _ _ rfl HO1.out.one b (off + a * 19) (c - a) (a + m - a) ((ns.drop a).take m) rfl (by rw [HTL.out]; omega) (.inr (Nat.lt_of_lt_of_le hb HL1.out.size)) (HAD.out _ HL1.out) (by rw [HTL.out]; have := HH.out.1; omega) ?_; intro v3 W3 hown3 hg3 hv3; have HG3 := Lib.hid (HO1.out.grow hown3 hg3 hv3); have hlow3 := below_grown (Nat.le_refl _) HL1.out hg3 (fun q hq => (HO1.out.one.lt q hq).1); have HLW3 := Lib.hid hlow3; clear hown3 hg3 hv3 hlow3)))
            go_roundw
            case rel =>
              refine ⟨a + m, by go_num, ⟨zs, _, HS.out.1, HS.out.2.1, ?_, ?_, ?_⟩, HLW3.out⟩
              · rw [HP.out]; have := HH.out; have := HTL.out; simp only [List.length_append]; omega
              · rw [HP.out]; have := HH.out; have := HTL.out; have := HTI; simp only [List.length_append]; omega
              · rw [HP.out]; exact HG3.out
            case measure => simp [intOf]; omega
    · obtain rfl : a = len := by omega
      have he : ys = [] := (show Stand ns ns.length ys from HL.out ▸ hst).done
      subst he
      have HS := Lib.hid (And.intro hR hO)
      clear hI hst hR hO h1 h2
      go_wp2_with fail
      go_ret2
      exact ⟨_, _, rfl, HS.out.1 ▸ HS.out.2, HLOW.out⟩
end Go.Proofs.Ytoboecenlangmaa.Pk
end
section
namespace Go.Proofs.Ytoboecenlangmaa.Pk
open Go.ChangeShapes Go.WideShapes Go.ChangeAt Go.RowKit
open Me Np No
set_option linter.unusedVariables false
set_option linter.unusedSimpArgs false

/-- What Hpack holds: the maker, and two rows. -/
structure Hs (w0 : World) (v u : Value) (S O : List Nd) (g : Nat) (n : Nd) (x a b c d p q r s : Int) (em : Bool) (bad ov wr : Int) (w : World) : Prop where
  mkr : Mk w g n x a b c d p q r s em bad ov wr
  own : Own2 w w0.heap.size v u S O
  low : Below w0.heap.size w0 w
  gl : w0.heap.size ≤ g
theorem Hs.below {w0 : World} {v u : Value} {S O : List Nd} {g : Nat} {n : Nd} {x a b c d p q r s : Int} {em : Bool} {bad ov wr : Int} {w w' : World} (h : Hs w0 v u S O g n x a b c d p q r s em bad ov wr w) (hb : Below w.heap.size w w') : Hs w0 v u S O g n x a b c d p q r s em bad ov wr w' :=
  ⟨h.mkr.below hb, h.own.below hb, andThen h.low hb, h.gl⟩
theorem ne_maker : (54 : Nat) ≠ 97 := by decide
theorem own_not_g {w w' : World} {base n g : Nat} {v : Value} {xs : List Value} {cs : Array Value} (h : w.ownsRow base 54 19 v n xs) (hb : Blk w g 97 cs) (hg : w.grownBy w' (some g)) : w'.ownsRow base 54 19 v n xs := by
  refine h.kept hg ?_
  rcases h.2 with ⟨rfl, _⟩ | ⟨q, cap, cur, rfl, _, hq, _⟩
  · exact .inl rfl
  · refine .inr ?_
    intro e
    have e' : q = g := by injection e
    subst e'
    have hp : w.heap[q]? = some (.cells _ 97 (0, 0)) := hb
    rw [hq] at hp
    simp only [Option.some.injEq, Obj.cells.injEq] at hp
    exact ne_maker hp.2.1
theorem Hs.turn {w0 : World} {v u : Value} {S O : List Nd} {g : Nat} {n n' : Nd} {x a b c d p q r s : Int} {x' a' b' c' d' p' q' r' s' : Int} {em : Bool} {bad ov wr bad' ov' wr' : Int} {w w' : World} (h : Hs w0 v u S O g n x a b c d p q r s em bad ov wr w) (hg : w.grownBy w' (some g)) (hm : Mk w' g n' x' a' b' c' d' p' q' r' s' em bad' ov' wr') :
    Hs w0 v u S O g n' x' a' b' c' d' p' q' r' s' em bad' ov' wr' w' :=
  ⟨hm, ⟨own_not_g h.own.one h.mkr hg, own_not_g h.own.two h.mkr hg, h.own.dist, h.own.dist'⟩, ⟨hg.os.trans h.low.os, hg.tape.trans h.low.tape, hg.output.trans h.low.output, Nat.le_trans h.low.size hg.size, fun q hq => (hg.block q (by have := h.low.size; omega) (by intro e; injection e with e; have := h.gl; omega)).trans (h.low.block q hq)⟩, h.gl⟩
/-- What Hpack answers. -/
def HOut (R : List Nd × List Nd × Int × Int × Int) (w : World) (e : Ending) (w' : World) : Prop := ∃ v u, e = .returned (.tuple #[v, u, .int .i64 R.2.2.1, .int .i64 R.2.2.2.1, .int .i64 R.2.2.2.2]) ∧ Own2 w' w.heap.size v u R.1 R.2.1 ∧ Below w.heap.size w w'
theorem HOut.no {w w' : World} (hb : Below w.heap.size w w') (E : Int) : HOut ([], [], 0, 0, E) w (.returned (.tuple #[.slice none 0 0, .slice none 0 0, .int .i64 0, .int .i64 0, .int .i64 E])) w' := ⟨_, _, rfl, ⟨World.ownsRow_nil _ _ _ _, World.ownsRow_nil _ _ _ _, .inl rfl, .inl rfl⟩, hb⟩
theorem dimen_any (z : Int) (w : World) : Calls Try.prog 41 #[.int .i64 z] w fun e w' => e = .returned (.bool (dimB z)) ∧ w = w' := by
  by_cases h0 : -1073741823 ≤ z
  · by_cases h1 : z ≤ 1073741823
    · have HD := Lib.hid (show dimB z = true by simp [dimB, h0, h1])
      go_enter Try.func41, Try.ntmps41
      go_wp2
      go_ret
      exact ⟨ret_bool (by rw [HD.out]), rfl⟩
    · have HD := Lib.hid (show dimB z = false by simp [dimB]; omega)
      go_enter Try.func41, Try.ntmps41
      go_wp2
      go_ret
      exact ⟨ret_bool (by rw [HD.out]), rfl⟩
  · have HD := Lib.hid (show dimB z = false by simp [dimB]; omega)
    go_enter Try.func41, Try.ntmps41
    go_wp2
    go_ret
    exact ⟨ret_bool (by rw [HD.out]), rfl⟩
theorem hpack_err (A : Option Addr) (ns : List Nd) (k : Nat) (tw : Int) (ex : Bool) (w : World) (hl : ns.length ≤ 9223372036854775806) (hseg : Seg w w.heap.size A (ns.flatMap ncs)) (hc : ¬ chk ns = 0) :
    Calls Try.prog 20 #[.slice A ns.length k, .int .i64 tw, .bool ex] w (HOut ([], [], 0, 0, chk ns) w) := by
  have e0 : (chk ns != 0) = true := by simp [hc]
  have HC := Lib.hid (check_any A ns k w (by omega) hseg)
  clear hseg hc
  generalize chk ns = q0 at *
  generalize ns.length = len at *
  go_enter Try.func20, Try.ntmps20
  go_wp2_with fail
  refine HC.out.mono ?_
  rintro e w1 ⟨rfl, hb1⟩
  go_wp2_with fail
  go_returns
  exact HOut.no hb1 _
theorem hpack_far (A : Option Addr) (ns : List Nd) (k : Nat) (tw : Int) (ex : Bool) (w : World) (hl : ns.length ≤ 9223372036854775806) (hseg : Seg w w.heap.size A (ns.flatMap ncs)) (hc : chk ns = 0) (ht : dimB tw = false) :
    Calls Try.prog 20 #[.slice A ns.length k, .int .i64 tw, .bool ex] w (HOut ([], [], 0, 0, 11) w) := by
  have HC := Lib.hid (check_any A ns k w (by omega) hseg)
  rw [hc] at HC
  have HD := Lib.hid (fun w => dimen_any tw w)
  rw [ht] at HD
  clear hseg hc
  generalize ns.length = len at *
  go_enter Try.func20, Try.ntmps20
  go_wp2_with fail
  refine HC.out.mono ?_
  rintro e w1 ⟨rfl, hb1⟩
  go_wp2_with (go_at_call 41; refine (HD.out _).mono ?_; rintro e w' ⟨rfl, rfl⟩)
  go_returns
  exact HOut.no hb1 _
theorem Mk.s19 {w : World} {g : Nat} {n : Nd} {x a b c d p q r s : Int} {em : Bool} {bad ov wr : Int} (h : Mk w g n x a b c d p q r s em bad ov wr) (z : Int) : Mk (w.setCell ⟨g, 19, none⟩ (.int .i64 z)) g n z a b c d p q r s em bad ov wr := Blk.set h 19 (.int .i64 z)
theorem Mk.s20 {w : World} {g : Nat} {n : Nd} {x a b c d p q r s : Int} {em : Bool} {bad ov wr : Int} (h : Mk w g n x a b c d p q r s em bad ov wr) (z : Int) : Mk (w.setCell ⟨g, 20, none⟩ (.int .i64 z)) g n x z b c d p q r s em bad ov wr := Blk.set h 20 (.int .i64 z)
theorem Mk.s21 {w : World} {g : Nat} {n : Nd} {x a b c d p q r s : Int} {em : Bool} {bad ov wr : Int} (h : Mk w g n x a b c d p q r s em bad ov wr) (z : Int) : Mk (w.setCell ⟨g, 21, none⟩ (.int .i64 z)) g n x a z c d p q r s em bad ov wr := Blk.set h 21 (.int .i64 z)
theorem Mk.s22 {w : World} {g : Nat} {n : Nd} {x a b c d p q r s : Int} {em : Bool} {bad ov wr : Int} (h : Mk w g n x a b c d p q r s em bad ov wr) (z : Int) : Mk (w.setCell ⟨g, 22, none⟩ (.int .i64 z)) g n x a b z d p q r s em bad ov wr := Blk.set h 22 (.int .i64 z)
theorem Mk.s23 {w : World} {g : Nat} {n : Nd} {x a b c d p q r s : Int} {em : Bool} {bad ov wr : Int} (h : Mk w g n x a b c d p q r s em bad ov wr) (z : Int) : Mk (w.setCell ⟨g, 23, none⟩ (.int .i64 z)) g n x a b c z p q r s em bad ov wr := Blk.set h 23 (.int .i64 z)
theorem Mk.s24 {w : World} {g : Nat} {n : Nd} {x a b c d p q r s : Int} {em : Bool} {bad ov wr : Int} (h : Mk w g n x a b c d p q r s em bad ov wr) (z : Int) : Mk (w.setCell ⟨g, 24, none⟩ (.int .i64 z)) g n x a b c d z q r s em bad ov wr := Blk.set h 24 (.int .i64 z)
theorem Mk.s25 {w : World} {g : Nat} {n : Nd} {x a b c d p q r s : Int} {em : Bool} {bad ov wr : Int} (h : Mk w g n x a b c d p q r s em bad ov wr) (z : Int) : Mk (w.setCell ⟨g, 25, none⟩ (.int .i64 z)) g n x a b c d p z r s em bad ov wr := Blk.set h 25 (.int .i64 z)
theorem Mk.s26 {w : World} {g : Nat} {n : Nd} {x a b c d p q r s : Int} {em : Bool} {bad ov wr : Int} (h : Mk w g n x a b c d p q r s em bad ov wr) (z : Int) : Mk (w.setCell ⟨g, 26, none⟩ (.int .i64 z)) g n x a b c d p q z s em bad ov wr := Blk.set h 26 (.int .i64 z)
theorem Mk.s27 {w : World} {g : Nat} {n : Nd} {x a b c d p q r s : Int} {em : Bool} {bad ov wr : Int} (h : Mk w g n x a b c d p q r s em bad ov wr) (z : Int) : Mk (w.setCell ⟨g, 27, none⟩ (.int .i64 z)) g n x a b c d p q r z em bad ov wr := Blk.set h 27 (.int .i64 z)
theorem Mk.n3 {w : World} {g : Nat} {n : Nd} {x a b c d p q r s : Int} {em : Bool} {bad ov wr : Int} (h : Mk w g n x a b c d p q r s em bad ov wr) (z : Int) : Mk (w.setCell ⟨g, 3, none⟩ (.int .i64 z)) g { n with wd := z } x a b c d p q r s em bad ov wr := Blk.set h 3 (.int .i64 z)
theorem Mk.n4 {w : World} {g : Nat} {n : Nd} {x a b c d p q r s : Int} {em : Bool} {bad ov wr : Int} (h : Mk w g n x a b c d p q r s em bad ov wr) (z : Int) : Mk (w.setCell ⟨g, 4, none⟩ (.int .i64 z)) g { n with ht := z } x a b c d p q r s em bad ov wr := Blk.set h 4 (.int .i64 z)
theorem Mk.n5 {w : World} {g : Nat} {n : Nd} {x a b c d p q r s : Int} {em : Bool} {bad ov wr : Int} (h : Mk w g n x a b c d p q r s em bad ov wr) (z : Int) : Mk (w.setCell ⟨g, 5, none⟩ (.int .i64 z)) g { n with dp := z } x a b c d p q r s em bad ov wr := Blk.set h 5 (.int .i64 z)
theorem mk_tot {w : World} {g : Nat} {n : Nd} {em : Bool} {bad ov wr : Int} {x' a' b' c' d' p' q' r' s' : Int} (h : Mk w g n x' a' b' c' d' p' q' r' s' em bad ov wr) (x a b c d p q r s : Int) : Mk (w.setCells g 19 [.int .i64 x, .int .i64 a, .int .i64 b, .int .i64 c, .int .i64 d, .int .i64 p, .int .i64 q, .int .i64 r, .int .i64 s]) g n x a b c d p q r s em bad ov wr := by
  simp only [World.setCells]
  exact (((((((((h.s19 x).s20 a).s21 b).s22 c).s23 d).s24 p).s25 q).s26 r).s27 s)
theorem mk_there {w : World} {g : Nat} {n : Nd} {em : Bool} {bad ov wr : Int} {x a b c d p q r s : Int} (h : Mk w g n x a b c d p q r s em bad ov wr) : w.there g 19 9 := by
  intro j hj
  refine ⟨?_, Blk.free h _⟩
  rw [Blk.cell h]
  rw [Array.getElem?_eq_getElem (by show 19 + j < 32; omega)]
  rfl
end Go.Proofs.Ytoboecenlangmaa.Pk
end
section
namespace Go.Proofs.Ytoboecenlangmaa.Pk
open Go.ChangeShapes Go.WideShapes Go.ChangeAt Go.RowKit
open Me Np No
set_option linter.unusedVariables false
set_option linter.unusedSimpArgs false

theorem Hs.seg {w0 w : World} {A : Option Addr} {l k : Nat} {u : Value} {S O : List Nd} {g : Nat} {n : Nd} {x a b c d p q r s : Int} {em : Bool} {bad ov wr : Int} (h : Hs w0 (.slice A l k) u S O g n x a b c d p q r s em bad ov wr w) : Seg w w.heap.size A (S.flatMap ncs) := by
  obtain ⟨A', c, e, _, _, hs⟩ := Seg.of_own h.own.one
  injection e with e _ _
  subst e
  exact hs
theorem t9_one (x a b c d p q r s : Int) : (#[.int .i64 x, .int .i64 a, .int .i64 b, .int .i64 c, .int .i64 d, .int .i64 p, .int .i64 q, .int .i64 r, .int .i64 s] : Array Value).all (·.oneCell') = true := by simp [Value.oneCell']
theorem grown_cells (g : Nat) : ∀ (vs : List Value) (o : Nat) (w : World), w.grownBy (w.setCells g o vs) (some g)
  | [], _, w => ⟨rfl, rfl, rfl, Nat.le_refl _, fun _ _ _ => rfl⟩
  | v :: r, o, w => grown_trans (grown_set w g o v) (grown_cells g r (o + 1) _)
theorem Hs.n45 {w0 : World} {v u : Value} {S O : List Nd} {g : Nat} {n : Nd} {x a b c d p q r s : Int} {em : Bool} {bad ov wr : Int} {w : World} (h : Hs w0 v u S O g n x a b c d p q r s em bad ov wr w) (z y : Int) : Hs w0 v u S O g { n with ht := z, dp := y } x a b c d p q r s em bad ov wr ((w.setCell ⟨g, 4, none⟩ (.int .i64 z)).setCell ⟨g, 5, none⟩ (.int .i64 y)) :=
  h.turn (grown_trans (grown_set _ _ _ _) (grown_set _ _ _ _)) ((h.mkr.n4 z).n5 y)
theorem Hs.n3 {w0 : World} {v u : Value} {S O : List Nd} {g : Nat} {n : Nd} {x a b c d p q r s : Int} {em : Bool} {bad ov wr : Int} {w : World} (h : Hs w0 v u S O g n x a b c d p q r s em bad ov wr w) (z : Int) : Hs w0 v u S O g { n with wd := z } x a b c d p q r s em bad ov wr (w.setCell ⟨g, 3, none⟩ (.int .i64 z)) :=
  h.turn (grown_set _ _ _ _) (h.mkr.n3 z)
theorem Hs.src {w0 w : World} {A : Option Addr} {l k : Nat} {u : Value} {S O : List Nd} {g : Nat} {n : Nd} {x a b c d p q r s : Int} {em : Bool} {bad ov wr : Int} (h : Hs w0 (.slice A l k) u S O g n x a b c d p q r s em bad ov wr w) : Src w A k S := by
  obtain ⟨A', c, e, _, _, hs⟩ := Src.own h.own.one
  injection e with e1 e2 e3
  subst e1
  subst e3
  exact hs
theorem Hs.out {w0 w w' : World} {v : Value} {u : Value} {S O L : List Nd} {g : Nat} {n : Nd} {x a b c d p q r s : Int} {em : Bool} {bad ov wr : Int} (h : Hs w0 v u S O g n x a b c d p q r s em bad ov wr w) {vL : Value} (ho : w'.ownsRow w.heap.size 54 19 vL L.length (L.flatMap ncs)) (hb : Below w.heap.size w w') (y z : Int) :
    HOut (L, O, y, z, 0) w0 (.returned (.tuple #[vL, u, .int .i64 y, .int .i64 z, .int .i64 0])) w' := by
  have hq : ∀ q, vL.ownBlock = some q → u.ownBlock ≠ some q := fun q h1 h2 => by
    have := (ho.lt q h1).1
    have := (h.own.two.lt q h2).2
    omega
  refine ⟨vL, u, rfl, ⟨own_base ho h.low.size, own_below h.own.two hb, ?_, ?_⟩, andThen h.low hb⟩
  · cases e : vL.ownBlock with
    | none => exact .inl rfl
    | some q => exact .inr (fun e' => hq q e e'.symm)
  · cases e : u.ownBlock with
    | none => exact .inl rfl
    | some q => exact .inr (fun e' => hq q e'.symm e)
theorem HOut.drewN {R : List Nd × List Nd × Int × Int × Int} {w w' : World} {e : Ending} (h : HOut R w e w') (n : Nat) : HOut R w e (w'.drewN n) := by
  obtain ⟨v, u, rfl, ho, hb⟩ := h
  exact ⟨v, u, rfl, ho.below (below_drewN (Below.refl _ _) n), below_drewN hb n⟩
theorem partF_len {ns : List Nd} (hl : ns.length ≤ 2000) : ∀ (ys : List Nat) (a : Nat) (s : List Nd × List Nd), Stand ns a ys → s.1.length ≤ a → s.2.length ≤ a → (partF ns ys s).1.length ≤ ns.length ∧ (partF ns ys s).2.length ≤ ns.length
  | [], a, s, h, h1, h2 => by have := h.le; exact ⟨Nat.le_trans h1 this, Nat.le_trans h2 this⟩
  | y :: ys, a, s, h, h1, h2 => by
    have hi := h.its
    obtain ⟨rfl, m0, hm0, _⟩ := hi
    have hb := endc_bd hm0
    rw [List.length_drop] at hb
    obtain ⟨m, zs, x, he, hm, hm1, ham, hst, _, hx, h6, h11⟩ := h.step hl (by omega)
    injection he with _ he
    subst he
    rw [partF_cons]
    have hti : ((ns.drop y).take m).length = m := by rw [List.length_take, List.length_drop]; omega
    have hin : (inn ns y m).length ≤ m := by unfold inn; rw [List.length_take]; omega
    refine partF_len hl ys (y + m) _ hst ?_ ?_
    · by_cases k1 : x.kind = 13 ∨ x.kind = 12
      · rw [pstep_out hx hm k1]; show s.1.length ≤ _; omega
      · by_cases k2 : x.kind = 17
        · rw [pstep_in hx hm k2]; show s.1.length ≤ _; omega
        · rw [pstep_stay hx hm (by omega) (by omega) k2]; simp only [List.length_append]; omega
    · by_cases k1 : x.kind = 13 ∨ x.kind = 12
      · rw [pstep_out hx hm k1]; simp only [List.length_append]; omega
      · by_cases k2 : x.kind = 17
        · rw [pstep_in hx hm k2]; simp only [List.length_append]; omega
        · rw [pstep_stay hx hm (by omega) (by omega) k2]; show s.2.length ≤ _; omega
theorem partD_len {ns : List Nd} (hc : chk ns = 0) : (partD ns).1.length ≤ 2000 ∧ (partD ns).2.length ≤ 2000 := by
  have hl := (chk_run hc).1
  have := partF_len hl (itsD ns) 0 ([], []) (stand0 hc (itsD_is hc)) (by simp) (by simp)
  exact ⟨Nat.le_trans this.1 hl, Nat.le_trans this.2 hl⟩
/-- What Hpack comes to, where the list is one and the width may be. -/
def hpkR (e1 e2 : Int) (dW : Bool) (e3 : Int) (L O : List Nd) (bad ov : Int) : List Nd × List Nd × Int × Int × Int :=
  if e1 = 0 then (if e2 = 0 then (if dW = true then (if e3 = 0 then (L, O, bad, ov, 0) else ([], [], 0, 0, e3)) else ([], [], 0, 0, 20)) else ([], [], 0, 0, e2)) else ([], [], 0, 0, e1)
def hN (W h v : Int) : Nd := { nz 4 with wd := W, ht := h, dp := v }
end Go.Proofs.Ytoboecenlangmaa.Pk
end
section
namespace Go.Proofs.Ytoboecenlangmaa.Pk
open Np No
set_option linter.unusedVariables false
set_option linter.unusedSimpArgs false

theorem run_endc : ∀ {l : List Nd} {st st1 : List Int} {d d1 : Int} (r : List Nd), run l (st, d) = some (st1, d1) → endc (l ++ r) ((st.length : Int) + 1) = (endc r ((st1.length : Int) + 1)).map (· + l.length)
  | [], st, st1, d, d1, r, h => by
    simp only [run, Option.some.injEq, Prod.mk.injEq] at h
    obtain ⟨rfl, rfl⟩ := h
    simp
  | x :: l, st, st1, d, d1, r, h => by
    simp only [run] at h
    cases hs : stp (st, d) x with
    | none => rw [hs] at h; cases h
    | some s2 =>
      obtain ⟨st2, d2⟩ := s2
      rw [hs] at h
      simp only at h
      have hc := stp_cnt hs
      have ih := run_endc r h
      show endc (x :: (l ++ r)) _ = _
      simp only [endc]
      rw [cnt_plus, ← hc, if_neg (by omega), ih]
      cases endc r ((st1.length : Int) + 1) with
      | none => rfl
      | some v => simp only [Option.map_some, List.length_cons, Nat.add_assoc]
/-- A list, wrapped: one item. -/
theorem endc_wrap {n : Nd} {l : List Nd} (ho : opensB n = true) (hc : chk l = 0) : endc (wrapL n l) 0 = some (l.length + 2) := by
  obtain ⟨_, d, hr, _⟩ := chk_run hc
  have h := run_endc [nz 6] hr
  have h1 : cnt n 0 = 1 := by unfold cnt; rw [if_pos ho]; rfl
  unfold wrapL
  simp only [endc]
  rw [h1, if_neg (by decide)]
  have h2 : ((([] : List Int).length : Int) + 1) = 1 := rfl
  rw [h2] at h
  rw [h]
  have h3 : endc [nz 6] 1 = some 1 := rfl
  rw [h3]
  simp only [Option.map_some]
  congr 1
  omega
theorem inner_wrap (n : Nd) (l : List Nd) : innerL (wrapL n l) 0 (l.length + 2) = l := by
  unfold innerL wrapL
  simp
theorem inn_chk {ns : List Nd} {y m : Nat} {x : Nd} (hc : chk ((ns.drop y).take m) = 0) (hm : endc (ns.drop y) 0 = some m) (hx : ns[y]? = some x) (ho : opensB x = true) (h10 : ¬ x.kind = 10) (hl : y + m ≤ ns.length) : chk (inn ns y m) = 0 := by
  have h2 := endc_two hx ho hm
  have hp : ((ns.drop y).take m)[0]? = some x := by
    rw [List.getElem?_take, if_pos (by omega), List.getElem?_drop]
    exact hx
  have h := (item_wrap hc (endc_just hm) (by rw [List.length_take, List.length_drop]; omega) hp h2 h10).2.2.2
  have e : (((ns.drop y).take m).drop 1).take (m - 2) = inn ns y m := by
    unfold inn
    rw [List.drop_take, List.take_take, List.drop_drop, Nat.min_eq_left (by omega)]
  rw [e] at h
  exact h
theorem partF_chk {ns : List Nd} (hl : ns.length ≤ 2000) : ∀ (ys : List Nat) (a : Nat) (s : List Nd × List Nd), Stand ns a ys → s.1.length ≤ a → s.2.length ≤ a → chk s.1 = 0 → chk s.2 = 0 → chk (partF ns ys s).1 = 0 ∧ chk (partF ns ys s).2 = 0
  | [], a, s, h, h1, h2, c1, c2 => ⟨c1, c2⟩
  | y :: ys, a, s, h, h1, h2, c1, c2 => by
    have hi := h.its
    obtain ⟨rfl, m0, hm0, _⟩ := hi
    have hb := endc_bd hm0
    rw [List.length_drop] at hb
    obtain ⟨m, zs, x, he, hm, hm1, ham, hst, hci, hx, h6, h11⟩ := h.step hl (by omega)
    injection he with _ he
    subst he
    rw [partF_cons]
    have hti : ((ns.drop y).take m).length = m := by rw [List.length_take, List.length_drop]; omega
    have hin : (inn ns y m).length ≤ m := by unfold inn; rw [List.length_take]; omega
    by_cases k1 : x.kind = 13 ∨ x.kind = 12
    · rw [pstep_out hx hm k1]
      exact partF_chk hl ys (y + m) _ hst (by show s.1.length ≤ _; omega) (by simp only [List.length_append]; omega) c1 (chk_join c2 hci (by omega))
    · by_cases k2 : x.kind = 17
      · rw [pstep_in hx hm k2]
        exact partF_chk hl ys (y + m) _ hst (by show s.1.length ≤ _; omega) (by simp only [List.length_append]; omega) c1 (chk_join c2 (inn_chk hci hm hx (by simp [opensB, k2]) (by omega) ham) (by omega))
      · rw [pstep_stay hx hm (by omega) (by omega) k2]
        exact partF_chk hl ys (y + m) _ hst (by simp only [List.length_append]; omega) (by show s.2.length ≤ _; omega) (chk_join c1 hci (by omega)) c2
theorem chk_nil : chk [] = 0 := rfl
theorem partD_chk {ns : List Nd} (hc : chk ns = 0) : chk (partD ns).1 = 0 ∧ chk (partD ns).2 = 0 :=
  partF_chk (chk_run hc).1 (itsD ns) 0 ([], []) (stand0 hc (itsD_is hc)) (by simp) (by simp) chk_nil chk_nil
end Go.Proofs.Ytoboecenlangmaa.Pk
end
section
namespace Go.Proofs.Ytoboecenlangmaa.Pk
open Np
set_option linter.unusedVariables false

/-- A Skip's glue. -/
def gOf (n : Nd) : Gl.G := ⟨n.gn, n.gs, n.gh, n.ga, n.gb⟩
/-- One item more: its glue, if it is a Skip. -/
def skstep (ns : List Nd) (s : List Gl.G) (a : Nat) : List Gl.G := match ns[a]? with
  | some x => if x.kind = 7 then s ++ [gOf x] else s
  | none => s
def skF (ns : List Nd) (xs : List Nat) (s : List Gl.G) : List Gl.G := xs.foldl (skstep ns) s
theorem skF_cons (ns : List Nd) (a : Nat) (xs : List Nat) (s : List Gl.G) : skF ns (a :: xs) s = skF ns xs (skstep ns s a) := rfl
theorem skstep_yes {ns : List Nd} {s : List Gl.G} {a : Nat} {x : Nd} (hx : ns[a]? = some x) (hk : x.kind = 7) : skstep ns s a = s ++ [gOf x] := by
  unfold skstep; rw [hx]; simp only; rw [if_pos hk]
theorem skstep_no {ns : List Nd} {s : List Gl.G} {a : Nat} {x : Nd} (hx : ns[a]? = some x) (hk : ¬ x.kind = 7) : skstep ns s a = s := by
  unfold skstep; rw [hx]; simp only; rw [if_neg hk]
theorem skF_acc (ns : List Nd) : ∀ (xs : List Nat) (s : List Gl.G), skF ns xs s = s ++ skF ns xs []
  | [], s => by simp [skF]
  | a :: xs, s => by
    rw [skF_cons, skF_cons, skF_acc ns xs (skstep ns s a), skF_acc ns xs (skstep ns [] a)]
    unfold skstep
    split
    · split
      · simp
      · simp
    · simp
theorem skF_len (ns : List Nd) : ∀ (xs : List Nat) (s : List Gl.G), (skF ns xs s).length ≤ s.length + xs.length
  | [], s => by simp [skF]
  | a :: xs, s => by
    rw [skF_cons]
    have h := skF_len ns xs (skstep ns s a)
    have h2 : (skstep ns s a).length ≤ s.length + 1 := by
      unfold skstep
      split
      · split
        · simp
        · omega
      · omega
    simp only [List.length_cons]
    omega
/-- How far a walk over the items has come: where the next one stands, the sizes that are left, the places so far. -/
structure Plc where
  x : Int
  sz : List Int
  out : List Int
def plstep (ns : List Nd) (f : Nat → Int) (s : Plc) (a : Nat) : Plc := match ns[a]? with
  | some n => if n.kind = 7 then ⟨s.x + s.sz.headD 0, s.sz.tail, s.out ++ [s.x]⟩ else ⟨s.x + f a, s.sz, s.out ++ [s.x]⟩
  | none => s
def plF (ns : List Nd) (f : Nat → Int) (xs : List Nat) (s : Plc) : Plc := xs.foldl (plstep ns f) s
theorem plF_cons (ns : List Nd) (f : Nat → Int) (a : Nat) (xs : List Nat) (s : Plc) : plF ns f (a :: xs) s = plF ns f xs (plstep ns f s a) := rfl
theorem plstep_yes {ns : List Nd} {f : Nat → Int} {s : Plc} {a : Nat} {x : Nd} (hx : ns[a]? = some x) (hk : x.kind = 7) : plstep ns f s a = ⟨s.x + s.sz.headD 0, s.sz.tail, s.out ++ [s.x]⟩ := by
  unfold plstep; rw [hx]; simp only; rw [if_pos hk]
theorem plstep_no {ns : List Nd} {f : Nat → Int} {s : Plc} {a : Nat} {x : Nd} (hx : ns[a]? = some x) (hk : ¬ x.kind = 7) : plstep ns f s a = ⟨s.x + f a, s.sz, s.out ++ [s.x]⟩ := by
  unfold plstep; rw [hx]; simp only; rw [if_neg hk]
/-- What holds ahead of the items ys, k of them behind: as many sizes are left as Skips come; nothing is too far. -/
structure PlIn (ns : List Nd) (f : Nat → Int) (s : Plc) (ys : List Nat) (k : Nat) : Prop where
  left : s.sz.length = (skF ns ys []).length
  bd : ∀ z ∈ s.sz, -281474976710656 ≤ z ∧ z ≤ 281474976710656
  x : -((k : Int) * 281474976710656) ≤ s.x ∧ s.x ≤ (k : Int) * 281474976710656
  out : s.out.length = k
theorem PlIn.skip {ns : List Nd} {f : Nat → Int} {s : Plc} {a : Nat} {ys : List Nat} {k : Nat} {x : Nd} (h : PlIn ns f s (a :: ys) k) (hx : ns[a]? = some x) (hk : x.kind = 7) :
    ∃ z r, s.sz = z :: r ∧ (-281474976710656 ≤ z ∧ z ≤ 281474976710656) ∧ plstep ns f s a = ⟨s.x + z, r, s.out ++ [s.x]⟩ ∧ PlIn ns f (plstep ns f s a) ys (k + 1) := by
  obtain ⟨h1, h2, h3, h4⟩ := h
  rw [skF_cons, skstep_yes hx hk, skF_acc] at h1
  simp only [List.nil_append, List.length_append, List.length_cons, List.length_nil] at h1
  cases hs : s.sz with
  | nil => rw [hs] at h1; simp at h1; omega
  | cons z r =>
    have hz := h2 z (by rw [hs]; simp)
    have e : plstep ns f s a = ⟨s.x + z, r, s.out ++ [s.x]⟩ := by rw [plstep_yes hx hk, hs]; rfl
    refine ⟨z, r, rfl, hz, e, ?_⟩
    rw [e]
    refine ⟨?_, fun y hy => h2 y (by rw [hs]; simp [hy]), ?_, by simp [h4]⟩
    · rw [hs] at h1; simp at h1; simp only; omega
    · simp only; push_cast; omega
theorem PlIn.other {ns : List Nd} {f : Nat → Int} {s : Plc} {a : Nat} {ys : List Nat} {k : Nat} {x : Nd} (h : PlIn ns f s (a :: ys) k) (hx : ns[a]? = some x) (hk : ¬ x.kind = 7) (hf : -281474976710656 ≤ f a ∧ f a ≤ 281474976710656) :
    plstep ns f s a = ⟨s.x + f a, s.sz, s.out ++ [s.x]⟩ ∧ PlIn ns f (plstep ns f s a) ys (k + 1) := by
  obtain ⟨h1, h2, h3, h4⟩ := h
  rw [skF_cons, skstep_no hx hk] at h1
  have e := plstep_no (f := f) (s := s) hx hk
  refine ⟨e, ?_⟩
  rw [e]
  exact ⟨h1, h2, by simp only; push_cast; omega, by simp [h4]⟩
theorem plF_out (ns : List Nd) (f : Nat → Int) : ∀ (ys : List Nat) (s : Plc), (plF ns f ys s).out.length ≤ s.out.length + ys.length
  | [], s => by simp [plF]
  | a :: ys, s => by
    rw [plF_cons]
    have h := plF_out ns f ys (plstep ns f s a)
    have h2 : (plstep ns f s a).out.length ≤ s.out.length + 1 := by
      unfold plstep
      split
      · split <;> simp
      · omega
    simp only [List.length_cons]
    omega
end Go.Proofs.Ytoboecenlangmaa.Pk
namespace Go.Proofs.Ytoboecenlangmaa.Gl
/-- Each size is within bounds. -/
theorem step_szb {sign order N D : Int} {z z' : Sz} {g : G} {k : Nat} (h : z.In k) (hb : ∀ y ∈ z.o, -281474976710656 ≤ y ∧ y ≤ 281474976710656) (hg : g.ok = true) (hs : step sign order N D z g = some z') : ∀ y ∈ z'.o, -281474976710656 ≤ y ∧ y ≤ 281474976710656 := by
  obtain ⟨h1, h2, h3, h4⟩ := h
  obtain ⟨⟨m0, m1⟩, ⟨s0, s1⟩, ⟨t0, t1⟩, _, _⟩ := glueB_iff.1 hg
  unfold step at hs
  split at hs
  · split at hs
    · simp only [Option.some.injEq] at hs
      subst hs
      intro y hy
      have hp := psV_bd (z.S + g.s) N D
      rcases List.mem_append.1 hy with hy | hy
      · exact hb y hy
      · simp only [List.mem_singleton] at hy
        subst hy
        omega
    · cases hs
  · split at hs
    · split at hs
      · simp only [Option.some.injEq] at hs
        subst hs
        intro y hy
        have hp := psV_bd (z.S + g.h) N D
        rcases List.mem_append.1 hy with hy | hy
        · exact hb y hy
        · simp only [List.mem_singleton] at hy
          subst hy
          omega
      · cases hs
    · simp only [Option.some.injEq] at hs
      subst hs
      intro y hy
      rcases List.mem_append.1 hy with hy | hy
      · exact hb y hy
      · simp only [List.mem_singleton] at hy
        subst hy
        omega
theorem szrun_in {sign order N D : Int} {l : List G} (hl : l.all G.ok = true) : ∀ (k : Nat), k ≤ l.length → ∀ z, run sign order N D (l.take k) = some z → z.In k ∧ ∀ y ∈ z.o, -281474976710656 ≤ y ∧ y ≤ 281474976710656
  | 0, _, z, h => by
    simp only [List.take_zero, run_nil, Option.some.injEq] at h
    subst h
    exact ⟨Sz.In.zero, by simp⟩
  | k + 1, hk, z, h => by
    obtain ⟨g, hg⟩ : ∃ g, l[k]? = some g := ⟨_, List.getElem?_eq_getElem (by omega)⟩
    have hgo : g.ok = true := List.all_eq_true.1 hl g (List.mem_of_getElem? hg)
    cases hr : run sign order N D (l.take k) with
    | none =>
      have h2 := h
      unfold run at h2 hr
      rw [List.take_add_one, hg, List.foldl_append, hr] at h2
      cases h2
    | some z0 =>
      obtain ⟨h1, h2⟩ := szrun_in hl k (by omega) z0 hr
      have h3 := run_snoc hg hr
      rw [h] at h3
      exact ⟨step_in h1 hgo h3.symm, step_szb h1 h2 hgo h3.symm⟩
/-- The sizes of a row that is set: one each, none too great. -/
theorem szL_in {l : List G} {sign order N D : Int} (h : szE l sign order N D = 0) : (szL l sign order N D).length = l.length ∧ ∀ y ∈ szL l sign order N D, -281474976710656 ≤ y ∧ y ≤ 281474976710656 := by
  obtain ⟨h1, h2, h3, z, hz⟩ := szE_zero h
  have hl := (rowE_zero h1).2
  have h4 := szrun_in hl l.length (Nat.le_refl _) z (by rw [List.take_length]; exact hz)
  rw [(szE_some h1 h2 h3 hz).2]
  exact ⟨h4.1.2.2.2, h4.2⟩
end Go.Proofs.Ytoboecenlangmaa.Gl
end
section
namespace Go.Proofs.Ytoboecenlangmaa.No
open Go.ChangeShapes Go.WideShapes Go.ChangeAt Go.RowKit
open Me Np
set_option linter.unusedVariables false
set_option linter.unusedSimpArgs false

theorem innerL_len (ns : List Nd) (a m : Nat) : (innerL ns a m).length ≤ ns.length := by
  unfold innerL
  simp only [List.length_take, List.length_drop]
  omega
theorem begB_at {ns : List Nd} {a : Int} (h : begB ns a = true) : ∃ (k : Nat) (x : Nd), a = (k : Int) ∧ ns[k]? = some x ∧ ¬ x.kind = 6 ∧ ¬ x.kind = 11 := by
  unfold begB at h
  simp only [Bool.and_eq_true, decide_eq_true_eq] at h
  obtain ⟨h0, h1⟩ := h
  split at h1
  · cases h1
  · rename_i x hx
    simp only [Bool.and_eq_true, bne_iff_ne, ne_eq] at h1
    exact ⟨a.toNat, x, by omega, hx, h1.1, h1.2⟩
theorem parts_err (A : Option Addr) (ns : List Nd) (c : Nat) (a : Int) (w : World) (hl : ns.length ≤ 9223372036854775806) (hseg : Seg w w.heap.size A (ns.flatMap ncs)) (hc : ¬ chk ns = 0) :
    Calls Try.prog 84 #[.slice A ns.length c, .int .i64 a] w fun e w' => e = .returned (.tuple #[.slice none 0 0, .slice none 0 0, .slice none 0 0, .int .i64 (chk ns)]) ∧ Below w.heap.size w w' := by
  have e0 : (chk ns != 0) = true := by simp [hc]
  have HC := Lib.hid (check_any A ns c w (by omega) hseg)
  have HX := Lib.hid hc
  clear hseg hc
  generalize chk ns = v at *
  generalize ns.length = len at *
  go_enter Try.func84, Try.ntmps84
  go_wp2_with fail
  refine HC.out.mono ?_
  rintro e w1 ⟨rfl, hb1⟩
  go_wp2_with fail
  go_returns
  exact ⟨rfl, hb1⟩
theorem parts_none (A : Option Addr) (ns : List Nd) (c : Nat) (a : Int) (w : World) (hl : ns.length ≤ 9223372036854775806) (hseg : Seg w w.heap.size A (ns.flatMap ncs)) (hc : chk ns = 0) (hb : begB ns a = false) :
    Calls Try.prog 84 #[.slice A ns.length c, .int .i64 a] w fun e w' => e = .returned (.tuple #[.slice none 0 0, .slice none 0 0, .slice none 0 0, .int .i64 3]) ∧ Below w.heap.size w w' := by
  have HC := Lib.hid (check_any A ns c w (by omega) hseg)
  have HB := Lib.hid hb
  have HE := Lib.hid hc
  have HBG := Lib.hid fun w1 (h : Below w.heap.size w w1) => begins_any A ns c a w1 (by omega) (Seg.belowW hseg h)
  clear hseg hc hb
  rw [HE.out] at HC
  rw [HB.out] at HBG
  generalize ns.length = len at *
  go_enter Try.func84, Try.ntmps84
  go_wp2_with fail
  refine HC.out.mono ?_
  rintro e w1 ⟨rfl, hb1⟩
  go_wp2_with fail
  refine (HBG.out w1 hb1).mono ?_
  rintro e w' ⟨rfl, rfl⟩
  go_wp2_with fail
  go_returns
  exact ⟨rfl, hb1⟩
theorem parts_other (A : Option Addr) (ns : List Nd) (c : Nat) (a : Nat) (x : Nd) (w : World) (hl : ns.length ≤ 9223372036854775806) (hseg : Seg w w.heap.size A (ns.flatMap ncs)) (hc : chk ns = 0) (hb : begB ns a = true) (hx : ns[a]? = some x) (h10 : ¬ x.kind = 10) :
    Calls Try.prog 84 #[.slice A ns.length c, .int .i64 (a : Int)] w fun e w' => e = .returned (.tuple #[.slice none 0 0, .slice none 0 0, .slice none 0 0, .int .i64 3]) ∧ Below w.heap.size w w' := by
  have HC := Lib.hid (check_any A ns c w (by omega) hseg)
  have HB := Lib.hid hb
  have HE := Lib.hid hc
  have HBG := Lib.hid fun w1 (h : Below w.heap.size w w1) => begins_any A ns c a w1 (by omega) (Seg.belowW hseg h)
  obtain ⟨b, off, rfl, hb', hnode⟩ := seg_node hseg hx
  have hal : a < ns.length := (List.getElem?_eq_some_iff.1 hx).1
  have HN := Lib.hid hnode
  have e10 : (x.kind != 10) = true := by simp [h10]
  clear hseg hc hb hx hnode
  rw [HE.out] at HC
  rw [HB.out] at HBG
  generalize ns.length = len at *
  go_enter Try.func84, Try.ntmps84
  go_wp2_with fail
  refine HC.out.mono ?_
  rintro e w1 ⟨rfl, hb1⟩
  have hc0 : w1.cell? ⟨b, off + a * 19, none⟩ = some (.int .i64 x.kind) := HN.out.below hb1 hb' 0 _ rfl
  go_wp2_with (first
    | (go_at_call 52; refine (HBG.out w1 hb1).mono ?_; rintro e w' ⟨rfl, rfl⟩))
  go_returns
  exact ⟨rfl, hb1⟩
set_option maxHeartbeats 1000000 in
set_option maxRecDepth 100000 in
theorem parts_ok (A : Option Addr) (ns : List Nd) (c : Nat) (a m : Nat) (x : Nd) (ss : List Nat) (w : World) (hcap : ns.length ≤ c) (hseg : Seg w w.heap.size A (ns.flatMap ncs)) (hc : chk ns = 0) (hb : begB ns a = true) (hx : ns[a]? = some x) (h10 : x.kind = 10) (hm : endc (ns.drop a) 0 = some m) (hd : D3 ss (ns.drop (a + 1)) 0 (m - 2)) (hm2 : 2 ≤ m) :
    Calls Try.prog 84 #[.slice A ns.length c, .int .i64 (a : Int)] w fun e w' => ∃ vs, e = .returned (.tuple #[vs 0, vs 1, vs 2, .int .i64 0]) ∧ Own3 w' w.heap.size vs (thr ss (ns.drop (a + 1)) 0) ∧ Below w.heap.size w w' := by
  have hl := (chk_run hc).1
  have HT := Lib.hid fun w1 (h : Below w.heap.size w w1) => three_any A ns c a m ss x w1 hc hcap (Seg.belowW hseg h) hx hm hd hm2
  have HC := Lib.hid (check_any A ns c w (by omega) hseg)
  have HB := Lib.hid hb
  have HE := Lib.hid hc
  have HBG := Lib.hid fun w1 (h : Below w.heap.size w w1) => begins_any A ns c a w1 (by omega) (Seg.belowW hseg h)
  obtain ⟨b, off, rfl, hb', hnode⟩ := seg_node hseg hx
  have hal : a < ns.length := (List.getElem?_eq_some_iff.1 hx).1
  have HN := Lib.hid hnode
  have e10 : (x.kind != 10) = false := by simp [h10]
  clear hseg hc hb hx hnode hm hd
  rw [HE.out] at HC
  rw [HB.out] at HBG
  generalize thr ss (ns.drop (a + 1)) 0 = F at HT ⊢
  generalize ns.length = len at *
  go_enter Try.func84, Try.ntmps84
  go_wp2_with fail
  refine HC.out.mono ?_
  rintro e w1 ⟨rfl, hb1⟩
  have hc0 : w1.cell? ⟨b, off + a * 19, none⟩ = some (.int .i64 x.kind) := HN.out.below hb1 hb' 0 _ rfl
  go_wp2_with (first
    | (go_at_call 52; refine (HBG.out w1 hb1).mono ?_; rintro e w' ⟨rfl, rfl⟩))
  refine (HT.out _ hb1).mono ?_
  rintro e w2 ⟨vs, rfl, ho, hb2⟩
  have HO := Lib.hid ho
  have HB2 := Lib.hid (andThen hb1 hb2)
  obtain ⟨A0, c0, h0⟩ := own_slice (ho.own 0 (by omega))
  obtain ⟨A1, c1, h1⟩ := own_slice (ho.own 1 (by omega))
  obtain ⟨A2, c2, h2⟩ := own_slice (ho.own 2 (by omega))
  have htc : tc3 vs = #[.slice A0 (F 0).length c0, .slice A1 (F 1).length c1, .slice A2 (F 2).length c2] := by unfold tc3; rw [h0, h1, h2]
  have HH := Lib.hid (And.intro h0 (And.intro h1 h2))
  have h31 := tc3_one vs ho
  have hsz3 : (Try.prog.info? 110).map (·.size) = some (tc3 vs).size := by rw [tc3_size]; exact three_info
  rw [htc] at h31 hsz3 ⊢
  have H31 := Lib.hid (And.intro h31 hsz3)
  clear ho hb2 HC HT HBG h0 h1 h2 htc h31 hsz3
  generalize (F 0).length = l0 at *
  generalize (F 1).length = l1 at *
  generalize (F 2).length = l2 at *
  go_wp2_with (first
    | (refine wpList_store_row (o := ⟨none, .store _ (.tmp 9) (.tmp 31), _, _, _, _⟩) rfl 110 _ _ rfl w2.heap.size #[.slice A0 l0 c0, .slice A1 l1 c1, .slice A2 l2 c2] rfl rfl 110 (tc3 fun _ => .slice none 0 0) (Blk.new' rfl) H31.out.2 rfl H31.out.1 ?_))
  go_simp
  have B3 : Blk (w2.alloc (.cells #[.slice A0 l0 c0, .slice A1 l1 c1, .slice A2 l2 c2] 110)) w2.heap.size 110 #[.slice A0 l0 c0, .slice A1 l1 c1, .slice A2 l2 c2] := Blk.new' rfl
  have HO3 := Lib.hid (HO.out.below (andAlloc (Below.refl _ _) (.cells #[.slice A0 l0 c0, .slice A1 l1 c1, .slice A2 l2 c2] 110)))
  have HB3 := Lib.hid (andAlloc HB2.out (.cells #[.slice A0 l0 c0, .slice A1 l1 c1, .slice A2 l2 c2] 110))
  have HS1 := Lib.hid hb1.size
  generalize w2.alloc (.cells #[.slice A0 l0 c0, .slice A1 l1 c1, .slice A2 l2 c2] 110) = w3 at B3 HO3 HB3 ⊢
  generalize w2.heap.size = g3 at *
  have hd0 : w3.cell? ⟨g3, 0, none⟩ = some (.slice A0 l0 c0) := B3.cell 0
  have hd1 : w3.cell? ⟨g3, 1, none⟩ = some (.slice A1 l1 c1) := B3.cell 1
  have hd2 : w3.cell? ⟨g3, 2, none⟩ = some (.slice A2 l2 c2) := B3.cell 2
  clear B3 HB2 HO hb1 hc0
  go_region
  all_goals
    go_wp2_with fail
    go_returns
    exact ⟨vs, by rw [HH.out.1, HH.out.2.1, HH.out.2.2], ⟨fun j hj => own_base ((HO3.out.below (below_drewN (Below.refl _ _) 1)).own j hj) HS1.out, HO3.out.dist⟩, below_drewN HB3.out 1⟩
end Go.Proofs.Ytoboecenlangmaa.No
end
section
namespace Go.Proofs.Ytoboecenlangmaa.Pk
open Go.ChangeShapes Go.WideShapes Go.ChangeAt Go.RowKit
open Me Np No
set_option linter.unusedVariables false
set_option linter.unusedSimpArgs false

/-- How long a node is that is neither a Disc nor a Skip. -/
def szP (n : Nd) (down : Bool) : Int := if n.kind = 7 then 0 else alongP n down

theorem size_kern_true (A : Option Addr) (ns : List Nd) (c k : Nat) (n : Nd) (w : World) (hl : ns.length ≤ 9223372036854775806) (hseg : Seg w w.heap.size A (ns.flatMap ncs)) (hk : ns[k]? = some n) (hn : n.kind = 8) :
    Calls Try.prog 51 #[.slice A ns.length c, .int .i64 (k : Int), .bool true] w fun e w' => e = .returned (.int .i64 (szP n true)) ∧ Below w.heap.size w w' := by
  obtain ⟨b, off, rfl, hb, hnode⟩ := seg_node hseg hk
  have hkl : k < ns.length := (List.getElem?_eq_some_iff.1 hk).1
  clear hseg hk
  have hv : szP n true = n.wd := by simp [szP, alongP, hn]
  have HV := Lib.hid hv
  clear hv
  generalize ns.length = len at *
  go_enter Try.func51, Try.ntmps51
  go_wp2_with (first | (refine wpList_load_node rfl _ rfl _ _ rfl _ (by repeat (first | apply NodeAt.row | (apply Blk.new'; first | rfl | (simp; done)) | (apply Blk.node; apply Blk.new'; first | rfl | (simp; done)) | assumption | apply NodeAt.alloc)) ?_) | (refine wpList_alloc_node rfl rfl ?_) | (refine wpList_store_node rfl _ _ rfl _ _ _ rfl rfl _ (by repeat (first | (apply Blk.new'; first | rfl | (simp; done)) | assumption | apply Blk.alloc)) ?_))
  (go_ret; exact ⟨ret_int (by rw [HV.out]), (by repeat (first | exact Below.refl _ _ | (refine below_setRow ?_ _ _ ?_; rotate_left; focus (simp; done)) | refine andAlloc ?_ _))⟩)

theorem size_b3_true (A : Option Addr) (ns : List Nd) (c k : Nat) (n : Nd) (w : World) (hl : ns.length ≤ 9223372036854775806) (hseg : Seg w w.heap.size A (ns.flatMap ncs)) (hk : ns[k]? = some n) (hn : n.kind = 3) (hr : right n = true) :
    Calls Try.prog 51 #[.slice A ns.length c, .int .i64 (k : Int), .bool true] w fun e w' => e = .returned (.int .i64 (szP n true)) ∧ Below w.heap.size w w' := by
  obtain ⟨b, off, rfl, hb, hnode⟩ := seg_node hseg hk
  have hkl : k < ns.length := (List.getElem?_eq_some_iff.1 hk).1
  clear hseg hk
  have hd := right_hd hr (by omega)
  unfold dm at hd
  obtain ⟨⟨d0, d1⟩, d2, d3⟩ := hd
  clear hr
  have hv : szP n true = n.ht + n.dp := by simp [szP, alongP, hn]
  have HV := Lib.hid hv
  clear hv
  generalize ns.length = len at *
  go_enter Try.func51, Try.ntmps51
  go_wp2_with (first | (refine wpList_load_node rfl _ rfl _ _ rfl _ (by repeat (first | apply NodeAt.row | (apply Blk.new'; first | rfl | (simp; done)) | (apply Blk.node; apply Blk.new'; first | rfl | (simp; done)) | assumption | apply NodeAt.alloc)) ?_) | (refine wpList_alloc_node rfl rfl ?_) | (refine wpList_store_node rfl _ _ rfl _ _ _ rfl rfl _ (by repeat (first | (apply Blk.new'; first | rfl | (simp; done)) | assumption | apply Blk.alloc)) ?_))
  (go_ret; exact ⟨ret_int (by rw [HV.out]), (by repeat (first | exact Below.refl _ _ | (refine below_setRow ?_ _ _ ?_; rotate_left; focus (simp; done)) | refine andAlloc ?_ _))⟩)

theorem size_b4_true (A : Option Addr) (ns : List Nd) (c k : Nat) (n : Nd) (w : World) (hl : ns.length ≤ 9223372036854775806) (hseg : Seg w w.heap.size A (ns.flatMap ncs)) (hk : ns[k]? = some n) (hn : n.kind = 4) (hr : right n = true) :
    Calls Try.prog 51 #[.slice A ns.length c, .int .i64 (k : Int), .bool true] w fun e w' => e = .returned (.int .i64 (szP n true)) ∧ Below w.heap.size w w' := by
  obtain ⟨b, off, rfl, hb, hnode⟩ := seg_node hseg hk
  have hkl : k < ns.length := (List.getElem?_eq_some_iff.1 hk).1
  clear hseg hk
  have hd := right_hd hr (by omega)
  unfold dm at hd
  obtain ⟨⟨d0, d1⟩, d2, d3⟩ := hd
  clear hr
  have hv : szP n true = n.ht + n.dp := by simp [szP, alongP, hn]
  have HV := Lib.hid hv
  clear hv
  generalize ns.length = len at *
  go_enter Try.func51, Try.ntmps51
  go_wp2_with (first | (refine wpList_load_node rfl _ rfl _ _ rfl _ (by repeat (first | apply NodeAt.row | (apply Blk.new'; first | rfl | (simp; done)) | (apply Blk.node; apply Blk.new'; first | rfl | (simp; done)) | assumption | apply NodeAt.alloc)) ?_) | (refine wpList_alloc_node rfl rfl ?_) | (refine wpList_store_node rfl _ _ rfl _ _ _ rfl rfl _ (by repeat (first | (apply Blk.new'; first | rfl | (simp; done)) | assumption | apply Blk.alloc)) ?_))
  (go_ret; exact ⟨ret_int (by rw [HV.out]), (by repeat (first | exact Below.refl _ _ | (refine below_setRow ?_ _ _ ?_; rotate_left; focus (simp; done)) | refine andAlloc ?_ _))⟩)

theorem size_b5_true (A : Option Addr) (ns : List Nd) (c k : Nat) (n : Nd) (w : World) (hl : ns.length ≤ 9223372036854775806) (hseg : Seg w w.heap.size A (ns.flatMap ncs)) (hk : ns[k]? = some n) (hn : n.kind = 5) (hr : right n = true) :
    Calls Try.prog 51 #[.slice A ns.length c, .int .i64 (k : Int), .bool true] w fun e w' => e = .returned (.int .i64 (szP n true)) ∧ Below w.heap.size w w' := by
  obtain ⟨b, off, rfl, hb, hnode⟩ := seg_node hseg hk
  have hkl : k < ns.length := (List.getElem?_eq_some_iff.1 hk).1
  clear hseg hk
  have hd := right_hd hr (by omega)
  unfold dm at hd
  obtain ⟨⟨d0, d1⟩, d2, d3⟩ := hd
  clear hr
  have hv : szP n true = n.ht + n.dp := by simp [szP, alongP, hn]
  have HV := Lib.hid hv
  clear hv
  generalize ns.length = len at *
  go_enter Try.func51, Try.ntmps51
  go_wp2_with (first | (refine wpList_load_node rfl _ rfl _ _ rfl _ (by repeat (first | apply NodeAt.row | (apply Blk.new'; first | rfl | (simp; done)) | (apply Blk.node; apply Blk.new'; first | rfl | (simp; done)) | assumption | apply NodeAt.alloc)) ?_) | (refine wpList_alloc_node rfl rfl ?_) | (refine wpList_store_node rfl _ _ rfl _ _ _ rfl rfl _ (by repeat (first | (apply Blk.new'; first | rfl | (simp; done)) | assumption | apply Blk.alloc)) ?_))
  (go_ret; exact ⟨ret_int (by rw [HV.out]), (by repeat (first | exact Below.refl _ _ | (refine below_setRow ?_ _ _ ?_; rotate_left; focus (simp; done)) | refine andAlloc ?_ _))⟩)

theorem size_b1_true (A : Option Addr) (ns : List Nd) (c k : Nat) (n : Nd) (w : World) (hl : ns.length ≤ 9223372036854775806) (hseg : Seg w w.heap.size A (ns.flatMap ncs)) (hk : ns[k]? = some n) (hn : n.kind = 1) :
    Calls Try.prog 51 #[.slice A ns.length c, .int .i64 (k : Int), .bool true] w fun e w' => e = .returned (.int .i64 (szP n true)) ∧ Below w.heap.size w w' := by
  obtain ⟨b, off, rfl, hb, hnode⟩ := seg_node hseg hk
  have hkl : k < ns.length := (List.getElem?_eq_some_iff.1 hk).1
  clear hseg hk
  have hv : szP n true = 0 := by simp [szP, alongP, hn]
  have HV := Lib.hid hv
  clear hv
  generalize ns.length = len at *
  go_enter Try.func51, Try.ntmps51
  go_wp2_with (first | (refine wpList_load_node rfl _ rfl _ _ rfl _ (by repeat (first | apply NodeAt.row | (apply Blk.new'; first | rfl | (simp; done)) | (apply Blk.node; apply Blk.new'; first | rfl | (simp; done)) | assumption | apply NodeAt.alloc)) ?_) | (refine wpList_alloc_node rfl rfl ?_) | (refine wpList_store_node rfl _ _ rfl _ _ _ rfl rfl _ (by repeat (first | (apply Blk.new'; first | rfl | (simp; done)) | assumption | apply Blk.alloc)) ?_))
  (go_ret; exact ⟨ret_int (by rw [HV.out]), (by repeat (first | exact Below.refl _ _ | (refine below_setRow ?_ _ _ ?_; rotate_left; focus (simp; done)) | refine andAlloc ?_ _))⟩)

theorem size_b2_true (A : Option Addr) (ns : List Nd) (c k : Nat) (n : Nd) (w : World) (hl : ns.length ≤ 9223372036854775806) (hseg : Seg w w.heap.size A (ns.flatMap ncs)) (hk : ns[k]? = some n) (hn : n.kind = 2) :
    Calls Try.prog 51 #[.slice A ns.length c, .int .i64 (k : Int), .bool true] w fun e w' => e = .returned (.int .i64 (szP n true)) ∧ Below w.heap.size w w' := by
  obtain ⟨b, off, rfl, hb, hnode⟩ := seg_node hseg hk
  have hkl : k < ns.length := (List.getElem?_eq_some_iff.1 hk).1
  clear hseg hk
  have hv : szP n true = 0 := by simp [szP, alongP, hn]
  have HV := Lib.hid hv
  clear hv
  generalize ns.length = len at *
  go_enter Try.func51, Try.ntmps51
  go_wp2_with (first | (refine wpList_load_node rfl _ rfl _ _ rfl _ (by repeat (first | apply NodeAt.row | (apply Blk.new'; first | rfl | (simp; done)) | (apply Blk.node; apply Blk.new'; first | rfl | (simp; done)) | assumption | apply NodeAt.alloc)) ?_) | (refine wpList_alloc_node rfl rfl ?_) | (refine wpList_store_node rfl _ _ rfl _ _ _ rfl rfl _ (by repeat (first | (apply Blk.new'; first | rfl | (simp; done)) | assumption | apply Blk.alloc)) ?_))
  (go_ret; exact ⟨ret_int (by rw [HV.out]), (by repeat (first | exact Below.refl _ _ | (refine below_setRow ?_ _ _ ?_; rotate_left; focus (simp; done)) | refine andAlloc ?_ _))⟩)

theorem size_b15_true (A : Option Addr) (ns : List Nd) (c k : Nat) (n : Nd) (w : World) (hl : ns.length ≤ 9223372036854775806) (hseg : Seg w w.heap.size A (ns.flatMap ncs)) (hk : ns[k]? = some n) (hn : n.kind = 15) :
    Calls Try.prog 51 #[.slice A ns.length c, .int .i64 (k : Int), .bool true] w fun e w' => e = .returned (.int .i64 (szP n true)) ∧ Below w.heap.size w w' := by
  obtain ⟨b, off, rfl, hb, hnode⟩ := seg_node hseg hk
  have hkl : k < ns.length := (List.getElem?_eq_some_iff.1 hk).1
  clear hseg hk
  have hv : szP n true = 0 := by simp [szP, alongP, hn]
  have HV := Lib.hid hv
  clear hv
  generalize ns.length = len at *
  go_enter Try.func51, Try.ntmps51
  go_wp2_with (first | (refine wpList_load_node rfl _ rfl _ _ rfl _ (by repeat (first | apply NodeAt.row | (apply Blk.new'; first | rfl | (simp; done)) | (apply Blk.node; apply Blk.new'; first | rfl | (simp; done)) | assumption | apply NodeAt.alloc)) ?_) | (refine wpList_alloc_node rfl rfl ?_) | (refine wpList_store_node rfl _ _ rfl _ _ _ rfl rfl _ (by repeat (first | (apply Blk.new'; first | rfl | (simp; done)) | assumption | apply Blk.alloc)) ?_))
  (go_ret; exact ⟨ret_int (by rw [HV.out]), (by repeat (first | exact Below.refl _ _ | (refine below_setRow ?_ _ _ ?_; rotate_left; focus (simp; done)) | refine andAlloc ?_ _))⟩)

theorem size_b16_true (A : Option Addr) (ns : List Nd) (c k : Nat) (n : Nd) (w : World) (hl : ns.length ≤ 9223372036854775806) (hseg : Seg w w.heap.size A (ns.flatMap ncs)) (hk : ns[k]? = some n) (hn : n.kind = 16) :
    Calls Try.prog 51 #[.slice A ns.length c, .int .i64 (k : Int), .bool true] w fun e w' => e = .returned (.int .i64 (szP n true)) ∧ Below w.heap.size w w' := by
  obtain ⟨b, off, rfl, hb, hnode⟩ := seg_node hseg hk
  have hkl : k < ns.length := (List.getElem?_eq_some_iff.1 hk).1
  clear hseg hk
  have hv : szP n true = 0 := by simp [szP, alongP, hn]
  have HV := Lib.hid hv
  clear hv
  generalize ns.length = len at *
  go_enter Try.func51, Try.ntmps51
  go_wp2_with (first | (refine wpList_load_node rfl _ rfl _ _ rfl _ (by repeat (first | apply NodeAt.row | (apply Blk.new'; first | rfl | (simp; done)) | (apply Blk.node; apply Blk.new'; first | rfl | (simp; done)) | assumption | apply NodeAt.alloc)) ?_) | (refine wpList_alloc_node rfl rfl ?_) | (refine wpList_store_node rfl _ _ rfl _ _ _ rfl rfl _ (by repeat (first | (apply Blk.new'; first | rfl | (simp; done)) | assumption | apply Blk.alloc)) ?_))
  (go_ret; exact ⟨ret_int (by rw [HV.out]), (by repeat (first | exact Below.refl _ _ | (refine below_setRow ?_ _ _ ?_; rotate_left; focus (simp; done)) | refine andAlloc ?_ _))⟩)

theorem size_disc_true (A : Option Addr) (ns : List Nd) (c k : Nat) (n : Nd) (w : World) (hl : ns.length ≤ 9223372036854775806) (hseg : Seg w w.heap.size A (ns.flatMap ncs)) (hk : ns[k]? = some n) (hn : n.kind = 10) :
    Calls Try.prog 51 #[.slice A ns.length c, .int .i64 (k : Int), .bool true] w fun e w' => e = .returned (.int .i64 (szP n true)) ∧ Below w.heap.size w w' := by
  obtain ⟨b, off, rfl, hb, hnode⟩ := seg_node hseg hk
  have hkl : k < ns.length := (List.getElem?_eq_some_iff.1 hk).1
  clear hseg hk
  have hv : szP n true = 0 := by simp [szP, alongP, hn]
  have HV := Lib.hid hv
  clear hv
  generalize ns.length = len at *
  go_enter Try.func51, Try.ntmps51
  go_wp2_with (first | (refine wpList_load_node rfl _ rfl _ _ rfl _ (by repeat (first | apply NodeAt.row | (apply Blk.new'; first | rfl | (simp; done)) | (apply Blk.node; apply Blk.new'; first | rfl | (simp; done)) | assumption | apply NodeAt.alloc)) ?_) | (refine wpList_alloc_node rfl rfl ?_) | (refine wpList_store_node rfl _ _ rfl _ _ _ rfl rfl _ (by repeat (first | (apply Blk.new'; first | rfl | (simp; done)) | assumption | apply Blk.alloc)) ?_))
  (go_ret; exact ⟨ret_int (by rw [HV.out]), (by repeat (first | exact Below.refl _ _ | (refine below_setRow ?_ _ _ ?_; rotate_left; focus (simp; done)) | refine andAlloc ?_ _))⟩)

theorem size_other_true (A : Option Addr) (ns : List Nd) (c k : Nat) (n : Nd) (w : World) (hl : ns.length ≤ 9223372036854775806) (hseg : Seg w w.heap.size A (ns.flatMap ncs)) (hk : ns[k]? = some n) (h8 : ¬ n.kind = 8) (h3 : ¬ n.kind = 3) (h4 : ¬ n.kind = 4) (h5 : ¬ n.kind = 5) (h1 : ¬ n.kind = 1) (h2 : ¬ n.kind = 2) (h15 : ¬ n.kind = 15) (h16 : ¬ n.kind = 16) (h10 : ¬ n.kind = 10) :
    Calls Try.prog 51 #[.slice A ns.length c, .int .i64 (k : Int), .bool true] w fun e w' => e = .returned (.int .i64 (szP n true)) ∧ Below w.heap.size w w' := by
  obtain ⟨b, off, rfl, hb, hnode⟩ := seg_node hseg hk
  have hkl : k < ns.length := (List.getElem?_eq_some_iff.1 hk).1
  clear hseg hk
  have hv : szP n true = 0 := by
    unfold szP
    split
    · rfl
    · rename_i h7
      simp [alongP, h7, h8, h3, h4, h5, h1, h2, h15, h16]
  have HV := Lib.hid hv
  clear hv
  have e8 : (n.kind == 8) = false := by simp [h8]
  have e3 : (n.kind == 3) = false := by simp [h3]
  have e4 : (n.kind == 4) = false := by simp [h4]
  have e5 : (n.kind == 5) = false := by simp [h5]
  have e1 : (n.kind == 1) = false := by simp [h1]
  have e2 : (n.kind == 2) = false := by simp [h2]
  have e15 : (n.kind == 15) = false := by simp [h15]
  have e16 : (n.kind == 16) = false := by simp [h16]
  have e10 : (n.kind == 10) = false := by simp [h10]
  clear h8 h3 h4 h5 h1 h2 h15 h16 h10
  generalize ns.length = len at *
  go_enter Try.func51, Try.ntmps51
  go_wp2_with (first | (refine wpList_load_node rfl _ rfl _ _ rfl _ (by repeat (first | apply NodeAt.row | (apply Blk.new'; first | rfl | (simp; done)) | (apply Blk.node; apply Blk.new'; first | rfl | (simp; done)) | assumption | apply NodeAt.alloc)) ?_) | (refine wpList_alloc_node rfl rfl ?_) | (refine wpList_store_node rfl _ _ rfl _ _ _ rfl rfl _ (by repeat (first | (apply Blk.new'; first | rfl | (simp; done)) | assumption | apply Blk.alloc)) ?_))
  (go_ret; exact ⟨ret_int (by rw [HV.out]), (by repeat (first | exact Below.refl _ _ | (refine below_setRow ?_ _ _ ?_; rotate_left; focus (simp; done)) | refine andAlloc ?_ _))⟩)

theorem size_kern_false (A : Option Addr) (ns : List Nd) (c k : Nat) (n : Nd) (w : World) (hl : ns.length ≤ 9223372036854775806) (hseg : Seg w w.heap.size A (ns.flatMap ncs)) (hk : ns[k]? = some n) (hn : n.kind = 8) :
    Calls Try.prog 51 #[.slice A ns.length c, .int .i64 (k : Int), .bool false] w fun e w' => e = .returned (.int .i64 (szP n false)) ∧ Below w.heap.size w w' := by
  obtain ⟨b, off, rfl, hb, hnode⟩ := seg_node hseg hk
  have hkl : k < ns.length := (List.getElem?_eq_some_iff.1 hk).1
  clear hseg hk
  have hv : szP n false = n.wd := by simp [szP, alongP, hn]
  have HV := Lib.hid hv
  clear hv
  generalize ns.length = len at *
  go_enter Try.func51, Try.ntmps51
  go_wp2_with (first | (refine wpList_load_node rfl _ rfl _ _ rfl _ (by repeat (first | apply NodeAt.row | (apply Blk.new'; first | rfl | (simp; done)) | (apply Blk.node; apply Blk.new'; first | rfl | (simp; done)) | assumption | apply NodeAt.alloc)) ?_) | (refine wpList_alloc_node rfl rfl ?_) | (refine wpList_store_node rfl _ _ rfl _ _ _ rfl rfl _ (by repeat (first | (apply Blk.new'; first | rfl | (simp; done)) | assumption | apply Blk.alloc)) ?_))
  (go_ret; exact ⟨ret_int (by rw [HV.out]), (by repeat (first | exact Below.refl _ _ | (refine below_setRow ?_ _ _ ?_; rotate_left; focus (simp; done)) | refine andAlloc ?_ _))⟩)

theorem size_b3_false (A : Option Addr) (ns : List Nd) (c k : Nat) (n : Nd) (w : World) (hl : ns.length ≤ 9223372036854775806) (hseg : Seg w w.heap.size A (ns.flatMap ncs)) (hk : ns[k]? = some n) (hn : n.kind = 3) (hr : right n = true) :
    Calls Try.prog 51 #[.slice A ns.length c, .int .i64 (k : Int), .bool false] w fun e w' => e = .returned (.int .i64 (szP n false)) ∧ Below w.heap.size w w' := by
  obtain ⟨b, off, rfl, hb, hnode⟩ := seg_node hseg hk
  have hkl : k < ns.length := (List.getElem?_eq_some_iff.1 hk).1
  clear hseg hk
  have hd := right_hd hr (by omega)
  unfold dm at hd
  obtain ⟨⟨d0, d1⟩, d2, d3⟩ := hd
  clear hr
  have hv : szP n false = n.wd := by simp [szP, alongP, hn]
  have HV := Lib.hid hv
  clear hv
  generalize ns.length = len at *
  go_enter Try.func51, Try.ntmps51
  go_wp2_with (first | (refine wpList_load_node rfl _ rfl _ _ rfl _ (by repeat (first | apply NodeAt.row | (apply Blk.new'; first | rfl | (simp; done)) | (apply Blk.node; apply Blk.new'; first | rfl | (simp; done)) | assumption | apply NodeAt.alloc)) ?_) | (refine wpList_alloc_node rfl rfl ?_) | (refine wpList_store_node rfl _ _ rfl _ _ _ rfl rfl _ (by repeat (first | (apply Blk.new'; first | rfl | (simp; done)) | assumption | apply Blk.alloc)) ?_))
  (go_ret; exact ⟨ret_int (by rw [HV.out]), (by repeat (first | exact Below.refl _ _ | (refine below_setRow ?_ _ _ ?_; rotate_left; focus (simp; done)) | refine andAlloc ?_ _))⟩)

theorem size_b4_false (A : Option Addr) (ns : List Nd) (c k : Nat) (n : Nd) (w : World) (hl : ns.length ≤ 9223372036854775806) (hseg : Seg w w.heap.size A (ns.flatMap ncs)) (hk : ns[k]? = some n) (hn : n.kind = 4) (hr : right n = true) :
    Calls Try.prog 51 #[.slice A ns.length c, .int .i64 (k : Int), .bool false] w fun e w' => e = .returned (.int .i64 (szP n false)) ∧ Below w.heap.size w w' := by
  obtain ⟨b, off, rfl, hb, hnode⟩ := seg_node hseg hk
  have hkl : k < ns.length := (List.getElem?_eq_some_iff.1 hk).1
  clear hseg hk
  have hd := right_hd hr (by omega)
  unfold dm at hd
  obtain ⟨⟨d0, d1⟩, d2, d3⟩ := hd
  clear hr
  have hv : szP n false = n.wd := by simp [szP, alongP, hn]
  have HV := Lib.hid hv
  clear hv
  generalize ns.length = len at *
  go_enter Try.func51, Try.ntmps51
  go_wp2_with (first | (refine wpList_load_node rfl _ rfl _ _ rfl _ (by repeat (first | apply NodeAt.row | (apply Blk.new'; first | rfl | (simp; done)) | (apply Blk.node; apply Blk.new'; first | rfl | (simp; done)) | assumption | apply NodeAt.alloc)) ?_) | (refine wpList_alloc_node rfl rfl ?_) | (refine wpList_store_node rfl _ _ rfl _ _ _ rfl rfl _ (by repeat (first | (apply Blk.new'; first | rfl | (simp; done)) | assumption | apply Blk.alloc)) ?_))
  (go_ret; exact ⟨ret_int (by rw [HV.out]), (by repeat (first | exact Below.refl _ _ | (refine below_setRow ?_ _ _ ?_; rotate_left; focus (simp; done)) | refine andAlloc ?_ _))⟩)

theorem size_b5_false (A : Option Addr) (ns : List Nd) (c k : Nat) (n : Nd) (w : World) (hl : ns.length ≤ 9223372036854775806) (hseg : Seg w w.heap.size A (ns.flatMap ncs)) (hk : ns[k]? = some n) (hn : n.kind = 5) (hr : right n = true) :
    Calls Try.prog 51 #[.slice A ns.length c, .int .i64 (k : Int), .bool false] w fun e w' => e = .returned (.int .i64 (szP n false)) ∧ Below w.heap.size w w' := by
  obtain ⟨b, off, rfl, hb, hnode⟩ := seg_node hseg hk
  have hkl : k < ns.length := (List.getElem?_eq_some_iff.1 hk).1
  clear hseg hk
  have hd := right_hd hr (by omega)
  unfold dm at hd
  obtain ⟨⟨d0, d1⟩, d2, d3⟩ := hd
  clear hr
  have hv : szP n false = n.wd := by simp [szP, alongP, hn]
  have HV := Lib.hid hv
  clear hv
  generalize ns.length = len at *
  go_enter Try.func51, Try.ntmps51
  go_wp2_with (first | (refine wpList_load_node rfl _ rfl _ _ rfl _ (by repeat (first | apply NodeAt.row | (apply Blk.new'; first | rfl | (simp; done)) | (apply Blk.node; apply Blk.new'; first | rfl | (simp; done)) | assumption | apply NodeAt.alloc)) ?_) | (refine wpList_alloc_node rfl rfl ?_) | (refine wpList_store_node rfl _ _ rfl _ _ _ rfl rfl _ (by repeat (first | (apply Blk.new'; first | rfl | (simp; done)) | assumption | apply Blk.alloc)) ?_))
  (go_ret; exact ⟨ret_int (by rw [HV.out]), (by repeat (first | exact Below.refl _ _ | (refine below_setRow ?_ _ _ ?_; rotate_left; focus (simp; done)) | refine andAlloc ?_ _))⟩)

theorem size_b1_false (A : Option Addr) (ns : List Nd) (c k : Nat) (n : Nd) (w : World) (hl : ns.length ≤ 9223372036854775806) (hseg : Seg w w.heap.size A (ns.flatMap ncs)) (hk : ns[k]? = some n) (hn : n.kind = 1) :
    Calls Try.prog 51 #[.slice A ns.length c, .int .i64 (k : Int), .bool false] w fun e w' => e = .returned (.int .i64 (szP n false)) ∧ Below w.heap.size w w' := by
  obtain ⟨b, off, rfl, hb, hnode⟩ := seg_node hseg hk
  have hkl : k < ns.length := (List.getElem?_eq_some_iff.1 hk).1
  clear hseg hk
  have hv : szP n false = n.wd := by simp [szP, alongP, hn]
  have HV := Lib.hid hv
  clear hv
  generalize ns.length = len at *
  go_enter Try.func51, Try.ntmps51
  go_wp2_with (first | (refine wpList_load_node rfl _ rfl _ _ rfl _ (by repeat (first | apply NodeAt.row | (apply Blk.new'; first | rfl | (simp; done)) | (apply Blk.node; apply Blk.new'; first | rfl | (simp; done)) | assumption | apply NodeAt.alloc)) ?_) | (refine wpList_alloc_node rfl rfl ?_) | (refine wpList_store_node rfl _ _ rfl _ _ _ rfl rfl _ (by repeat (first | (apply Blk.new'; first | rfl | (simp; done)) | assumption | apply Blk.alloc)) ?_))
  (go_ret; exact ⟨ret_int (by rw [HV.out]), (by repeat (first | exact Below.refl _ _ | (refine below_setRow ?_ _ _ ?_; rotate_left; focus (simp; done)) | refine andAlloc ?_ _))⟩)

theorem size_b2_false (A : Option Addr) (ns : List Nd) (c k : Nat) (n : Nd) (w : World) (hl : ns.length ≤ 9223372036854775806) (hseg : Seg w w.heap.size A (ns.flatMap ncs)) (hk : ns[k]? = some n) (hn : n.kind = 2) :
    Calls Try.prog 51 #[.slice A ns.length c, .int .i64 (k : Int), .bool false] w fun e w' => e = .returned (.int .i64 (szP n false)) ∧ Below w.heap.size w w' := by
  obtain ⟨b, off, rfl, hb, hnode⟩ := seg_node hseg hk
  have hkl : k < ns.length := (List.getElem?_eq_some_iff.1 hk).1
  clear hseg hk
  have hv : szP n false = n.wd := by simp [szP, alongP, hn]
  have HV := Lib.hid hv
  clear hv
  generalize ns.length = len at *
  go_enter Try.func51, Try.ntmps51
  go_wp2_with (first | (refine wpList_load_node rfl _ rfl _ _ rfl _ (by repeat (first | apply NodeAt.row | (apply Blk.new'; first | rfl | (simp; done)) | (apply Blk.node; apply Blk.new'; first | rfl | (simp; done)) | assumption | apply NodeAt.alloc)) ?_) | (refine wpList_alloc_node rfl rfl ?_) | (refine wpList_store_node rfl _ _ rfl _ _ _ rfl rfl _ (by repeat (first | (apply Blk.new'; first | rfl | (simp; done)) | assumption | apply Blk.alloc)) ?_))
  (go_ret; exact ⟨ret_int (by rw [HV.out]), (by repeat (first | exact Below.refl _ _ | (refine below_setRow ?_ _ _ ?_; rotate_left; focus (simp; done)) | refine andAlloc ?_ _))⟩)

theorem size_b15_false (A : Option Addr) (ns : List Nd) (c k : Nat) (n : Nd) (w : World) (hl : ns.length ≤ 9223372036854775806) (hseg : Seg w w.heap.size A (ns.flatMap ncs)) (hk : ns[k]? = some n) (hn : n.kind = 15) :
    Calls Try.prog 51 #[.slice A ns.length c, .int .i64 (k : Int), .bool false] w fun e w' => e = .returned (.int .i64 (szP n false)) ∧ Below w.heap.size w w' := by
  obtain ⟨b, off, rfl, hb, hnode⟩ := seg_node hseg hk
  have hkl : k < ns.length := (List.getElem?_eq_some_iff.1 hk).1
  clear hseg hk
  have hv : szP n false = n.wd := by simp [szP, alongP, hn]
  have HV := Lib.hid hv
  clear hv
  generalize ns.length = len at *
  go_enter Try.func51, Try.ntmps51
  go_wp2_with (first | (refine wpList_load_node rfl _ rfl _ _ rfl _ (by repeat (first | apply NodeAt.row | (apply Blk.new'; first | rfl | (simp; done)) | (apply Blk.node; apply Blk.new'; first | rfl | (simp; done)) | assumption | apply NodeAt.alloc)) ?_) | (refine wpList_alloc_node rfl rfl ?_) | (refine wpList_store_node rfl _ _ rfl _ _ _ rfl rfl _ (by repeat (first | (apply Blk.new'; first | rfl | (simp; done)) | assumption | apply Blk.alloc)) ?_))
  (go_ret; exact ⟨ret_int (by rw [HV.out]), (by repeat (first | exact Below.refl _ _ | (refine below_setRow ?_ _ _ ?_; rotate_left; focus (simp; done)) | refine andAlloc ?_ _))⟩)

theorem size_b16_false (A : Option Addr) (ns : List Nd) (c k : Nat) (n : Nd) (w : World) (hl : ns.length ≤ 9223372036854775806) (hseg : Seg w w.heap.size A (ns.flatMap ncs)) (hk : ns[k]? = some n) (hn : n.kind = 16) :
    Calls Try.prog 51 #[.slice A ns.length c, .int .i64 (k : Int), .bool false] w fun e w' => e = .returned (.int .i64 (szP n false)) ∧ Below w.heap.size w w' := by
  obtain ⟨b, off, rfl, hb, hnode⟩ := seg_node hseg hk
  have hkl : k < ns.length := (List.getElem?_eq_some_iff.1 hk).1
  clear hseg hk
  have hv : szP n false = n.wd := by simp [szP, alongP, hn]
  have HV := Lib.hid hv
  clear hv
  generalize ns.length = len at *
  go_enter Try.func51, Try.ntmps51
  go_wp2_with (first | (refine wpList_load_node rfl _ rfl _ _ rfl _ (by repeat (first | apply NodeAt.row | (apply Blk.new'; first | rfl | (simp; done)) | (apply Blk.node; apply Blk.new'; first | rfl | (simp; done)) | assumption | apply NodeAt.alloc)) ?_) | (refine wpList_alloc_node rfl rfl ?_) | (refine wpList_store_node rfl _ _ rfl _ _ _ rfl rfl _ (by repeat (first | (apply Blk.new'; first | rfl | (simp; done)) | assumption | apply Blk.alloc)) ?_))
  (go_ret; exact ⟨ret_int (by rw [HV.out]), (by repeat (first | exact Below.refl _ _ | (refine below_setRow ?_ _ _ ?_; rotate_left; focus (simp; done)) | refine andAlloc ?_ _))⟩)

theorem size_other_false (A : Option Addr) (ns : List Nd) (c k : Nat) (n : Nd) (w : World) (hl : ns.length ≤ 9223372036854775806) (hseg : Seg w w.heap.size A (ns.flatMap ncs)) (hk : ns[k]? = some n) (h8 : ¬ n.kind = 8) (h3 : ¬ n.kind = 3) (h4 : ¬ n.kind = 4) (h5 : ¬ n.kind = 5) (h1 : ¬ n.kind = 1) (h2 : ¬ n.kind = 2) (h15 : ¬ n.kind = 15) (h16 : ¬ n.kind = 16) (h10 : ¬ n.kind = 10) :
    Calls Try.prog 51 #[.slice A ns.length c, .int .i64 (k : Int), .bool false] w fun e w' => e = .returned (.int .i64 (szP n false)) ∧ Below w.heap.size w w' := by
  obtain ⟨b, off, rfl, hb, hnode⟩ := seg_node hseg hk
  have hkl : k < ns.length := (List.getElem?_eq_some_iff.1 hk).1
  clear hseg hk
  have hv : szP n false = 0 := by
    unfold szP
    split
    · rfl
    · rename_i h7
      simp [alongP, h7, h8, h3, h4, h5, h1, h2, h15, h16]
  have HV := Lib.hid hv
  clear hv
  have e8 : (n.kind == 8) = false := by simp [h8]
  have e3 : (n.kind == 3) = false := by simp [h3]
  have e4 : (n.kind == 4) = false := by simp [h4]
  have e5 : (n.kind == 5) = false := by simp [h5]
  have e1 : (n.kind == 1) = false := by simp [h1]
  have e2 : (n.kind == 2) = false := by simp [h2]
  have e15 : (n.kind == 15) = false := by simp [h15]
  have e16 : (n.kind == 16) = false := by simp [h16]
  have e10 : (n.kind == 10) = false := by simp [h10]
  clear h8 h3 h4 h5 h1 h2 h15 h16 h10
  generalize ns.length = len at *
  go_enter Try.func51, Try.ntmps51
  go_wp2_with (first | (refine wpList_load_node rfl _ rfl _ _ rfl _ (by repeat (first | apply NodeAt.row | (apply Blk.new'; first | rfl | (simp; done)) | (apply Blk.node; apply Blk.new'; first | rfl | (simp; done)) | assumption | apply NodeAt.alloc)) ?_) | (refine wpList_alloc_node rfl rfl ?_) | (refine wpList_store_node rfl _ _ rfl _ _ _ rfl rfl _ (by repeat (first | (apply Blk.new'; first | rfl | (simp; done)) | assumption | apply Blk.alloc)) ?_))
  (go_ret; exact ⟨ret_int (by rw [HV.out]), (by repeat (first | exact Below.refl _ _ | (refine below_setRow ?_ _ _ ?_; rotate_left; focus (simp; done)) | refine andAlloc ?_ _))⟩)

theorem size_any (A : Option Addr) (ns : List Nd) (c k : Nat) (n : Nd) (down : Bool) (w : World) (hl : ns.length ≤ 9223372036854775806) (hseg : Seg w w.heap.size A (ns.flatMap ncs)) (hk : ns[k]? = some n) (hr : right n = true) (hd : down = true ∨ ¬ n.kind = 10) :
    Calls Try.prog 51 #[.slice A ns.length c, .int .i64 (k : Int), .bool down] w fun e w' => e = .returned (.int .i64 (szP n down)) ∧ Below w.heap.size w w' := by
  cases down
  · have hd : ¬ n.kind = 10 := by
      rcases hd with h | h
      · cases h
      · exact h
    by_cases h8 : n.kind = 8
    · exact size_kern_false A ns c k n w hl hseg hk h8
    by_cases h3 : n.kind = 3
    · exact size_b3_false A ns c k n w hl hseg hk h3 hr
    by_cases h4 : n.kind = 4
    · exact size_b4_false A ns c k n w hl hseg hk h4 hr
    by_cases h5 : n.kind = 5
    · exact size_b5_false A ns c k n w hl hseg hk h5 hr
    by_cases h1 : n.kind = 1
    · exact size_b1_false A ns c k n w hl hseg hk h1
    by_cases h2 : n.kind = 2
    · exact size_b2_false A ns c k n w hl hseg hk h2
    by_cases h15 : n.kind = 15
    · exact size_b15_false A ns c k n w hl hseg hk h15
    by_cases h16 : n.kind = 16
    · exact size_b16_false A ns c k n w hl hseg hk h16
    exact size_other_false A ns c k n w hl hseg hk h8 h3 h4 h5 h1 h2 h15 h16 hd
  · by_cases h10 : n.kind = 10
    · exact size_disc_true A ns c k n w hl hseg hk h10
    by_cases h8 : n.kind = 8
    · exact size_kern_true A ns c k n w hl hseg hk h8
    by_cases h3 : n.kind = 3
    · exact size_b3_true A ns c k n w hl hseg hk h3 hr
    by_cases h4 : n.kind = 4
    · exact size_b4_true A ns c k n w hl hseg hk h4 hr
    by_cases h5 : n.kind = 5
    · exact size_b5_true A ns c k n w hl hseg hk h5 hr
    by_cases h1 : n.kind = 1
    · exact size_b1_true A ns c k n w hl hseg hk h1
    by_cases h2 : n.kind = 2
    · exact size_b2_true A ns c k n w hl hseg hk h2
    by_cases h15 : n.kind = 15
    · exact size_b15_true A ns c k n w hl hseg hk h15
    by_cases h16 : n.kind = 16
    · exact size_b16_true A ns c k n w hl hseg hk h16
    exact size_other_true A ns c k n w hl hseg hk h8 h3 h4 h5 h1 h2 h15 h16 h10
set_option maxHeartbeats 2000000 in
set_option maxRecDepth 100000 in
/-- A Disc: what its third list comes to, if that is a dimension. -/
theorem size_disc (A : Option Addr) (ns : List Nd) (c k m : Nat) (ss : List Nat) (n : Nd) (v : Int) (w : World) (hc : chk ns = 0) (hcap : ns.length ≤ c) (hseg : Seg w w.heap.size A (ns.flatMap ncs)) (hk : ns[k]? = some n) (hb : begB ns k = true) (hm : endc (ns.drop k) 0 = some m) (hm2 : 2 ≤ m) (hd : D3 ss (ns.drop (k + 1)) 0 (m - 2)) (hn : n.kind = 10)
    (a b c' d p q r s e1 : Int) (htot : ∀ w1 A1 c1, (thr ss (ns.drop (k + 1)) 0 2).length ≤ c1 → Seg w1 w1.heap.size A1 ((thr ss (ns.drop (k + 1)) 0 2).flatMap ncs) → Calls Try.prog 31 #[.slice A1 (thr ss (ns.drop (k + 1)) 0 2).length c1, .bool false] w1 fun e w' => e = .returned (.tuple #[.agg #[.int .i64 v, .int .i64 a, .int .i64 b, .int .i64 c', .int .i64 d, .int .i64 p, .int .i64 q, .int .i64 r, .int .i64 s], .int .i64 e1]) ∧ Below w1.heap.size w1 w') :
    Calls Try.prog 51 #[.slice A ns.length c, .int .i64 (k : Int), .bool false] w fun e w' => e = .returned (.int .i64 v) ∧ Below w.heap.size w w' := by
  have hl := (chk_run hc).1
  have HT := Lib.hid fun w1 (h : Below w.heap.size w w1) => parts_ok A ns c k m n ss w1 hcap (Seg.belowW hseg h) hc hb hk hn hm hd hm2
  have HS := Lib.hid htot
  obtain ⟨b, off, rfl, hb, hnode⟩ := seg_node hseg hk
  have hkl : k < ns.length := (List.getElem?_eq_some_iff.1 hk).1
  clear hseg hk htot hm hd hc
  generalize thr ss (ns.drop (k + 1)) 0 = F at *
  generalize ns.length = len at *
  go_enter Try.func51, Try.ntmps51
  go_wp2_with (first | (refine wpList_load_node rfl _ rfl _ _ rfl _ (by repeat (first | apply NodeAt.row | (apply Blk.new'; first | rfl | (simp; done)) | (apply Blk.node; apply Blk.new'; first | rfl | (simp; done)) | assumption | apply NodeAt.alloc)) ?_) | (refine wpList_alloc_node rfl rfl ?_) | (refine wpList_store_node rfl _ _ rfl _ _ _ rfl rfl _ (by repeat (first | (apply Blk.new'; first | rfl | (simp; done)) | assumption | apply Blk.alloc)) ?_))
  refine (HT.out _ (andAlloc (Below.refl _ _) _)).mono ?_
  rintro e w1 ⟨vs, rfl, ho, hb1⟩
  obtain ⟨A2, c2, h2, hc2, _, hs2⟩ := Seg.of_own (ho.own 2 (by omega))
  have hl1 : Below w.heap.size w w1 := andThen (andAlloc (Below.refl _ _) _) hb1
  rw [h2]
  go_wp2_with fail
  refine (HS.out _ _ _ hc2 hs2).mono ?_
  rintro e w2 ⟨rfl, hb2⟩
  go_wp2_with fail
  go_ret
  exact ⟨rfl, andAlloc (andThen hl1 hb2) _⟩
theorem tot_case (l : List Nd) (hl : l.length ≤ 879609302220) : ∃ x a b c d p q r s e1, (-1073741823 ≤ x ∧ x ≤ 1073741823) ∧ ∀ (A : Option Addr) (k : Nat) (w : World), l.length ≤ k → Seg w w.heap.size A (l.flatMap ncs) → Calls Try.prog 31 #[.slice A l.length k, .bool false] w fun e w' => e = .returned (.tuple #[.agg #[.int .i64 x, .int .i64 a, .int .i64 b, .int .i64 c, .int .i64 d, .int .i64 p, .int .i64 q, .int .i64 r, .int .i64 s], .int .i64 e1]) ∧ Below w.heap.size w w' := by
  by_cases hc : chk l = 0
  · obtain ⟨xs, hx⟩ := its_of_chk hc
    have hT := totR_len l false xs
    have hn : -1073741823 ≤ (totR l false xs).nat ∧ (totR l false xs).nat ≤ 1073741823 := by
      unfold totR
      split
      · rename_i h
        simpa [dimB] using h
      · simp [tz]
    obtain ⟨⟨x, st, sh⟩, hTe⟩ : ∃ T, totR l false xs = T := ⟨_, rfl⟩
    rw [hTe] at hT hn
    match st, sh, hT.1, hT.2 with
    | [a, b, c, d], [p, q, r, s], _, _ =>
    have ht := fun A k w h hs => totals_any A l k xs false w hc h hs hx
    simp only [hTe] at ht
    exact ⟨x, a, b, c, d, p, q, r, s, _, hn, ht⟩
  · exact ⟨0, 0, 0, 0, 0, 0, 0, 0, 0, chk l, by omega, fun A k w h hs => totals_bad A l k false w (by omega) hs hc⟩
/-- Each item of a list has a size. -/
theorem size_case (ns : List Nd) (down : Bool) (hc : chk ns = 0) : ∃ f : Nat → Int, (∀ k, -281474976710656 ≤ f k ∧ f k ≤ 281474976710656) ∧ (∀ (k : Nat) (n : Nd), ns[k]? = some n → (down = true ∨ ¬ n.kind = 10) → f k = szP n down) ∧
    ∀ (k : Nat) (n : Nd), ns[k]? = some n → ¬ n.kind = 6 → ¬ n.kind = 11 → ∀ (A : Option Addr) (c : Nat) (w : World), ns.length ≤ c → Seg w w.heap.size A (ns.flatMap ncs) → Calls Try.prog 51 #[.slice A ns.length c, .int .i64 (k : Int), .bool down] w fun e w' => e = .returned (.int .i64 (f k)) ∧ Below w.heap.size w w' := by
  have hl := (chk_run hc).1
  have hr := chk_right hc
  have hex : ∀ k : Nat, ∃ v : Int, (-281474976710656 ≤ v ∧ v ≤ 281474976710656) ∧ (∀ (n : Nd), ns[k]? = some n → (down = true ∨ ¬ n.kind = 10) → v = szP n down) ∧
      ∀ (n : Nd), ns[k]? = some n → ¬ n.kind = 6 → ¬ n.kind = 11 → ∀ (A : Option Addr) (c : Nat) (w : World), ns.length ≤ c → Seg w w.heap.size A (ns.flatMap ncs) → Calls Try.prog 51 #[.slice A ns.length c, .int .i64 (k : Int), .bool down] w fun e w' => e = .returned (.int .i64 v) ∧ Below w.heap.size w w' := by
    intro k
    cases hk : ns[k]? with
    | none => exact ⟨0, by omega, fun n h => by (cases h), fun n h => by (cases h)⟩
    | some n =>
      have hrn := hr n (List.mem_of_getElem? hk)
      by_cases hd : down = true ∨ ¬ n.kind = 10
      · refine ⟨szP n down, ?_, fun n' h _ => by (injection h with h; rw [h]), fun n' h _ _ A c w hcap hs => by (injection h with h; subst h; exact size_any A ns c k n down w (by omega) hs hk hrn hd)⟩
        unfold szP
        split
        · omega
        · have := along_bd hrn down
          omega
      · have hdn : down = false := by
          cases down
          · rfl
          · exact absurd (.inl rfl) hd
        have h10 : n.kind = 10 := by
          by_cases h : n.kind = 10
          · exact h
          · exact absurd (.inr h) hd
        subst hdn
        obtain ⟨m, hm⟩ := item_ends hc hk (by omega) (by omega)
        obtain ⟨hm2, ss, hss⟩ := disc_steps hc hk h10 hm
        have hlen : (thr ss (ns.drop (k + 1)) 0 2).length ≤ 2000 := by
          have h1 := thr_len (j := 2) hss
          have h2 := hss.le
          rw [List.length_drop] at h2
          omega
        obtain ⟨x, a, b, c', d, p, q, r, s, e1, hx, ht⟩ := tot_case (thr ss (ns.drop (k + 1)) 0 2) (by omega)
        refine ⟨x, by omega, fun n' h h' => by (injection h with h; subst h; exact absurd h' hd), fun n' h _ _ A c w hcap hs => by (injection h with h; subst h; exact size_disc A ns c k m ss n x w hc hcap hs hk (beg_of hk (by omega) (by omega)) hm hm2 hss h10 a b c' d p q r s e1 fun w1 A1 c1 h1 h2 => ht A1 c1 w1 h1 h2)⟩
  exact ⟨fun k => (hex k).choose, fun k => (hex k).choose_spec.1, fun k n h h' => (hex k).choose_spec.2.1 n h h', fun k n h h6 h11 => (hex k).choose_spec.2.2 n h h6 h11⟩
end Go.Proofs.Ytoboecenlangmaa.Pk
end
section
namespace Go.Proofs.Ytoboecenlangmaa.Gl
open Go.ChangeShapes Go.WideShapes Go.ChangeAt Go.RowKit
open Me

theorem sizes_any (A : Option Addr) (l : List G) (c : Nat) (sign order N D : Int) (w : World) (h63 : l.length ≤ maxLen) (hrow : Row w A l) :
    Calls Try.prog 49 #[.slice A l.length c, .int .i64 sign, .int .i64 order, .int .i64 N, .int .i64 D] w (SzOut l sign order N D w) := by
  by_cases hr : rowE l = 0
  · cases ha : argOk sign order
    · refine (sizes_bad A l c sign order N D w h63 hrow (.inr (.inl ha))).mono fun e w' h => ?_
      unfold SzOut
      rw [if_neg (by rw [szE_arg hr ha]; omega)]
      exact h
    · cases hg : rngOk sign N D
      · refine (sizes_bad A l c sign order N D w h63 hrow (.inr (.inr hg))).mono fun e w' h => ?_
        unfold SzOut
        rw [if_neg (by rw [szE_rng hr ha hg]; omega)]
        exact h
      · obtain ⟨a0, a1, -, -⟩ := argOk_iff.1 ha
        rcases (show sign = 0 ∨ sign = 1 ∨ sign = 2 by omega) with rfl | rfl | rfl
        · exact sizes_still A l c order N D w hrow hr ha hg
        · exact sizes_stretch A l c order N D w hrow hr ha hg
        · exact sizes_shrink A l c order N D w hrow hr ha hg
  · refine (sizes_bad A l c sign order N D w h63 hrow (.inl hr)).mono fun e w' h => ?_
    unfold SzOut
    rw [if_neg (by rw [szE_row hr]; exact hr)]
    exact h
end Go.Proofs.Ytoboecenlangmaa.Gl
end
section
namespace Go.Proofs.Ytoboecenlangmaa.Pk
open Go.ChangeShapes Go.WideShapes Go.ChangeAt Go.RowKit
open Me Np No
set_option linter.unusedVariables false
set_option linter.unusedSimpArgs false

theorem info_int : (Try.prog.info? 3).map (fun i => (i.zero, i.size, i.bytes)) = some (some (.int .i64 0), 1, 8) := by kernel_rfl
theorem info_glue : (Try.prog.info? 40).map (fun i => (i.zero, i.size, i.bytes)) = some (some (.agg #[.int .i64 0, .int .i64 0, .int .i64 0, .int .i64 0, .int .i64 0]), 5, 40) := by kernel_rfl
/-- What Places answers. -/
def PlOut (P : List Int) (E : Int) (w : World) (e : Ending) (w' : World) : Prop := ∃ v, e = .returned (.tuple #[v, .int .i64 E]) ∧ w'.ownsRow w.heap.size 3 1 v P.length (P.map (Value.int .i64)) ∧ Below w.heap.size w w'
theorem PlOut.no {w w' : World} (hb : Below w.heap.size w w') (E : Int) : PlOut [] E w (.returned (.tuple #[.slice none 0 0, .int .i64 E])) w' := ⟨_, rfl, World.ownsRow_nil _ _ _ _, hb⟩
/-- What the second loop of Places holds in memory: how far it has come, the places so far. -/
structure MP (W : World) (gx : Nat) (x : Int) (v : Value) (o : List Int) (wr : World) : Prop where
  blk : Blk wr gx 3 #[.int .i64 x]
  own : wr.ownsRow (gx + 1) 3 1 v o.length (o.map (Value.int .i64))
  low : Below W.heap.size W wr
  gl : W.heap.size ≤ gx
theorem MP.below {W : World} {gx : Nat} {x : Int} {v : Value} {o : List Int} {wr w' : World} (h : MP W gx x v o wr) (hb : Below wr.heap.size wr w') : MP W gx x v o w' := ⟨h.blk.below hb h.blk.lt, own_below h.own hb, andThen h.low hb, h.gl⟩
theorem MP.push {W : World} {gx : Nat} {x z : Int} {v v' : Value} {o : List Int} {wr w' : World} (h : MP W gx x v o wr) (ho : w'.ownsRow (gx + 1) 3 1 v' (o.length + 1) (o.map (Value.int .i64) ++ [.int .i64 z])) (hg : wr.grownBy w' v.ownBlock) : MP W gx x v' (o ++ [z]) w' :=
  ⟨h.blk.grown hg (by intro e; have := (h.own.lt gx e.symm).1; omega), by simpa using ho, below_grown (Nat.le_refl _) h.low hg (fun q hq => by have := (h.own.lt q hq).1; have := h.gl; omega), h.gl⟩
theorem MP.turn {W : World} {gx : Nat} {x y : Int} {v : Value} {o : List Int} {wr w' : World} (h : MP W gx x v o wr) (hb : Blk w' gx 3 #[.int .i64 y]) (hg : wr.grownBy w' (some gx)) : MP W gx y v o w' := by
  refine ⟨hb, h.own.kept hg ?_, below_grown (Nat.le_refl _) h.low hg (fun q hq => by injection hq with hq; have := h.gl; omega), h.gl⟩
  cases hv : v.ownBlock with
  | none => exact .inl rfl
  | some q =>
    refine .inr ?_
    intro e
    injection e with e
    have := (h.own.lt q hv).1
    omega
theorem grow_any (gx : Nat) (x z : Int) (w : World) (hb : Blk w gx 3 #[.int .i64 x]) (h0 : -2305843009213693952 ≤ x) (h1 : x ≤ 2305843009213693952) (h2 : -2305843009213693952 ≤ z) (h3 : z ≤ 2305843009213693952) :
    Calls Try.prog 50 #[.int .i64 z, .pointer (some ⟨gx, 0, none⟩)] w fun e w' => e = .returned (.tuple #[]) ∧ Blk w' gx 3 #[.int .i64 (x + z)] ∧ w.grownBy w' (some gx) := by
  have hc : w.cell? ⟨gx, 0, none⟩ = some (.int .i64 x) := Blk.cell hb 0
  have hf := Blk.free hb 0
  have HB := Lib.hid hb
  clear hb
  go_enter Try.func50, Try.ntmps50
  go_wp2_with fail
  go_returns
  exact ⟨rfl, Blk.set HB.out 0 (.int .i64 (x + z)), grown_set _ _ _ _⟩
/-- What Places comes to. -/
noncomputable def plcR (x : Nd) (l : List Nd) (f : Nat → Int) (xs : List Nat) : List Int × Int :=
  if Gl.szE (skF l xs []) x.sign x.order x.num x.den = 0 then ((plF l f xs ⟨0, Gl.szL (skF l xs []) x.sign x.order x.num x.den, []⟩).out, 0) else ([], Gl.szE (skF l xs []) x.sign x.order x.num x.den)
theorem places_no (A : Option Addr) (ns L : List Nd) (c : Nat) (a E : Int) (w : World) (hE : ¬ E = 0) (hI : Calls Try.prog 24 #[.slice A ns.length c, .int .i64 a] w fun e' w' => ∃ v, e' = .returned (.tuple #[v, .int .i64 E]) ∧ w'.ownsRow w.heap.size 54 19 v L.length (L.flatMap ncs) ∧ Below w.heap.size w w') :
    Calls Try.prog 23 #[.slice A ns.length c, .int .i64 a] w (PlOut [] E w) := by
  have e0 : (E != 0) = true := by simp [hE]
  have HI := Lib.hid hI
  clear hI
  generalize ns.length = len at *
  go_enter Try.func23, Try.ntmps23
  go_wp2_with fail
  refine HI.out.mono ?_
  rintro e w1 ⟨v, rfl, ho, hb1⟩
  clear ho
  go_wp2_with fail
  go_ret2
  exact PlOut.no hb1 _
set_option maxRecDepth 100000 in
theorem places_kind (A : Option Addr) (ns L : List Nd) (c k : Nat) (x : Nd) (w : World) (hcap : ns.length ≤ c) (hl : ns.length ≤ 2000) (hseg : Seg w w.heap.size A (ns.flatMap ncs)) (hx : ns[k]? = some x) (h4 : ¬ x.kind = 4) (h5 : ¬ x.kind = 5) (hI : Calls Try.prog 24 #[.slice A ns.length c, .int .i64 (k : Int)] w fun e' w' => ∃ v, e' = .returned (.tuple #[v, .int .i64 0]) ∧ w'.ownsRow w.heap.size 54 19 v L.length (L.flatMap ncs) ∧ Below w.heap.size w w') :
    Calls Try.prog 23 #[.slice A ns.length c, .int .i64 (k : Int)] w (PlOut [] 3 w) := by
  have e4 : (x.kind != 4) = true := by simp [h4]
  have e5 : (x.kind != 5) = true := by simp [h5]
  have HI := Lib.hid hI
  obtain ⟨b, off, rfl, hb, hnode⟩ := seg_node hseg hx
  have hkl : k < ns.length := (List.getElem?_eq_some_iff.1 hx).1
  clear hI hseg hx h4 h5
  generalize ns.length = len at *
  go_enter Try.func23, Try.ntmps23
  go_wp2_with fail
  refine HI.out.mono ?_
  rintro e w1 ⟨v, rfl, ho, hb1⟩
  have hnode := hnode.below hb1 hb
  clear ho
  go_wp2_with (first | (refine wpList_load_node rfl _ rfl _ _ rfl _ (by repeat (first | apply NodeAt.row | (apply Blk.new'; first | rfl | (simp; done)) | (apply Blk.node; apply Blk.new'; first | rfl | (simp; done)) | assumption | apply NodeAt.alloc)) ?_) | (refine wpList_alloc_node rfl rfl ?_) | (refine wpList_store_node rfl _ _ rfl _ _ _ rfl rfl _ (by repeat (first | (apply Blk.new'; first | rfl | (simp; done)) | assumption | apply Blk.alloc)) ?_))
  go_ret2
  exact PlOut.no (andAlloc hb1 _) _
end Go.Proofs.Ytoboecenlangmaa.Pk
end
section
namespace Go.Proofs.Ytoboecenlangmaa.Al
open Go.RowKit (wrap64)
open Gl

/-- What is left of a width when the columns a .. a + k - 1 are taken away. -/
def less (f : Nat → Int) : Nat → Nat → Int → Int
  | _, 0, n => n
  | a, k + 1, n => less f (a + 1) k (wrap64 (n - f a))
/-- What a row asks of column j: of its cell that ends there. -/
def ask (f : Nat → Int) (j : Nat) : Nat → List (Int × Nat) → Option Int
  | _, [] => none
  | a, c :: r => if j < a + c.2 - 1 then none else if a + c.2 - 1 = j then some (less f a (j - a) c.1) else ask f j (a + c.2) r
def mx : Option Int → Option Int → Option Int
  | m, none => m
  | none, some n => some n
  | some m, some n => some (if m < n then n else m)
def colM (f : Nat → Int) (j : Nat) : Option Int → List (List (Int × Nat)) → Option Int
  | m, [] => m
  | m, r :: rs => colM f j (mx m (ask f j 0 r)) rs
def gz : G := ⟨0, 0, 0, 0, 0⟩
structure Co where
  w : List Int
  g : List Bool
  s : List G
def Co.f (c : Co) (i : Nat) : Int := wrap64 (c.w.getD i 0 + (c.s.getD (i + 1) gz).n)
def Co.next (rows : List (List (Int × Nat))) (c : Co) (j : Nat) : Co :=
  match colM c.f j none rows with
  | none => ⟨c.w ++ [0], c.g ++ [true], c.s.set (j + 1) gz⟩
  | some n => ⟨c.w ++ [n], c.g ++ [false], c.s⟩
def cols (rows : List (List (Int × Nat))) (ss : List G) : Nat → Co
  | 0 => ⟨[], [], ss⟩
  | j + 1 => (cols rows ss j).next rows j

theorem less_snoc (f : Nat → Int) : ∀ (k a : Nat) (n : Int), less f a (k + 1) n = wrap64 (less f a k n - f (a + k))
  | 0, a, n => rfl
  | k + 1, a, n => by
    rw [less, less_snoc f k (a + 1)]
    show _ = wrap64 (less f (a + 1) k (wrap64 (n - f a)) - f (a + (k + 1)))
    rw [show a + 1 + k = a + (k + 1) by omega]
theorem less_congr {f g : Nat → Int} : ∀ (k a : Nat) (n : Int), (∀ i, a ≤ i → i < a + k → f i = g i) → less f a k n = less g a k n
  | 0, _, _, _ => rfl
  | k + 1, a, n, h => by
    rw [less, less, h a (by omega) (by omega)]
    exact less_congr k (a + 1) _ fun i h1 h2 => h i (by omega) (by omega)
theorem ask_congr {f g : Nat → Int} {j : Nat} (h : ∀ i, i < j → f i = g i) : ∀ (r : List (Int × Nat)) (a : Nat), ask f j a r = ask g j a r
  | [], _ => rfl
  | c :: r, a => by
    unfold ask
    rw [ask_congr h r, less_congr (f := f) (g := g) (j - a) a c.1 fun i h1 h2 => h i (by omega)]
theorem colM_congr {f g : Nat → Int} {j : Nat} (h : ∀ i, i < j → f i = g i) : ∀ (rs : List (List (Int × Nat))) (m : Option Int), colM f j m rs = colM g j m rs
  | [], _ => rfl
  | r :: rs, m => by rw [colM, colM, ask_congr h, colM_congr h rs]

/-! ### the greatest -/
theorem mx_none {a b : Option Int} : mx a b = none ↔ a = none ∧ b = none := by
  cases a <;> cases b <;> simp [mx]
theorem mx_ge {a b : Option Int} {x : Int} (h : mx a b = some x) : (∀ y, a = some y → y ≤ x) ∧ ∀ y, b = some y → y ≤ x := by
  cases a <;> cases b <;> simp [mx] at h ⊢ <;> omega
theorem mx_is {a b : Option Int} {x : Int} (h : mx a b = some x) : a = some x ∨ b = some x := by
  cases a <;> cases b <;> simp [mx] at h ⊢ <;> omega
theorem colM_none {f : Nat → Int} {j : Nat} : ∀ {rs : List (List (Int × Nat))} {m : Option Int}, colM f j m rs = none ↔ m = none ∧ ∀ r ∈ rs, ask f j 0 r = none
  | [], m => by simp [colM]
  | r :: rs, m => by
    rw [colM, colM_none (rs := rs), mx_none]
    simp [and_assoc]
theorem colM_ge {f : Nat → Int} {j : Nat} {x : Int} : ∀ {rs : List (List (Int × Nat))} {m : Option Int}, colM f j m rs = some x → (∀ y, m = some y → y ≤ x) ∧ ∀ r ∈ rs, ∀ y, ask f j 0 r = some y → y ≤ x
  | [], m, h => ⟨fun y hy => by rw [colM] at h; rw [h] at hy; injection hy; omega, by simp⟩
  | r :: rs, m, h => by
    obtain ⟨h1, h2⟩ := colM_ge (rs := rs) (by simpa only [colM] using h)
    have h3 : ∀ z, mx m (ask f j 0 r) = some z → z ≤ x := h1
    have h4 : (∀ y, m = some y → y ≤ x) ∧ ∀ y, ask f j 0 r = some y → y ≤ x := by
      cases hm : mx m (ask f j 0 r) with
      | none =>
        rw [mx_none] at hm
        rw [hm.1, hm.2]
        exact ⟨by simp, by simp⟩
      | some z =>
        obtain ⟨h5, h6⟩ := mx_ge hm
        have := h3 z hm
        exact ⟨fun y hy => by have := h5 y hy; omega, fun y hy => by have := h6 y hy; omega⟩
    refine ⟨h4.1, fun r' hr => ?_⟩
    rcases List.mem_cons.1 hr with rfl | hr
    · exact h4.2
    · exact h2 r' hr
theorem colM_is {f : Nat → Int} {j : Nat} {x : Int} : ∀ {rs : List (List (Int × Nat))} {m : Option Int}, colM f j m rs = some x → m = some x ∨ ∃ r ∈ rs, ask f j 0 r = some x
  | [], m, h => .inl h
  | r :: rs, m, h => by
    rcases colM_is (rs := rs) (by simpa only [colM] using h) with h1 | ⟨r', h1, h2⟩
    · rcases mx_is h1 with h2 | h2
      · exact .inl h2
      · exact .inr ⟨r, by simp, h2⟩
    · exact .inr ⟨r', by simp [h1], h2⟩
theorem colM_same {f : Nat → Int} {j : Nat} {rs qs : List (List (Int × Nat))} (h : ∀ r, r ∈ rs ↔ r ∈ qs) : colM f j none rs = colM f j none qs := by
  cases h1 : colM f j none rs with
  | none =>
    rw [colM_none] at h1
    exact (colM_none.2 ⟨rfl, fun r hr => h1.2 r ((h r).2 hr)⟩).symm
  | some x =>
    cases h2 : colM f j none qs with
    | none =>
      rw [colM_none] at h2
      rcases colM_is h1 with h3 | ⟨r, h3, h4⟩
      · cases h3
      · rw [h2.2 r ((h r).1 h3)] at h4; cases h4
    | some y =>
      have h3 : y ≤ x := by
        rcases colM_is h2 with h3 | ⟨r, h3, h4⟩
        · cases h3
        · exact (colM_ge h1).2 r ((h r).2 h3) y h4
      have h4 : x ≤ y := by
        rcases colM_is h1 with h5 | ⟨r, h5, h6⟩
        · cases h5
        · exact (colM_ge h2).2 r ((h r).1 h5) x h6
      rw [show x = y by omega]
theorem cols_same {rs qs : List (List (Int × Nat))} (h : ∀ r, r ∈ rs ↔ r ∈ qs) (ss : List G) : ∀ j, cols rs ss j = cols qs ss j
  | 0 => rfl
  | j + 1 => by
    rw [cols, cols, cols_same h ss j]
    unfold Co.next
    rw [colM_same h]

/-! ### columns, one by one -/
section
variable (rs : List (List (Int × Nat))) (ss : List G)
theorem cols_len : ∀ j, (cols rs ss j).w.length = j ∧ (cols rs ss j).g.length = j ∧ (cols rs ss j).s.length = ss.length
  | 0 => ⟨rfl, rfl, rfl⟩
  | j + 1 => by
    obtain ⟨h1, h2, h3⟩ := cols_len j
    rw [cols]
    unfold Co.next
    split <;> simp [h1, h2, h3]
theorem cols_step (j : Nat) : (∀ i, i < j → (cols rs ss (j + 1)).w[i]? = (cols rs ss j).w[i]?) ∧ (∀ i, i < j → (cols rs ss (j + 1)).g[i]? = (cols rs ss j).g[i]?) ∧ (∀ i, i ≠ j + 1 → (cols rs ss (j + 1)).s[i]? = (cols rs ss j).s[i]?) := by
  obtain ⟨h1, h2, h3⟩ := cols_len rs ss j
  rw [cols]
  unfold Co.next
  split
  · refine ⟨fun i hi => ?_, fun i hi => ?_, fun i hi => ?_⟩
    · exact List.getElem?_append_left (by omega)
    · exact List.getElem?_append_left (by omega)
    · exact List.getElem?_set_ne (by omega)
  · exact ⟨fun i hi => List.getElem?_append_left (by omega), fun i hi => List.getElem?_append_left (by omega), fun i hi => rfl⟩
theorem cols_keep {j : Nat} : ∀ {n : Nat}, j ≤ n → (∀ i, i < j → (cols rs ss n).w[i]? = (cols rs ss j).w[i]?) ∧ (∀ i, i < j → (cols rs ss n).g[i]? = (cols rs ss j).g[i]?) ∧ (∀ i, i ≤ j → (cols rs ss n).s[i]? = (cols rs ss j).s[i]?)
  | 0, h => by
    obtain rfl : j = 0 := by omega
    exact ⟨fun _ _ => rfl, fun _ _ => rfl, fun _ _ => rfl⟩
  | n + 1, h => by
    rcases Nat.lt_or_ge n j with h1 | h1
    · obtain rfl : j = n + 1 := by omega
      exact ⟨fun _ _ => rfl, fun _ _ => rfl, fun _ _ => rfl⟩
    · obtain ⟨a, b, c⟩ := cols_keep h1
      obtain ⟨a1, b1, c1⟩ := cols_step rs ss n
      exact ⟨fun i hi => (a1 i (by omega)).trans (a i hi), fun i hi => (b1 i (by omega)).trans (b i hi), fun i hi => (c1 i (by omega)).trans (c i hi)⟩
/-- The skips behind what is already measured stay. -/
theorem cols_late (j : Nat) : ∀ i, j < i → (cols rs ss j).s[i]? = ss[i]? := by
  induction j with
  | zero => intro i _; rfl
  | succ j ih =>
    intro i hi
    rw [(cols_step rs ss j).2.2 i (by omega)]
    exact ih i (by omega)
theorem cols_f {j n : Nat} (h : j ≤ n) (i : Nat) (hi : i < j) : (cols rs ss n).f i = (cols rs ss j).f i := by
  obtain ⟨a, _, c⟩ := cols_keep rs ss h
  unfold Co.f
  rw [List.getD_eq_getElem?_getD, List.getD_eq_getElem?_getD, List.getD_eq_getElem?_getD, List.getD_eq_getElem?_getD, a i hi, c (i + 1) (by omega)]
/-- Column j, in the end. -/
theorem cols_at {j n : Nat} (h : j < n) : (cols rs ss n).w[j]? = some ((colM (cols rs ss n).f j none rs).getD 0) ∧ (cols rs ss n).g[j]? = some (colM (cols rs ss n).f j none rs).isNone := by
  obtain ⟨a, b, _⟩ := cols_keep rs ss (j := j + 1) (n := n) h
  obtain ⟨h1, h2, h3⟩ := cols_len rs ss j
  rw [a j (by omega), b j (by omega), colM_congr (f := (cols rs ss n).f) (g := (cols rs ss j).f) (fun i hi => cols_f rs ss (by omega) i hi), cols]
  unfold Co.next
  split
  · rename_i he
    rw [he]
    exact ⟨by rw [List.getElem?_append_right (by omega), h1]; simp, by rw [List.getElem?_append_right (by omega), h2]; simp⟩
  · rename_i x he
    rw [he]
    exact ⟨by rw [List.getElem?_append_right (by omega), h1]; simp, by rw [List.getElem?_append_right (by omega), h2]; simp⟩
/-- The skip behind it. -/
theorem cols_skip {j n : Nat} (h : j < n) {g : G} (hg : ss[j + 1]? = some g) : (cols rs ss n).s[j + 1]? = some (if (colM (cols rs ss n).f j none rs).isNone = true then gz else g) := by
  obtain ⟨_, _, c⟩ := cols_keep rs ss (j := j + 1) (n := n) h
  obtain ⟨h1, h2, h3⟩ := cols_len rs ss j
  have hl : j + 1 < ss.length := by
    rcases Nat.lt_or_ge (j + 1) ss.length with h4 | h4
    · exact h4
    · rw [List.getElem?_eq_none h4] at hg; cases hg
  rw [c (j + 1) (by omega), colM_congr (f := (cols rs ss n).f) (g := (cols rs ss j).f) (fun i hi => cols_f rs ss (by omega) i hi), cols]
  unfold Co.next
  split
  · rename_i he
    rw [he]
    show ((cols rs ss j).s.set (j + 1) gz)[j + 1]? = _
    rw [List.getElem?_set_self (by omega)]
    rfl
  · rename_i x he
    rw [he]
    show (cols rs ss j).s[j + 1]? = _
    rw [cols_late rs ss j (j + 1) (by omega), hg]
    rfl
end

/-! ### sums -/
def sumF (f : Nat → Int) : Nat → Nat → Int
  | _, 0 => 0
  | a, k + 1 => f a + sumF f (a + 1) k
theorem sumF_snoc (f : Nat → Int) : ∀ (k a : Nat), sumF f a (k + 1) = sumF f a k + f (a + k)
  | 0, a => by simp [sumF]
  | k + 1, a => by
    rw [sumF, sumF_snoc f k (a + 1), sumF]
    rw [show a + 1 + k = a + (k + 1) by omega]
    omega
theorem sumF_bd {f : Nat → Int} {B : Int} : ∀ (k a : Nat), (∀ i, a ≤ i → i < a + k → -B ≤ f i ∧ f i ≤ B) → -(k * B) ≤ sumF f a k ∧ sumF f a k ≤ k * B
  | 0, a, _ => by simp [sumF]
  | k + 1, a, h => by
    have h1 := sumF_bd k (a + 1) fun i h1 h2 => h i (by omega) (by omega)
    have h2 := h a (by omega) (by omega)
    rw [sumF, Int.natCast_add, Int.add_mul]
    omega
theorem less_sum {f : Nat → Int} {n : Int} (hn : -4294967296 ≤ n ∧ n ≤ 4294967296) (a : Nat) : ∀ (k : Nat), k ≤ 1000 → (∀ i, a ≤ i → i < a + k → -4294967296 ≤ f i ∧ f i ≤ 4294967296) → less f a k n = n - sumF f a k
  | 0, _, _ => by simp [less, sumF]
  | k + 1, hk, h => by
    have h1 := less_sum hn a k (by omega) fun i h1 h2 => h i h1 (by omega)
    have h2 := sumF_bd (B := 4294967296) k a fun i h1 h2 => h i h1 (by omega)
    have h3 := h (a + k) (by omega) (by omega)
    rw [less_snoc, h1, sumF_snoc]
    unfold wrap64
    omega

/-! ### a row's cells -/
/-- Where cell k begins. -/
def pos : List (Int × Nat) → Nat → Nat
  | _, 0 => 0
  | [], _ => 0
  | c :: r, k + 1 => c.2 + pos r k
theorem ask_get {f : Nat → Int} {j : Nat} : ∀ {r : List (Int × Nat)} {k : Nat} {c : Int × Nat} (a : Nat), (∀ x ∈ r, 1 ≤ x.2) → r[k]? = some c → a + pos r k + c.2 - 1 = j → ask f j a r = some (less f (a + pos r k) (c.2 - 1) c.1)
  | [], k, c, a, _, h, _ => by simp at h
  | x :: r, 0, c, a, h1, h, hj => by
    simp at h
    subst h
    have := h1 x (by simp)
    simp only [pos, Nat.add_zero] at hj ⊢
    rw [ask, if_neg (by omega), if_pos hj]
    rw [show j - a = x.2 - 1 by omega]
  | x :: r, k + 1, c, a, h1, h, hj => by
    have h2 := h1 x (by simp)
    have h3 := h1 c (by simpa using List.mem_cons_of_mem _ (List.mem_of_getElem? (by simpa using h)))
    simp only [pos] at hj ⊢
    have ih := ask_get (f := f) (j := j) (r := r) (k := k) (c := c) (a + x.2) (fun y hy => h1 y (by simp [hy])) (by simpa using h) (by omega)
    rw [ask, if_neg (by omega), if_neg (by omega), ih]
    rw [show a + x.2 + pos r k = a + (x.2 + pos r k) by omega]
theorem ask_some {f : Nat → Int} {j : Nat} {y : Int} : ∀ {r : List (Int × Nat)} (a : Nat), (∀ x ∈ r, 1 ≤ x.2) → ask f j a r = some y → ∃ k c, r[k]? = some c ∧ a + pos r k + c.2 - 1 = j ∧ y = less f (a + pos r k) (c.2 - 1) c.1
  | [], a, _, h => by simp [ask] at h
  | x :: r, a, h1, h => by
    have h2 := h1 x (by simp)
    rw [ask] at h
    split at h
    · cases h
    · split at h
      · rename_i h3
        injection h with h
        refine ⟨0, x, rfl, by simpa [pos] using h3, ?_⟩
        rw [← h]
        simp only [pos, Nat.add_zero]
        rw [show j - a = x.2 - 1 by omega]
      · obtain ⟨k, c, h3, h4, h5⟩ := ask_some (a + x.2) (fun y hy => h1 y (by simp [hy])) h
        refine ⟨k + 1, c, by simpa using h3, by simp only [pos]; omega, ?_⟩
        rw [h5]
        simp only [pos]
        rw [show a + x.2 + pos r k = a + (x.2 + pos r k) by omega]
end Go.Proofs.Ytoboecenlangmaa.Al
end
section
namespace Go.Proofs.Ytoboecenlangmaa.Al
open Np Pk
open Gl (G)
set_option linter.unusedVariables false
set_option linter.unusedSimpArgs false

def skN (g : G) : Nd := { nz 7 with gn := g.n, gs := g.s, gh := g.h, ga := g.a, gb := g.b, sub := 11 }
/-- Columns from a on: boxes, with the skips behind them. -/
def rpL (S : List G) : Nat → List (Nd × List Nd) → List Nd
  | _, [] => []
  | a, b :: bs => wrapL b.1 b.2 ++ skN (S.getD (a + 1) gz) :: rpL S (a + 1) bs
theorem rpL_snoc (S : List G) : ∀ (bs : List (Nd × List Nd)) (a : Nat) (b : Nd × List Nd), rpL S a (bs ++ [b]) = rpL S a bs ++ (wrapL b.1 b.2 ++ [skN (S.getD (a + bs.length + 1) gz)])
  | [], a, b => by simp [rpL]
  | c :: bs, a, b => by
    rw [List.cons_append, rpL, rpL, rpL_snoc S bs (a + 1) b]
    simp only [List.length_cons, List.append_assoc, List.cons_append]
    rw [show a + 1 + bs.length + 1 = a + (bs.length + 1) + 1 by omega]
def rowOf (S : List G) (bs : List (Nd × List Nd)) : List Nd := skN (S.getD 0 gz) :: rpL S 0 bs
/-- m columns: each a box of its width. -/
def RP (W : List Int) (S : List G) (m : Nat) (L : List Nd) : Prop :=
  ∃ bs : List (Nd × List Nd), bs.length = m ∧ L = rowOf S bs ∧ ∀ (i : Nat) (b : Nd × List Nd), bs[i]? = some b → b.1.kind = 4 ∧ b.1.wd = W.getD i 0 ∧ chk b.2 = 0
theorem RP.zero (W : List Int) (S : List G) : RP W S 0 [skN (S.getD 0 gz)] := ⟨[], rfl, rfl, fun i b h => by simp at h⟩
theorem RP.box {W : List Int} {S : List G} {a : Nat} {L q : List Nd} {n : Nd} (h : RP W S a L) (hk : n.kind = 4) (hw : n.wd = W.getD a 0) (hq : chk q = 0) : RP W S (a + 1) (L ++ (wrapL n q ++ [skN (S.getD (a + 1) gz)])) := by
  obtain ⟨bs, rfl, rfl, h⟩ := h
  refine ⟨bs ++ [(n, q)], by simp, ?_, fun i b hb => ?_⟩
  · unfold rowOf
    rw [rpL_snoc, List.cons_append, Nat.zero_add]
  · rw [List.getElem?_append] at hb
    split at hb
    · exact h i b hb
    · rename_i hi
      have hi2 : i = bs.length := by
        have := (List.getElem?_eq_some_iff.1 hb).1
        simp at this
        omega
      subst hi2
      simp at hb
      subst hb
      exact ⟨hk, hw, hq⟩
theorem RP.last {W : List Int} {S : List G} {m : Nat} {L : List Nd} (h : RP W S (m + 1) L) : ∃ L' n q, RP W S m L' ∧ n.kind = 4 ∧ n.wd = W.getD m 0 ∧ chk q = 0 ∧ L = L' ++ (wrapL n q ++ [skN (S.getD (m + 1) gz)]) := by
  obtain ⟨bs, hm, rfl, h⟩ := h
  have hne : bs ≠ [] := by rintro rfl; simp at hm
  obtain ⟨cs, c, rfl⟩ : ∃ cs c, bs = cs ++ [c] := ⟨bs.dropLast, bs.getLast hne, (List.dropLast_concat_getLast hne).symm⟩
  have hl : cs.length = m := by simp at hm; omega
  have hc := h m c (by rw [List.getElem?_append_right (by omega)]; simp [hl])
  refine ⟨rowOf S cs, c.1, c.2, ⟨cs, hl, rfl, fun i b hb => h i b ?_⟩, hc.1, hc.2.1, hc.2.2, ?_⟩
  · rw [List.getElem?_append_left (List.getElem?_eq_some_iff.1 hb).1]; exact hb
  · unfold rowOf
    rw [rpL_snoc, List.cons_append, Nat.zero_add, hl]
/-- What an item is to Places: a skip's glue, or how wide it is. -/
def itA (L : List Nd) (x : Nat) : Option (G ⊕ Int) := L[x]?.map fun y => if y.kind = 7 then .inl (gOf y) else .inr y.wd
def ab (W : List Int) (S : List G) : Nat → List (G ⊕ Int)
  | 0 => [.inl (S.getD 0 gz)]
  | a + 1 => ab W S a ++ [.inr (W.getD a 0), .inl (S.getD (a + 1) gz)]
theorem ab_len (W : List Int) (S : List G) : ∀ m, (ab W S m).length = 2 * m + 1
  | 0 => rfl
  | m + 1 => by rw [ab, List.length_append, ab_len W S m]; simp; omega
theorem ab_pre (W : List Int) (S : List G) (m : Nat) : ∀ k, ∃ T, ab W S (m + k) = ab W S m ++ T
  | 0 => ⟨[], by simp⟩
  | k + 1 => by
    obtain ⟨T, hT⟩ := ab_pre W S m k
    refine ⟨T ++ [.inr (W.getD (m + k) 0), .inl (S.getD (m + k + 1) gz)], ?_⟩
    rw [show m + (k + 1) = m + k + 1 by omega, ab, hT, List.append_assoc]
theorem itA_left {L M : List Nd} {x : Nat} (h : x < L.length) : itA (L ++ M) x = itA L x := by
  unfold itA; rw [List.getElem?_append_left h]
theorem skN_kind (g : G) : (skN g).kind = 7 := rfl
theorem skN_glue (g : G) : gOf (skN g) = g := rfl
theorem wrap_len (n : Nd) (q : List Nd) : (wrapL n q).length = q.length + 2 := by unfold wrapL; simp
theorem two_its {n : Nd} {q : List Nd} (g : G) (o : Nat) (hk : n.kind = 4) (hq : chk q = 0) : Its [o, o + (q.length + 2)] (wrapL n q ++ [skN g]) o := by
  have he := endc_wrap (n := n) (l := q) (by simp [opensB, hk]) hq
  refine ⟨rfl, q.length + 2, endc_more _ he, ?_⟩
  rw [List.drop_append_of_le_length (by rw [wrap_len]; omega), List.drop_of_length_le (by rw [wrap_len]; omega), List.nil_append]
  refine ⟨rfl, 1, rfl, rfl⟩
theorem rp_its {W : List Int} {S : List G} : ∀ {m : Nat} {L : List Nd}, RP W S m L → ∃ xs, Its xs L 0 ∧ xs.map (itA L) = (ab W S m).map some ∧ (∀ x ∈ xs, ∀ y, L[x]? = some y → y.kind = 7 ∨ y.kind = 4)
  | 0, L, h => by
    obtain ⟨bs, hm, rfl, h⟩ := h
    obtain rfl : bs = [] := List.eq_nil_of_length_eq_zero hm
    refine ⟨[0], ⟨rfl, 1, rfl, rfl⟩, rfl, fun x hx y hy => ?_⟩
    simp at hx
    subst hx
    simp [rowOf, rpL] at hy
    subst hy
    exact .inl rfl
  | m + 1, L, h => by
    obtain ⟨L', n, q, h1, hk, hw, hq, rfl⟩ := h.last
    obtain ⟨xs, hx, ha, h74⟩ := rp_its h1
    have hlt := Its.lt hx
    have i0 : (L' ++ (wrapL n q ++ [skN (S.getD (m + 1) gz)]))[L'.length]? = some n := by
      rw [List.getElem?_append_right (Nat.le_refl _), Nat.sub_self]; rfl
    have i1 : (L' ++ (wrapL n q ++ [skN (S.getD (m + 1) gz)]))[L'.length + (q.length + 2)]? = some (skN (S.getD (m + 1) gz)) := by
      rw [List.getElem?_append_right (by omega), Nat.add_sub_cancel_left, List.getElem?_append_right (by rw [wrap_len]; omega), wrap_len, Nat.sub_self]; rfl
    refine ⟨xs ++ [L'.length, L'.length + (q.length + 2)], ?_, ?_, fun x hxm y hy => ?_⟩
    · exact its_join hx (by rw [Nat.zero_add]; exact two_its _ _ hk hq)
    · rw [List.map_append, ab, List.map_append]
      congr 1
      · rw [← ha]
        exact List.map_congr_left fun x hxm => itA_left (by have := hlt x hxm; omega)
      · have e0 : itA (L' ++ (wrapL n q ++ [skN (S.getD (m + 1) gz)])) L'.length = some (.inr (W.getD m 0)) := by
          unfold itA; rw [i0, Option.map_some, if_neg (by omega), hw]
        have e1 : itA (L' ++ (wrapL n q ++ [skN (S.getD (m + 1) gz)])) (L'.length + (q.length + 2)) = some (.inl (S.getD (m + 1) gz)) := by
          unfold itA; rw [i1, Option.map_some, if_pos (skN_kind _), skN_glue]
        rw [List.map_cons, List.map_cons, e0, e1]
        rfl
    · rcases List.mem_append.1 hxm with hxm | hxm
      · have := hlt x hxm
        rw [List.getElem?_append_left (by omega)] at hy
        exact h74 x hxm y hy
      · simp only [List.mem_cons, List.not_mem_nil, or_false] at hxm
        rcases hxm with rfl | rfl
        · rw [i0] at hy
          injection hy with hy
          subst hy
          exact .inr hk
        · rw [i1] at hy
          injection hy with hy
          subst hy
          exact .inl rfl

/-! ### Places -/
def lf : G ⊕ Int → Option G
  | .inl g => some g
  | .inr _ => none
def abstep (s : Plc) : G ⊕ Int → Plc
  | .inl _ => ⟨s.x + s.sz.headD 0, s.sz.tail, s.out ++ [s.x]⟩
  | .inr w => ⟨s.x + w, s.sz, s.out ++ [s.x]⟩
theorem lf_inl (g : G) (A : List (G ⊕ Int)) : (Sum.inl g :: A).filterMap lf = g :: A.filterMap lf := by rw [List.filterMap_cons]; rfl
theorem lf_inr (w : Int) (A : List (G ⊕ Int)) : (Sum.inr w :: A).filterMap lf = A.filterMap lf := by rw [List.filterMap_cons]; rfl
theorem itA_some {L : List Nd} {x : Nat} {u : G ⊕ Int} (h : itA L x = some u) : ∃ y, L[x]? = some y ∧ ((y.kind = 7 ∧ u = .inl (gOf y)) ∨ (¬ y.kind = 7 ∧ u = .inr y.wd)) := by
  unfold itA at h
  cases hy : L[x]? with
  | none => rw [hy] at h; cases h
  | some y =>
    rw [hy, Option.map_some] at h
    injection h with h
    refine ⟨y, rfl, ?_⟩
    by_cases hk : y.kind = 7
    · rw [if_pos hk] at h; exact .inl ⟨hk, h.symm⟩
    · rw [if_neg hk] at h; exact .inr ⟨hk, h.symm⟩
theorem skF_ab {L : List Nd} : ∀ {xs : List Nat} {A : List (G ⊕ Int)} (s : List G), xs.map (itA L) = A.map some → skF L xs s = s ++ A.filterMap lf
  | [], A, s, h => by
    obtain rfl : A = [] := by simpa using h.symm
    simp [skF]
  | x :: xs, [], s, h => by simp at h
  | x :: xs, u :: A, s, h => by
    simp only [List.map_cons, List.cons.injEq] at h
    obtain ⟨y, hy, hu⟩ := itA_some h.1
    rw [skF_cons]
    rcases hu with ⟨hk, rfl⟩ | ⟨hk, rfl⟩
    · rw [skstep_yes hy hk, skF_ab _ h.2, lf_inl, List.append_assoc]
      rfl
    · rw [skstep_no hy hk, skF_ab _ h.2, lf_inr]
theorem plF_ab {L : List Nd} {f : Nat → Int} : ∀ {xs : List Nat} {A : List (G ⊕ Int)} (s : Plc), xs.map (itA L) = A.map some → (∀ x ∈ xs, ∀ y, L[x]? = some y → ¬ y.kind = 7 → f x = y.wd) → plF L f xs s = A.foldl abstep s
  | [], A, s, h, _ => by
    obtain rfl : A = [] := by simpa using h.symm
    rfl
  | x :: xs, [], s, h, _ => by simp at h
  | x :: xs, u :: A, s, h, hf => by
    simp only [List.map_cons, List.cons.injEq] at h
    obtain ⟨y, hy, hu⟩ := itA_some h.1
    rw [plF_cons, List.foldl_cons, plF_ab _ h.2 fun z hz => hf z (by simp [hz])]
    rcases hu with ⟨hk, rfl⟩ | ⟨hk, rfl⟩
    · rw [plstep_yes hy hk]; rfl
    · rw [plstep_no hy hk, hf x (by simp) y hy hk]; rfl
theorem ab_out : ∀ (A : List (G ⊕ Int)) (s : Plc), ∃ T, (A.foldl abstep s).out = s.out ++ T ∧ T.length = A.length
  | [], s => ⟨[], by simp, rfl⟩
  | u :: A, s => by
    obtain ⟨T, hT, hl⟩ := ab_out A (abstep s u)
    refine ⟨s.x :: T, ?_, by simp [hl]⟩
    rw [List.foldl_cons, hT]
    cases u <;> simp [abstep]
theorem ab_sz (R : List Int) : ∀ (A : List (G ⊕ Int)) (x : Int) (Z o : List Int), Z.length = (A.filterMap lf).length → A.foldl abstep ⟨x, Z ++ R, o⟩ = ⟨(A.foldl abstep ⟨x, Z, o⟩).x, (A.foldl abstep ⟨x, Z, o⟩).sz ++ R, (A.foldl abstep ⟨x, Z, o⟩).out⟩
  | [], x, Z, o, _ => rfl
  | .inl g :: A, x, Z, o, h => by
    cases Z with
    | nil => rw [lf_inl] at h; simp at h
    | cons z Z =>
      have h2 : Z.length = (A.filterMap lf).length := by rw [lf_inl] at h; simpa using h
      exact ab_sz R A (x + z) Z (o ++ [x]) h2
  | .inr w :: A, x, Z, o, h => by
    have h2 : Z.length = (A.filterMap lf).length := by rw [lf_inr] at h; exact h
    exact ab_sz R A (x + w) Z (o ++ [x]) h2
end Go.Proofs.Ytoboecenlangmaa.Al
namespace Go.Proofs.Ytoboecenlangmaa.Gl
theorem fold_pre {sign order N D : Int} : ∀ (B : List G) (z0 z : Sz), B.foldl (fun z g => z.bind fun z => step sign order N D z g) (some z0) = some z → ∃ R, z.o = z0.o ++ R
  | [], z0, z, h => by
    simp only [List.foldl_nil, Option.some.injEq] at h
    subst h
    exact ⟨[], by simp⟩
  | g :: B, z0, z, h => by
    simp only [List.foldl_cons, Option.bind_some] at h
    cases hs : step sign order N D z0 g with
    | none => rw [hs, fold_none] at h; cases h
    | some z1 =>
      rw [hs] at h
      obtain ⟨R, hR⟩ := fold_pre B z1 z h
      obtain ⟨y, hy⟩ : ∃ y, z1.o = z0.o ++ [y] := by
        unfold step at hs
        split at hs
        · split at hs
          · injection hs with hs; subst hs; exact ⟨_, rfl⟩
          · cases hs
        · split at hs
          · split at hs
            · injection hs with hs; subst hs; exact ⟨_, rfl⟩
            · cases hs
          · injection hs with hs; subst hs; exact ⟨_, rfl⟩
      exact ⟨y :: R, by rw [hR, hy, List.append_assoc]; rfl⟩
/-- What stands at the head of a row that is set. -/
theorem sz_pre {A B : List G} {sign order N D : Int} (h : szE (A ++ B) sign order N D = 0) : szE A sign order N D = 0 ∧ ∃ R, szL (A ++ B) sign order N D = szL A sign order N D ++ R := by
  obtain ⟨h1, h2, h3, z, hz⟩ := szE_zero h
  obtain ⟨hl, ha⟩ := rowE_zero h1
  have hA : rowE A = 0 := rowE_ok (by simp at hl; omega) (by rw [List.all_append, Bool.and_eq_true] at ha; exact ha.1)
  have hz2 := hz
  unfold run at hz2
  rw [List.foldl_append] at hz2
  cases hr : run sign order N D A with
  | none => 
    have hr2 := hr
    unfold run at hr2
    rw [hr2, fold_none] at hz2
    cases hz2
  | some z1 =>
    have hr2 := hr
    unfold run at hr2
    rw [hr2] at hz2
    obtain ⟨R, hR⟩ := fold_pre B z1 z hz2
    refine ⟨(szE_some hA h2 h3 hr).1, R, ?_⟩
    rw [(szE_some h1 h2 h3 hz).2, (szE_some hA h2 h3 hr).2, hR]
end Go.Proofs.Ytoboecenlangmaa.Gl
namespace Go.Proofs.Ytoboecenlangmaa.Al
open Np Pk
open Gl (G)
set_option linter.unusedVariables false
/-- In a row the columns begin where they do in the head. -/
theorem places_pre {W : List Int} {S : List G} {m k : Nat} {L1 L2 : List Nd} {x1 x2 : Nd} {f1 f2 : Nat → Int} {xs1 xs2 : List Nat}
    (e1 : xs1.map (itA L1) = (ab W S m).map some) (e2 : xs2.map (itA L2) = (ab W S (m + k)).map some)
    (g1 : ∀ x ∈ xs1, ∀ y, L1[x]? = some y → ¬ y.kind = 7 → f1 x = y.wd) (g2 : ∀ x ∈ xs2, ∀ y, L2[x]? = some y → ¬ y.kind = 7 → f2 x = y.wd)
    (hs : x1.sign = x2.sign ∧ x1.order = x2.order ∧ x1.num = x2.num ∧ x1.den = x2.den) (h : (plcR x2 L2 f2 xs2).2 = 0) :
    (plcR x1 L1 f1 xs1).2 = 0 ∧ (plcR x1 L1 f1 xs1).1.length = 2 * m + 1 ∧ ∃ T, (plcR x2 L2 f2 xs2).1 = (plcR x1 L1 f1 xs1).1 ++ T := by
  obtain ⟨s1, s2, s3, s4⟩ := hs
  obtain ⟨T, hT⟩ := ab_pre W S m k
  have k1 : skF L1 xs1 [] = (ab W S m).filterMap lf := by rw [skF_ab _ e1, List.nil_append]
  have k2 : skF L2 xs2 [] = (ab W S m).filterMap lf ++ T.filterMap lf := by rw [skF_ab _ e2, List.nil_append, hT, List.filterMap_append]
  unfold plcR at h ⊢
  rw [k2] at h ⊢
  rw [k1, s1, s2, s3, s4]
  by_cases hE : Gl.szE ((ab W S m).filterMap lf ++ T.filterMap lf) x2.sign x2.order x2.num x2.den = 0
  · obtain ⟨hA, R, hR⟩ := Gl.sz_pre hE
    rw [if_pos hE, if_pos hA, hR]
    refine ⟨rfl, ?_, ?_⟩
    · show (plF L1 f1 xs1 _).out.length = _
      rw [plF_ab _ e1 g1]
      obtain ⟨U, hU, hl⟩ := ab_out (ab W S m) ⟨0, Gl.szL ((ab W S m).filterMap lf) x2.sign x2.order x2.num x2.den, []⟩
      rw [hU, List.nil_append, hl, ab_len]
    · show ∃ T, (plF L2 f2 xs2 _).out = (plF L1 f1 xs1 _).out ++ T
      rw [plF_ab _ e1 g1, plF_ab _ e2 g2, hT, List.foldl_append, ab_sz R _ _ _ _ (Gl.szL_in hA).1]
      obtain ⟨U, hU, _⟩ := ab_out T ⟨((ab W S m).foldl abstep ⟨0, Gl.szL ((ab W S m).filterMap lf) x2.sign x2.order x2.num x2.den, []⟩).x, ((ab W S m).foldl abstep ⟨0, Gl.szL ((ab W S m).filterMap lf) x2.sign x2.order x2.num x2.den, []⟩).sz ++ R, ((ab W S m).foldl abstep ⟨0, Gl.szL ((ab W S m).filterMap lf) x2.sign x2.order x2.num x2.den, []⟩).out⟩
      exact ⟨U, hU⟩
  · rw [if_neg hE] at h
    exact absurd h hE
/-- A list of which nothing leaves stays whole. -/
theorem part_stay {ns : List Nd} : ∀ (ys : List Nat) (a : Nat) (s u : List Nd), Its ys (ns.drop a) a → a ≤ ns.length → (∀ x ∈ ys, ∀ y, ns[x]? = some y → y.kind = 7 ∨ y.kind = 4) → partF ns ys (s, u) = (s ++ ns.drop a, u)
  | [], a, s, u, h, ha, _ => by
    have : ns.drop a = [] := h
    rw [this]
    simp [partF]
  | y :: ys, a, s, u, h, ha, hk => by
    obtain ⟨rfl, m, hm, hx⟩ := h
    have hb := endc_bd hm
    rw [List.length_drop] at hb
    obtain ⟨x, hxx⟩ : ∃ x, ns[y]? = some x := ⟨_, List.getElem?_eq_getElem (by omega)⟩
    have h74 := hk y (by simp) x hxx
    rw [partF_cons, pstep_stay hxx hm (by omega) (by omega) (by omega)]
    rw [List.drop_drop] at hx
    rw [part_stay ys (y + m) _ u hx (by omega) fun z hz => hk z (by simp [hz])]
    rw [List.append_assoc, ← List.drop_drop, List.take_append_drop]
theorem rp_part {W : List Int} {S : List G} {m : Nat} {L : List Nd} (h : RP W S m L) : partD L = (L, []) := by
  obtain ⟨xs, hx, _, hk⟩ := rp_its h
  unfold partD
  rw [itsD_of hx, part_stay xs 0 [] [] (by rw [List.drop_zero]; exact hx) (Nat.zero_le _) hk]
  simp
/-- The row of empty columns. -/
def headL (W : List Int) (S : List G) : List Nd := rowOf S (W.map fun w => (hN w 0 0, []))
theorem head_rp (W : List Int) (S : List G) : RP W S W.length (headL W S) := by
  refine ⟨_, by simp, rfl, fun i b hb => ?_⟩
  rw [List.getElem?_map] at hb
  cases hw : W[i]? with
  | none => rw [hw] at hb; cases hb
  | some w =>
    rw [hw] at hb
    simp only [Option.map_some, Option.some.injEq] at hb
    subst hb
    refine ⟨rfl, ?_, rfl⟩
    rw [List.getD_eq_getElem?_getD, hw]
    rfl
theorem head_step {W : List Int} {S : List G} {j : Nat} {w : Int} (h : W[j]? = some w) : headL (W.take (j + 1)) S = headL (W.take j) S ++ [hN w 0 0, nz 6, skN (S.getD (j + 1) gz)] := by
  have hl : j < W.length := (List.getElem?_eq_some_iff.1 h).1
  unfold headL rowOf
  rw [List.take_add_one, h, List.map_append, Option.toList_some, List.map_cons, List.map_nil, rpL_snoc, List.cons_append]
  simp only [List.length_map, List.length_take, Nat.zero_add]
  rw [Nat.min_eq_left (by omega)]
  rfl
end Go.Proofs.Ytoboecenlangmaa.Al
end
section
namespace Go.Proofs.Ytoboecenlangmaa.Pk
open Go.ChangeShapes Go.WideShapes Go.ChangeAt Go.RowKit
open Me Np No
set_option linter.unusedVariables false
set_option linter.unusedSimpArgs false

attribute [local go_sem ↓] bldN_eq
set_option maxHeartbeats 20000000 in
set_option maxRecDepth 100000 in
theorem hpack_t (A : Option Addr) (ns S O L : List Nd) (k : Nat) (tw : Int) (w : World) (hc : chk ns = 0) (hcap : ns.length ≤ k) (hseg : Seg w w.heap.size A (ns.flatMap ncs)) (ht : dimB tw = true) (hS : partD ns = (S, O)) (x a b c d p q r s e1 h v e2 e3 W : Int) (M : Msr S false x a b c d p q r s e1 h v e2)
    (hW : W = tw)
    (hw : ∀ (A : Option Addr) (c' : Nat) (w : World), Src w A c' S → Calls Try.prog 79 #[.agg (nc (fitN (hN W h v) (Gl.fit a b c d p q r s (W - x)))), .slice A S.length c'] w fun e' w' => ∃ v, e' = .returned (.tuple #[v, .int .i64 e3]) ∧ w'.ownsRow w.heap.size 54 19 v L.length (L.flatMap ncs) ∧ Below w.heap.size w w') :
    Calls Try.prog 20 #[.slice A ns.length k, .int .i64 tw, .bool true] w (HOut (hpkR e1 e2 (dimB W) e3 L O (setV (fitN (hN W h v) (Gl.fit a b c d p q r s (W - x))) a p ((S.length : Int) == 0) (W - x) (0, 0)).1 (setV (fitN (hN W h v) (Gl.fit a b c d p q r s (W - x))) a p ((S.length : Int) == 0) (W - x) (0, 0)).2) w) := by
  have hSl : S.length ≤ 2000 := by have := (partD_len hc).1; rw [hS] at this; exact this
  have HC := Lib.hid (check_any A ns k w (by have := (chk_run hc).1; omega) hseg)
  rw [hc] at HC
  have HD := Lib.hid (fun w => dimen_any tw w)
  rw [ht] at HD
  have HP := Lib.hid (fun w1 (hb : Below w.heap.size w w1) => parted_any A ns k w1 hc hcap (Seg.belowW hseg hb))
  rw [hS] at HP
  have HM := Lib.hid M
  have HMT := Lib.hid M.tot
  have HME := Lib.hid M.ext
  have HW := Lib.hid hw
  obtain ⟨R, hR⟩ : ∃ R, R = hpkR e1 e2 (dimB W) e3 L O (setV (fitN (hN W h v) (Gl.fit a b c d p q r s (W - x))) a p ((S.length : Int) == 0) (W - x) (0, 0)).1 (setV (fitN (hN W h v) (Gl.fit a b c d p q r s (W - x))) a p ((S.length : Int) == 0) (W - x) (0, 0)).2 := ⟨_, rfl⟩
  rw [← hR]
  have HR := Lib.hid hR
  clear hR
  have HWE := Lib.hid hW
  have htw : -1073741823 ≤ tw ∧ tw ≤ 1073741823 := by simpa [dimB] using ht
  clear hseg hc hS M hw hW ht
  generalize ns.length = len at *
  have hb4 := run_bldN 4
  go_enter Try.func20, Try.ntmps20
  go_wp2_with fail
  refine HC.out.mono ?_
  rintro e w1 ⟨rfl, hb1⟩
  go_wp2_with (go_at_call 41; refine (HD.out _).mono ?_; rintro e w' ⟨rfl, rfl⟩)
  refine (HP.out _ hb1).mono ?_
  rintro e w2 ⟨vS, vO, rfl, hO, hb2⟩
  have hb12 := andThen hb1 hb2
  obtain ⟨AS, kS, hvS, hkS⟩ : ∃ A c, vS = .slice A S.length c ∧ S.length ≤ c := by
    obtain ⟨A, c, h1, h2, _⟩ := Src.own hO.one
    exact ⟨A, c, h1, h2⟩
  subst hvS
  have HH := Lib.hid (show Own2 w2 w.heap.size (.slice AS S.length kS) vO S O from ⟨own_base hO.one hb1.size, own_base hO.two hb1.size, hO.dist, hO.dist'⟩)
  have HB2 := Lib.hid hb12
  clear hO hb1 hb2 hb12 HC HP
  generalize hem : ((S.length : Int) == 0) = em
  have HMW := Lib.hid (fun (g : Nat) (bad ov : Int) (A : Option Addr) (k : Nat) (w : World) (hg : Mk w g (fitN (hN W h v) (Gl.fit a b c d p q r s (W - x))) x a b c d p q r s em bad ov 0) (hs : Src w A k S) => mwrap_any g _ x a b c d p q r s em bad ov S L e3 A k w hg HW.out hs)
  clear HW
  generalize hln : S.length = lS at hSl hkS hem HH HMW HMT HME HR ⊢
  have HLS := Lib.hid hln
  have HEM := Lib.hid hem
  clear hln
  go_wp2_with (first | (refine wpList_build_eq (o := ⟨some 32, _, _, _, _, _⟩) rfl _ _ rfl (mkc (nz 4) 0 0 0 0 0 0 0 0 0 em 0 0 0) (by kernel_rfl) ?_))
  have hs0 : Hs w (.slice AS lS kS) vO S O w2.heap.size (nz 4) 0 0 0 0 0 0 0 0 0 em 0 0 0 (w2.alloc (.cells (mkc (nz 4) 0 0 0 0 0 0 0 0 0 em 0 0 0) 97)) := ⟨Blk.new' rfl, HH.out.below (andAlloc (Below.refl _ _) _), andAlloc HB2.out _, HB2.out.size⟩
  clear HH HB2
  generalize w2.alloc (.cells (mkc (nz 4) 0 0 0 0 0 0 0 0 0 em 0 0 0) 97) = w3 at hs0 ⊢
  generalize w2.heap.size = g at hs0 ⊢
  refine (HMT.out AS kS w3 hkS hs0.seg).mono ?_
  rintro e w4 ⟨rfl, hb4'⟩
  have hs4 := hs0.below hb4'
  have hth := mk_there hs4.mkr
  have HS4 := Lib.hid hs4
  clear hs0 hb4' hs4
  have hs5 := HS4.out.turn (grown_cells g _ 19 w4) (mk_tot HS4.out.mkr x a b c d p q r s)
  have HS5 := Lib.hid hs5
  clear hs5
  by_cases he1 : e1 = 0
  · have t1 : (e1 != 0) = false := by simp [he1]
    by_cases he2 : e2 = 0
    · have t2 : (e2 != 0) = false := by simp [he2]
      · skip
        have hWE : W = tw := HWE.out
        subst hWE
        go_upto_region 20 with (first | (refine wpList_store_mid (op := ⟨none, .store _ (.tmp 43) (.tmp 40), _, _, _, _⟩) rfl 69 _ _ rfl g 19 #[.int .i64 x, .int .i64 a, .int .i64 b, .int .i64 c, .int .i64 d, .int .i64 p, .int .i64 q, .int .i64 r, .int .i64 s] ?_ rfl hth tot_info (t9_one _ _ _ _ _ _ _ _ _) ?_; rfl) | (go_at_call 44; refine (HME.out AS kS _ hkS HS5.out.seg).mono ?_; rintro e w6 ⟨rfl, hb6⟩; have HS6 := Lib.hid (HS5.out.below hb6); clear hb6; have hd3 : w6.cell? ⟨g, 3, none⟩ = some (.int .i64 0) := Blk.cell HS6.out.mkr 3; have hf3 := Blk.free HS6.out.mkr 3; have hd4 : w6.cell? ⟨g, 4, none⟩ = some (.int .i64 0) := Blk.cell HS6.out.mkr 4; have hf4 := Blk.free HS6.out.mkr 4; have hd5 : w6.cell? ⟨g, 5, none⟩ = some (.int .i64 0) := Blk.cell HS6.out.mkr 5; have hf5 := Blk.free HS6.out.mkr 5; have hd19 : w6.cell? ⟨g, 19, none⟩ = some (.int .i64 x) := Blk.cell HS6.out.mkr 19) | (go_at_call 41; refine (HD.out _).mono ?_; rintro e w' ⟨rfl, rfl⟩))
        have hs7 := (HS6.out.n45 h v).n3 W
        have HS7 := Lib.hid hs7
        generalize ((w6.setCell ⟨g, 4, none⟩ (.int .i64 h)).setCell ⟨g, 5, none⟩ (.int .i64 v)).setCell ⟨g, 3, none⟩ (.int .i64 W) = w7 at HS7 ⊢
        clear hs7 hd3 hf3 hd4 hf4 hd5 hf5 hd19 HS6 HS5 HS4 hth
        have HDW := Lib.hid (HD.out w)
        have hdw : dimB W = true := by simpa [dimB] using htw
        have HDW := Lib.hid hdw
        have hnx := HM.out.nat he1
        have hnx' : -1073741823 ≤ x ∧ x ≤ 1073741823 := by simpa [dimB] using hnx
        have HNW := Lib.hid (show Gl.nearB (W - x) = true by unfold Gl.nearB; rw [decide_eq_true_eq]; omega)
        clear hnx hdw
        have hd3' : w7.cell? ⟨g, 3, none⟩ = some (.int .i64 (W)) := Blk.cell HS7.out.mkr 3
        have hd19' : w7.cell? ⟨g, 19, none⟩ = some (.int .i64 x) := Blk.cell HS7.out.mkr 19
        have hsub : IntKind.i64.wrap (W - x) = W - x := IntWalk.i64_in _ (by omega)
        go_still_tail 12, (by kernel_rfl)
        change wpList _ _ _ _ _ w7.drew
        have hs8 := HS7.out.below (Below.drew (Below.refl _ w7))
        generalize w7.drew = w8 at hs8 ⊢
        have HS8 := Lib.hid hs8
        clear hs8 hd3' hd19' HS7
        by_cases he3 : e3 = 0
        · have t3 : (e3 != 0) = false := by simp [he3]
          go_upto_region 24 with (first | (go_at_call 43; refine (set_any g (hN (W) h v) x a b c d p q r s em 0 0 (W - x) _ HS8.out.mkr HNW.out (HM.out.near he1).1 (HM.out.near he1).2.2.2.2.1 (HM.out.near he1).2.1 (HM.out.near he1).2.2.2.2.2.1 (HM.out.near he1).2.2.1 (HM.out.near he1).2.2.2.2.2.2.1 (HM.out.near he1).2.2.2.1 (HM.out.near he1).2.2.2.2.2.2.2).mono ?_; rintro e w9 ⟨rfl, hm9, hg9⟩; have HS9 := Lib.hid (HS8.out.turn hg9 hm9); clear hm9 hg9) | (go_at_call 45; refine (HMW.out g _ _ AS kS _ HS9.out.mkr HS9.out.src).mono ?_; rintro e wq ⟨vL, rfl, hoL, hbL⟩; have HO9 := Lib.hid (And.intro hoL hbL); clear hoL hbL))
          have HK9 := Lib.hid (HS9.out.below HO9.out.2).mkr
          have hd29 : wq.cell? ⟨g, 29, none⟩ = some (.int .i64 (setV (fitN (hN (W) h v) (Gl.fit a b c d p q r s (W - x))) a p em (W - x) (0, 0)).1) := Blk.cell HK9.out 29
          have hd30 : wq.cell? ⟨g, 30, none⟩ = some (.int .i64 (setV (fitN (hN (W) h v) (Gl.fit a b c d p q r s (W - x))) a p em (W - x) (0, 0)).2) := Blk.cell HK9.out 30
          have hr : R = (L, O, (setV (fitN (hN (W) h v) (Gl.fit a b c d p q r s (W - x))) a p em (W - x) (0, 0)).1, (setV (fitN (hN (W) h v) (Gl.fit a b c d p q r s (W - x))) a p em (W - x) (0, 0)).2, 0) := by rw [HR.out, HEM.out]; unfold hpkR; rw [if_pos he1, if_pos he2, if_pos HDW.out, if_pos he3]
          have HR' := Lib.hid hr
          clear hr HR
          have HO := Lib.hid (fun y z => HS9.out.out HO9.out.1 HO9.out.2 y z)
          generalize (setV (fitN (hN (W) h v) (Gl.fit a b c d p q r s (W - x))) a p em (W - x) (0, 0)).1 = y1 at *
          generalize (setV (fitN (hN (W) h v) (Gl.fit a b c d p q r s (W - x))) a p em (W - x) (0, 0)).2 = y2 at *
          go_quiet (fail)
          go_wp2_with fail
          go_returns
          rw [HR'.out]
          exact (HO.out _ _).drewN _
        · have t3 : (e3 != 0) = true := by simp [he3]
          have hr : R = ([], [], 0, 0, e3) := by rw [HR.out]; unfold hpkR; rw [if_pos he1, if_pos he2, if_pos HDW.out, if_neg he3]
          have HR' := Lib.hid hr
          clear hr HR
          go_wp2_with (first | (go_at_call 43; refine (set_any g (hN (W) h v) x a b c d p q r s em 0 0 (W - x) _ HS8.out.mkr HNW.out (HM.out.near he1).1 (HM.out.near he1).2.2.2.2.1 (HM.out.near he1).2.1 (HM.out.near he1).2.2.2.2.2.1 (HM.out.near he1).2.2.1 (HM.out.near he1).2.2.2.2.2.2.1 (HM.out.near he1).2.2.2.1 (HM.out.near he1).2.2.2.2.2.2.2).mono ?_; rintro e w9 ⟨rfl, hm9, hg9⟩; have HS9 := Lib.hid (HS8.out.turn hg9 hm9); clear hm9 hg9) | (go_at_call 45; refine (HMW.out g _ _ AS kS _ HS9.out.mkr HS9.out.src).mono ?_; rintro e wq ⟨vL, rfl, hoL, hbL⟩; have HO9 := Lib.hid (And.intro hoL hbL); clear hoL hbL))
          go_returns
          rw [HR'.out]
          exact HOut.no (andThen HS9.out.low HO9.out.2) _
    · have t2 : (e2 != 0) = true := by simp [he2]
      have hr : R = ([], [], 0, 0, e2) := by rw [HR.out]; unfold hpkR; rw [if_pos he1, if_neg he2]
      have HR' := Lib.hid hr
      clear hr HR
      go_wp2_with (first | (refine wpList_store_mid (op := ⟨none, .store _ (.tmp 43) (.tmp 40), _, _, _, _⟩) rfl 69 _ _ rfl g 19 #[.int .i64 x, .int .i64 a, .int .i64 b, .int .i64 c, .int .i64 d, .int .i64 p, .int .i64 q, .int .i64 r, .int .i64 s] ?_ rfl hth tot_info (t9_one _ _ _ _ _ _ _ _ _) ?_; rfl) | (go_at_call 44; refine (HME.out AS kS _ hkS HS5.out.seg).mono ?_; rintro e w6 ⟨rfl, hb6⟩; have HS6 := Lib.hid (HS5.out.below hb6); clear hb6; have hd3 : w6.cell? ⟨g, 3, none⟩ = some (.int .i64 0) := Blk.cell HS6.out.mkr 3; have hf3 := Blk.free HS6.out.mkr 3; have hd4 : w6.cell? ⟨g, 4, none⟩ = some (.int .i64 0) := Blk.cell HS6.out.mkr 4; have hf4 := Blk.free HS6.out.mkr 4; have hd5 : w6.cell? ⟨g, 5, none⟩ = some (.int .i64 0) := Blk.cell HS6.out.mkr 5; have hf5 := Blk.free HS6.out.mkr 5; have hd19 : w6.cell? ⟨g, 19, none⟩ = some (.int .i64 x) := Blk.cell HS6.out.mkr 19))
      go_returns
      rw [HR'.out]
      exact HOut.no (HS6.out.n45 h v).low _
  · have t1 : (e1 != 0) = true := by simp [he1]
    have hr : R = ([], [], 0, 0, e1) := by rw [HR.out]; unfold hpkR; rw [if_neg he1]
    have HR' := Lib.hid hr
    clear hr HR
    go_wp2_with (refine wpList_store_mid (op := ⟨none, .store _ (.tmp 43) (.tmp 40), _, _, _, _⟩) rfl 69 _ _ rfl g 19 #[.int .i64 x, .int .i64 a, .int .i64 b, .int .i64 c, .int .i64 d, .int .i64 p, .int .i64 q, .int .i64 r, .int .i64 s] ?_ rfl hth tot_info (t9_one _ _ _ _ _ _ _ _ _) ?_; rfl)
    go_returns
    rw [HR'.out]
    exact HOut.no HS5.out.low _
end Go.Proofs.Ytoboecenlangmaa.Pk
end

import Derived.Test.YtmcekdjhkjhcdaaNodeTe
import Derived.Test.YtmcekdjhkjhcdaaNodeGc
import Derived.Test.YtmcekdjhkjhcdaaNodeSm
import Derived.Test.YtmcekdjhkjhcdaaNodeJo
import Derived.Deep.RegionHeld3
/- Merged texts. Conditions: those that each theorem names. -/
section
namespace Go.Proofs.Ytmcekdjhkjhcdaa.No
open Go.ChangeShapes Go.WideShapes Go.ChangeAt Go.RowKit
open Me Np
set_option linter.unusedVariables false
set_option linter.unusedSimpArgs false

/-- A node that no list has: what stands in the room behind a lent one. -/
def mk (k : Int) : Nd := { nz (-k) with text := ⟨#[114, 111, 111, 109]⟩ }
attribute [local go_sem ↓] bldN_eq
set_option maxRecDepth 100000 in
theorem marker_any (k : Int) (w : World) (hk : 0 ≤ k ∧ k ≤ 100) : Calls Try.prog 72 #[.int .i64 k] w fun e w' => e = .returned (.agg (nc (mk k))) ∧ Below w.heap.size w w' := by
  have hw : IntKind.i64.wrap (-k) = -k := IntWalk.i64_in _ (by omega)
  have hbn : ∀ w, (bldN #[(0, .int .i64 (-k)), (14, .string ⟨#[114, 111, 111, 109]⟩)]).run Try.prog w = .ok (.agg (nc (mk k))) w := fun w => by rw [← bldN_eq]; exact run_build w 31 _ _ (by kernel_rfl)
  go_enter Try.func72, Try.ntmps72
  go_wp2_with (first | (refine wpList_alloc_node rfl rfl ?_) | (refine wpList_store_node rfl _ _ rfl _ _ _ rfl rfl _ (by repeat (first | (apply Blk.new'; first | rfl | (simp; done)) | assumption | apply Blk.alloc)) ?_))
  exact bodyPost_ret (v := .agg (nc (mk k))) (results_node rfl _ _ _ _ rfl (by repeat (first | apply NodeAt.row | (apply Blk.new'; first | rfl | (simp; done)) | (apply Blk.node; apply Blk.new'; first | rfl | (simp; done)) | assumption | apply NodeAt.alloc))) rfl ⟨rfl, (by repeat (first | (refine below_setRow ?_ _ _ ?_; rotate_left; focus (simp; done)) | exact Below.refl _ _ | refine andAlloc ?_ _))⟩
end Go.Proofs.Ytmcekdjhkjhcdaa.No
end
section
namespace Go.Proofs.Ytmcekdjhkjhcdaa.No
open Go.ChangeShapes Go.WideShapes Go.ChangeAt Go.RowKit
open Me Np
set_option linter.unusedVariables false
set_option linter.unusedSimpArgs false

theorem next_two {n cap : Nat} (h : cap < n + 2) (hc : n ≤ cap) : Builtin.nextslicecap (n + 2) cap ≤ cap + cap / 4 + 520 := by
  unfold Builtin.nextslicecap
  split
  · omega
  · split
    · omega
    · rw [growBy_four]
      repeat' split
      all_goals omega
/-- A row of the call's own, two nodes longer. -/
theorem run_append_two {w : World} (ty : TypeId) (base : Nat) (hbase : base ≤ w.heap.size) (g n cap : Nat) (xs : List Value) (hown : w.ownsRow base 31 19 (.slice (some ⟨g, 0, none⟩) n cap) n xs) (hn : n ≤ 879609302220) (ad : Addr) (c : Nat) (l : List Nd) (hl2 : l.length = 2)
    (hc : ∀ j u, (l.flatMap ncs)[j]? = some u → w.cell? (ad.add j) = some u) :
    ∃ (g' cap' : Nat) (w' : World), (Builtin.append_ #[22, 22] ty #[.slice (some ⟨g, 0, none⟩) n cap, .slice (some ad) 2 c]).run Try.prog w = .ok (.slice (some ⟨g', 0, none⟩) (n + 2) cap') w' ∧
      w'.ownsRow base 31 19 (.slice (some ⟨g', 0, none⟩) (n + 2) cap') (n + 2) (xs ++ l.flatMap ncs) ∧ w.grownBy w' (some g) := by
  obtain ⟨i, hi, hz, hsi, hbi⟩ := info_parts node_row
  have hfl : (l.flatMap ncs).length = 38 := by rw [flat_length ncs_length, hl2]
  have hfl2 : (l.flatMap ncs).length = 2 * i.size := by rw [hfl, hsi]
  have hxs := hown.1
  have hcells := hown.cells (g := g) rfl
  rcases hown.2 with ⟨h, _⟩ | ⟨g0, cap0, cur, h, hg0, hg, hnc, hcm, hcs, htake⟩
  · simp at h
  simp only [Value.slice.injEq, Option.some.injEq, Addr.mk.injEq, and_true, true_and] at h
  obtain ⟨h1, h2⟩ := h
  subst h1; subst h2
  have hlen : (xs ++ l.flatMap ncs).length = (n + 2) * 19 := by rw [List.length_append, hxs, hfl]; omega
  by_cases hroom : n + 2 ≤ cap
  · have hr := run_append_room (P := Try.prog) w 22 ty 31 i Try.underlying22 hi g n cap cur hg ad 2 c (l.flatMap ncs) hfl2 hc (ncs_one l) hroom (by rw [hsi, hfl, hcs]; omega)
    refine ⟨g, cap, _, hr, ?_, ?_⟩
    · refine ⟨hlen, .inr ⟨g, cap, _, rfl, hg0, setRow_heap w g cur _ _ _ hg, hroom, hcm, ?_, ?_⟩⟩
      · have e : cur.toList.length = cap * 19 := by rw [← hcs]; simp
        simp only [List.size_toArray, List.length_append, List.length_take, List.length_drop, hfl, hsi, e]
        omega
      · rw [hsi]
        simp only [htake]
        rw [← hlen]
        exact List.take_left
    · exact ⟨rfl, rfl, rfl, by simp, fun k _ hk => setRow_other w g k _ (fun e => hk (by rw [e]))⟩
  · have hfit : Builtin.nextslicecap (n + 2) cap * i.bytes ≤ 281474976710656 := by
      have h1 := next_two (n := n) (cap := cap) (by omega) hnc
      rw [hbi]
      omega
    have hr := run_append_grow (P := Try.prog) w 22 ty 31 i _ Try.underlying22 hi hz ⟨g, 0, none⟩ n cap xs (by rw [hsi]; exact hxs) hcells ad 2 c (l.flatMap ncs) hfl2 hc (by omega) (by omega) hfit
    have hge := grownCap_ge w (n + 2) cap 31
    have hle := grownCap_le_maxLen w (n + 2) cap 31 (by simp only [maxLen]; omega)
    refine ⟨w.heap.size, _, _, hr, ?_, ?_⟩
    · refine ⟨hlen, .inr ⟨w.heap.size, _, _, rfl, hbase, heap_alloc_new w.drew _, hge, hle, ?_, ?_⟩⟩
      · rw [Array.size_append, Array.size_append, size_zeroCells, List.size_toArray, List.size_toArray, hxs, hfl, show (Value.agg (nc (nz 0))).cells.size = 19 from rfl]
        omega
      · rw [Array.toList_append, Array.toList_append]
        simp only
        rw [← hlen]
        exact List.take_left
    · exact ⟨rfl, rfl, rfl, by simp, fun k hk _ => heap_alloc_old w.drew _ hk⟩
end Go.Proofs.Ytmcekdjhkjhcdaa.No
end
section
namespace Go.Proofs.Ytmcekdjhkjhcdaa.No
open Go.ChangeShapes Go.WideShapes Go.ChangeAt Go.RowKit
open Me Np
set_option linter.unusedVariables false
set_option linter.unusedSimpArgs false

def marks : List Nd := [mk 7, mk 8]
/-- What Lent answers: a row of the call's own, the list and the two marks; the slice is the list alone. -/
def MadeT (w : World) (l : List Nd) (e : Ending) (w' : World) : Prop :=
  ∃ g cap, e = .returned (.slice (some ⟨g, 0, none⟩) l.length cap) ∧ l.length + 2 ≤ cap ∧ cap ≤ maxLen ∧ w'.ownsRow w.heap.size 31 19 (.slice (some ⟨g, 0, none⟩) (l.length + 2) cap) (l.length + 2) ((l ++ marks).flatMap ncs) ∧ Below w.heap.size w w'
/-- 'append' of a whole slice that came in to an empty one, as long as the reach lets it be. -/
theorem run_append_all {w : World} (ty : TypeId) (base g : Nat) (hbase : base ≤ w.heap.size) (hown : w.ownsRow base 31 19 (.slice (some ⟨g, 0, none⟩) 0 0) 0 []) (B : Nat) (A : Option Addr) (c : Nat) (l : List Nd) (hs : Seg w B A (l.flatMap ncs)) (hA : A = none → c = 0) (hl : l.length ≤ 879609302220) :
    ∃ g' cap w', (Builtin.append_ #[22, 22] ty #[.slice (some ⟨g, 0, none⟩) 0 0, .slice A l.length c]).run Try.prog w = .ok (.slice (some ⟨g', 0, none⟩) l.length cap) w' ∧ w'.ownsRow base 31 19 (.slice (some ⟨g', 0, none⟩) l.length cap) l.length (l.flatMap ncs) ∧ w.grownBy w' (some g) := by
  obtain ⟨i, hi, hz, hsi, hbi⟩ := info_parts node_row
  have hl0 : l.flatMap ncs = [] → l = [] := fun h => by
    have := flat_length ncs_length l
    rw [h] at this
    simp only [List.length_nil] at this
    exact List.eq_nil_of_length_eq_zero (by omega)
  cases A with
  | none =>
    obtain rfl := hA rfl
    have hl : l = [] := by
      rcases hs with h | ⟨b, off, e, _⟩
      · exact hl0 h
      · cases e
    subst hl
    exact ⟨g, 0, w, run_append_owned_none w base 22 ty 31 i 19 Try.underlying22 hi _ 0 [] hown, hown, rfl, rfl, rfl, Nat.le_refl _, fun k _ _ => rfl⟩
  | some ad =>
    have hc : ∀ j u, (l.flatMap ncs)[j]? = some u → w.cell? (ad.add j) = some u := by
      rcases hs with h | ⟨b, off, e, _, h⟩
      · intro j u hu
        rw [h] at hu
        simp at hu
      · injection e with e
        subst e
        intro j u hu
        have hadd : (⟨b, off, none⟩ : Addr).add j = ⟨b, off + j, none⟩ := by unfold Addr.add; split <;> simp_all
        rw [hadd]
        exact h j u hu
    obtain ⟨v', w', hr, h2, h3, h4⟩ := run_append_own (P := Try.prog) w base 22 ty 31 i _ 19 160 Try.underlying22 hi hz hsi hbi rfl (by decide) _ 0 [] hown ad l.length c (l.flatMap ncs) (flat_length ncs_length l) hc (ncs_one l) (by simp only [maxLen]; omega) (by omega) hbase
    simp only [Nat.zero_add, List.nil_append] at h2
    rcases id h2.2 with ⟨rfl, h0⟩ | ⟨g', cap, cur, rfl, _⟩
    · exact absurd (h4.1 rfl).1 (by simp)
    · exact ⟨g', cap, w', hr, h2, h3⟩
theorem wpList_append_all {ops : Array Oper} {rest : List Oper} {o : Oper} {a : Act} {w : World} {Q : Exit → Act → World → Prop} (hgd : o.guard = none) (s x : Operand) (ho : o.op = .call { callee := .builtin .append, args := #[s, x], argTypes := #[22, 22] })
    (base g : Nat) (hbase : base ≤ w.heap.size) (hs : a.eval s = .slice (some ⟨g, 0, none⟩) 0 0) (hown : w.ownsRow base 31 19 (.slice (some ⟨g, 0, none⟩) 0 0) 0 []) (B : Nat) (A : Option Addr) (c len : Nat) (l : List Nd) (hx : a.eval x = .slice A len c) (hlen : len = l.length) (hseg : Seg w B A (l.flatMap ncs)) (hA : A = none → c = 0) (hl : l.length ≤ 879609302220)
    (h : ∀ g' cap w', w'.ownsRow base 31 19 (.slice (some ⟨g', 0, none⟩) len cap) len (l.flatMap ncs) → w.grownBy w' (some g) → wpList Try.prog ops Q rest (a.put o.dst (.slice (some ⟨g', 0, none⟩) len cap)) w') : wpList Try.prog ops Q (o :: rest) a w :=
  wpList_plain hgd fun K hK => by
    subst hlen
    obtain ⟨g', cap, w', hr, h2, h3⟩ := run_append_all o.type base g hbase hown B A c l hseg hA hl
    unfold Oper.wp execOp
    simp only [ho, resolve, invoke, builtin, Sem.run_bind, Sem.run_pure, Result.andThen_ok, List.map_toArray, List.map_cons, List.map_nil, hs, hx, hr]
    exact hK _ _ (h g' cap w' h2 h3)
theorem wpList_append_two {ops : Array Oper} {rest : List Oper} {o : Oper} {a : Act} {w : World} {Q : Exit → Act → World → Prop} (hgd : o.guard = none) (s x : Operand) (ho : o.op = .call { callee := .builtin .append, args := #[s, x], argTypes := #[22, 22] })
    (base g n cap : Nat) (hbase : base ≤ w.heap.size) (xs : List Value) (hs : a.eval s = .slice (some ⟨g, 0, none⟩) n cap) (hown : w.ownsRow base 31 19 (.slice (some ⟨g, 0, none⟩) n cap) n xs) (hn : n ≤ 879609302220) (ad : Addr) (c : Nat) (l : List Nd) (hx : a.eval x = .slice (some ad) 2 c) (hl2 : l.length = 2) (hc : ∀ j u, (l.flatMap ncs)[j]? = some u → w.cell? (ad.add j) = some u)
    (h : ∀ g' cap' w', w'.ownsRow base 31 19 (.slice (some ⟨g', 0, none⟩) (n + 2) cap') (n + 2) (xs ++ l.flatMap ncs) → w.grownBy w' (some g) → wpList Try.prog ops Q rest (a.put o.dst (.slice (some ⟨g', 0, none⟩) (n + 2) cap')) w') : wpList Try.prog ops Q (o :: rest) a w :=
  wpList_plain hgd fun K hK => by
    obtain ⟨g', cap', w', hr, h2, h3⟩ := run_append_two o.type base hbase g n cap xs hown hn ad c l hl2 hc
    unfold Oper.wp execOp
    simp only [ho, resolve, invoke, builtin, Sem.run_bind, Sem.run_pure, Result.andThen_ok, List.map_toArray, List.map_cons, List.map_nil, hs, hx, hr]
    exact hK _ _ (h g' cap' w' h2 h3)
end Go.Proofs.Ytmcekdjhkjhcdaa.No
end
section
namespace Go.Proofs.Ytmcekdjhkjhcdaa.No
open Go.ChangeShapes Go.WideShapes Go.ChangeAt Go.RowKit
open Me Np
set_option linter.unusedVariables false
set_option linter.unusedSimpArgs false

theorem own_cap {w : World} {base : Nat} {e : TypeId} {size g n c : Nat} {xs : List Value} (h : w.ownsRow base e size (.slice (some ⟨g, 0, none⟩) n c) n xs) : n ≤ c ∧ c ≤ maxLen := by
  rcases h.2 with ⟨h', _⟩ | ⟨g', cap', cur, h', _, _, hnc, hcm, _, _⟩
  · simp at h'
  · simp only [Value.slice.injEq, Option.some.injEq, Addr.mk.injEq, and_true, true_and] at h'
    obtain ⟨rfl, rfl⟩ := h'
    exact ⟨hnc, hcm⟩
set_option maxHeartbeats 1000000 in
set_option maxRecDepth 100000 in
theorem lent_any (A : Option Addr) (l : List Nd) (c : Nat) (w : World) (hl : l.length ≤ 879609302220) (hA : A = none → c = 0) (hseg : Seg w w.heap.size A (l.flatMap ncs)) :
    Calls Try.prog 33 #[.slice A l.length c] w (MadeT w l) := by
  have HL := Lib.hid (rfl : l.length = l.length)
  have HA := Lib.hid hA
  have HO0 := Lib.hid (by simpa using World.ownsRow_made w #[] 0 (e := 31) (size := 19) (Nat.le_refl _) (by simp [maxLen]) (by simp) : (w.alloc (.cells #[] 31)).ownsRow w.heap.size 31 19 (.slice (some ⟨w.heap.size, 0, none⟩) 0 0) 0 [])
  have HSG := Lib.hid (Seg.below hseg (andAlloc (Below.refl _ _) (.cells #[] 31)))
  unfold MadeT
  clear hseg hA HL
  generalize hlen : l.length = len at *
  have HL := Lib.hid hlen
  clear hlen
  go_enter Try.func33, Try.ntmps33
  go_wp2_with (first
    | (at_builtin; refine wpList_append_all rfl (.tmp 4) (.tmp 5) rfl w.heap.size w.heap.size ?_ rfl HO0.out w.heap.size A c len l rfl HL.out.symm HSG.out HA.out ?_ ?_; simp; (rw [HL.out]; exact hl); intro g1 cap1 W1 hown1 hg1))
  have hlw1 : Below w.heap.size w W1 := below_grown (Nat.le_refl _) (andAlloc (Below.refl _ _) _) hg1 (fun k hk => by injection hk with hk; omega)
  have HO1 := Lib.hid hown1
  clear hown1 hg1
  refine (marker_any 7 _ (by omega)).mono ?_
  rintro e w2 ⟨rfl, hb2⟩
  have hlw2 := andThen hlw1 hb2
  have HO2 := Lib.hid (own_below HO1.out hb2)
  clear hb2 hlw1
  go_wp2_with fail
  refine (marker_any 8 _ (by omega)).mono ?_
  rintro e w3 ⟨rfl, hb3⟩
  have HLW3 := Lib.hid (andThen hlw2 hb3)
  have HO3 := Lib.hid (own_below (own_below HO2.out hb3) (andAlloc (Below.refl _ _) (.cells (marks.flatMap ncs).toArray 31)))
  have HLW4 := Lib.hid (andAlloc HLW3.out (.cells (marks.flatMap ncs).toArray 31))
  have hcc : ∀ j u, (marks.flatMap ncs)[j]? = some u → (w3.alloc (.cells (marks.flatMap ncs).toArray 31)).cell? ((⟨w3.heap.size, 0, none⟩ : Addr).add j) = some u := by
    intro j u hu
    have hadd : (⟨w3.heap.size, 0, none⟩ : Addr).add j = ⟨w3.heap.size, j, none⟩ := by unfold Addr.add; split <;> simp_all
    rw [hadd, (Blk.new w3 _ _).cell j]
    simpa using hu
  have HCC := Lib.hid hcc
  clear hb3 hlw2 HO2 HO1 hcc
  go_wp2_with (first
    | (refine wpList_ex (o := ⟨some 10, _, _, _, _, _⟩) (v := .slice (some ⟨w3.heap.size, 0, none⟩) 2 2) (w' := w3.alloc (.cells (marks.flatMap ncs).toArray 31)) rfl (by kernel_rfl) ?_)
    | (at_builtin; refine wpList_append_two rfl (.tmp 7) (.tmp 10) rfl w.heap.size g1 len cap1 ?_ _ rfl HO3.out ?_ ⟨w3.heap.size, 0, none⟩ 2 marks rfl rfl HCC.out ?_; (have hh := HLW4.out.size; exact hh); exact hl; intro g2 cap2 W4 hown4 hg4; have hcp := own_cap hown4))
  have hlt := HO3.out.lt g1 rfl
  have HLF := Lib.hid (below_grown (Nat.le_refl _) HLW4.out hg4 (fun k hk => by injection hk with hk; omega) : Below w.heap.size w W4)
  have HOF := Lib.hid hown4
  clear hg4 hown4 hlt
  go_ret
  exact ⟨g2, cap2, rfl, hcp.1, hcp.2, by rw [List.flatMap_append]; exact HOF.out, HLF.out⟩
end Go.Proofs.Ytmcekdjhkjhcdaa.No
end
section
namespace Go.Proofs.Ytmcekdjhkjhcdaa.No
open Go.ChangeShapes Go.WideShapes Go.ChangeAt Go.RowKit
open Me Np
set_option linter.unusedVariables false
set_option linter.unusedSimpArgs false
theorem keepY {w W W' : World} {g len : Nat} (hb : Below W.heap.size W W') (hS : (ldN ⟨g, len * 19, none⟩).run Try.prog W = .ok (.agg (nc (mk 7))) W ∧ (ldN ⟨g, (len + 1) * 19, none⟩).run Try.prog W = .ok (.agg (nc (mk 8))) W ∧ NodeAt W g (len * 19) (mk 7) ∧ NodeAt W g ((len + 1) * 19) (mk 8) ∧ Below w.heap.size w W) : (ldN ⟨g, len * 19, none⟩).run Try.prog W' = .ok (.agg (nc (mk 7))) W' ∧ (ldN ⟨g, (len + 1) * 19, none⟩).run Try.prog W' = .ok (.agg (nc (mk 8))) W' ∧ NodeAt W' g (len * 19) (mk 7) ∧ NodeAt W' g ((len + 1) * 19) (mk 8) ∧ Below w.heap.size w W' := by
  obtain ⟨_, _, h3, h4, h5⟩ := hS
  have g3 := h3.below hb h3.lt
  have g4 := h4.below hb h4.lt
  exact ⟨run_ldN g3, run_ldN g4, g3, g4, andThen h5 hb⟩
theorem keepYb {w W : World} {g len : Nat} (hS : (ldN ⟨g, len * 19, none⟩).run Try.prog W = .ok (.agg (nc (mk 7))) W ∧ (ldN ⟨g, (len + 1) * 19, none⟩).run Try.prog W = .ok (.agg (nc (mk 8))) W ∧ NodeAt W g (len * 19) (mk 7) ∧ NodeAt W g ((len + 1) * 19) (mk 8) ∧ Below w.heap.size w W) : Below w.heap.size w W := hS.2.2.2.2
theorem drewY {w W : World} {g len : Nat} (hS : (ldN ⟨g, len * 19, none⟩).run Try.prog W = .ok (.agg (nc (mk 7))) W ∧ (ldN ⟨g, (len + 1) * 19, none⟩).run Try.prog W = .ok (.agg (nc (mk 8))) W ∧ NodeAt W g (len * 19) (mk 7) ∧ NodeAt W g ((len + 1) * 19) (mk 8) ∧ Below w.heap.size w W) : (ldN ⟨g, len * 19, none⟩).run Try.prog W.drew = .ok (.agg (nc (mk 7))) W.drew ∧ (ldN ⟨g, (len + 1) * 19, none⟩).run Try.prog W.drew = .ok (.agg (nc (mk 8))) W.drew ∧ NodeAt W.drew g (len * 19) (mk 7) ∧ NodeAt W.drew g ((len + 1) * 19) (mk 8) ∧ Below w.heap.size w W.drew := keepY (below_drewN (Below.refl _ _) 1) hS
attribute [local go_sem ↓] ldN_eq eqN_eq
set_option maxHeartbeats 2000000 in
set_option maxRecDepth 100000 in
theorem stays_any (g cap : Nat) (A : Option Addr) (l : List Nd) (c : Nat) (w : World) (hl : l.length ≤ 879609302220) (hcap : l.length + 2 ≤ cap) (hcm : cap ≤ maxLen) (hx : Seg w w.heap.size (some ⟨g, 0, none⟩) ((l ++ marks).flatMap ncs)) (hseg : Seg w w.heap.size A (l.flatMap ncs)) :
    Calls Try.prog 38 #[.slice (some ⟨g, 0, none⟩) l.length cap, .slice A l.length c] w fun e w' => e = .returned (.bool true) ∧ Below w.heap.size w w' := by
  have hn7 : NodeAt w g (l.length * 19) (mk 7) := by
    obtain ⟨b, off, e, _, h⟩ := seg_node (k := l.length) (n := mk 7) hx (by rw [List.getElem?_append_right (Nat.le_refl _), Nat.sub_self]; rfl)
    injection e with e
    injection e with e1 e2
    subst e1; subst e2
    simpa using h
  have hn8 : NodeAt w g ((l.length + 1) * 19) (mk 8) := by
    obtain ⟨b, off, e, _, h⟩ := seg_node (k := l.length + 1) (n := mk 8) hx (by rw [List.getElem?_append_right (by omega), show l.length + 1 - l.length = 1 by omega]; rfl)
    injection e with e
    injection e with e1 e2
    subst e1; subst e2
    simpa using h
  have hxs : Seg w w.heap.size (some ⟨g, 0, none⟩) (l.flatMap ncs) := by
    have h := Seg.take hx (l.length * 19)
    rw [← flat_take ncs_length, List.take_left] at h
    exact h
  have HSM := Lib.hid fun w1 (h : Below w.heap.size w w1) => same_any (some ⟨g, 0, none⟩) A l l cap c w1 (by omega) (by omega) (Seg.belowW hxs h) (Seg.belowW hseg h)
  rw [show sameB l l = true from sameB_iff.2 rfl] at HSM
  have HS0 := Lib.hid (show (ldN ⟨g, l.length * 19, none⟩).run Try.prog w = .ok (.agg (nc (mk 7))) w ∧ (ldN ⟨g, (l.length + 1) * 19, none⟩).run Try.prog w = .ok (.agg (nc (mk 8))) w ∧ NodeAt w g (l.length * 19) (mk 7) ∧ NodeAt w g ((l.length + 1) * 19) (mk 8) ∧ Below w.heap.size w w from ⟨run_ldN hn7, run_ldN hn8, hn7, hn8, Below.refl _ _⟩)
  have hq7 := run_eqN (mk 7) (mk 7)
  have hq8 := run_eqN (mk 8) (mk 8)
  rw [eqB_self] at hq7 hq8
  have hwr : IntKind.i64.wrap ((l.length : Int) + 2) = l.length + 2 := IntWalk.i64_in _ (by omega)
  have hwr1 : IntKind.i64.wrap ((l.length : Int) + 1) = l.length + 1 := IntWalk.i64_in _ (by omega)
  clear hx hseg hxs hn7 hn8
  generalize l.length = len at *
  have hc1 : (len : Int) + 2 ≤ cap := by omega
  have hc2 : (len : Int) ≤ cap := by omega
  have t2 : ((len : Int) + 2).toNat = len + 2 := by omega
  have t1 : ((len : Int) + 1).toNat = len + 1 := by omega
  have i0 : (0 : Int) ≤ (len : Int) := by omega
  have i1 : (len : Int) < (len : Int) + 2 := by omega
  have i2 : (len : Int) < ((len + 2 : Nat) : Int) := by omega
  have i3 : (0 : Int) ≤ (len : Int) + 1 := by omega
  have i4 : (len : Int) + 1 < (len : Int) + 2 := by omega
  have i5 : (len : Int) + 1 < ((len + 2 : Nat) : Int) := by omega
  go_enter Try.func38, Try.ntmps38
  go_wp2_with fail
  go_region_held3 (fun w' => (ldN ⟨g, len * 19, none⟩).run Try.prog w' = .ok (.agg (nc (mk 7))) w' ∧ (ldN ⟨g, (len + 1) * 19, none⟩).run Try.prog w' = .ok (.agg (nc (mk 8))) w' ∧ NodeAt w' g (len * 19) (mk 7) ∧ NodeAt w' g ((len + 1) * 19) (mk 8) ∧ Below w.heap.size w w') (first
      | exact drewY HS0.out
      | exact ⟨by assumption, by assumption, by assumption, by assumption, by assumption⟩
      | exact drewY (w := w) (g := g) (len := len) (by assumption)
      | go_keep) (first
    | (go_at_call 32; refine (HSM.out _ ?_).mono ?_; (refine keepYb (w := w) (g := g) (len := len) ?_; assumption); rintro e wz ⟨rfl, hbz⟩; have hkz := keepY (w := w) (g := g) (len := len) hbz (by assumption); obtain ⟨k0, k1, k2, k3, k4⟩ := hkz)
    | (go_at_call_of 72 (Value.int .i64 7); refine (marker_any 7 _ (by omega)).mono ?_; rintro e wz ⟨rfl, hbz⟩; have hkz := keepY (w := w) (g := g) (len := len) hbz (by assumption); obtain ⟨k0, k1, k2, k3, k4⟩ := hkz)
    | (go_at_call_of 72 (Value.int .i64 8); refine (marker_any 8 _ (by omega)).mono ?_; rintro e wz ⟨rfl, hbz⟩; have hkz := keepY (w := w) (g := g) (len := len) hbz (by assumption); obtain ⟨k0, k1, k2, k3, k4⟩ := hkz))
  all_goals
    go_wp2_with fail
    go_ret
    exact ⟨ret_bool (by simp), by assumption⟩
end Go.Proofs.Ytmcekdjhkjhcdaa.No
end

import Derived.Test.YtoboecenlangmaaGreatNodeBb
/- Contracts of copied and Inside. Conditions: those that each theorem names. -/
namespace Go.Proofs.YtoboecenlangmaaGreat.No
open Go.ChangeShapes Go.WideShapes Go.ChangeAt Go.RowKit
open Me Np
set_option linter.unusedVariables false
set_option linter.unusedSimpArgs false

/-- A slice of the call's own with these nodes. -/
def MadeN (w : World) (l : List Nd) (e : Ending) (w' : World) : Prop := ∃ v, e = .returned v ∧ w'.ownsRow w.heap.size 101 19 v l.length (l.flatMap ncs) ∧ Below w.heap.size w w'
/-- The same, with an error beside it. -/
def MadeNE (w : World) (l : List Nd) (e : Ending) (w' : World) : Prop := ∃ v, e = .returned (.tuple #[v, .int .i64 0]) ∧ w'.ownsRow w.heap.size 101 19 v l.length (l.flatMap ncs) ∧ Below w.heap.size w w'
theorem copied_any (ad : Addr) (l : List Nd) (c : Nat) (w : World) (hl : l.length ≤ 2000) (hc : ∀ j u, (l.flatMap ncs)[j]? = some u → w.cell? (ad.add j) = some u) :
    Calls Tryz.prog 166 #[.slice (some ad) l.length c] w (MadeN w l) := by
  obtain ⟨i, hi, hz, hsi, hbi⟩ := info_parts node_row
  have HC := Lib.hid hc
  clear hc
  go_enter Tryz.func166, Tryz.ntmps166
  go_wp2_with (at_builtin; refine wpList_append_own _ rfl _ _ 39 rfl w.heap.size 101 i _ 19 160 Tryz.underlying39 hi hz hsi hbi rfl (by decide) _ 0 [] rfl (World.ownsRow_nil _ _ _ _) ad l.length c (l.flatMap ncs) rfl (flat_length ncs_length l) HC.out (ncs_one l) ?_ ?_ (Nat.le_refl _) ?_; (simp only [maxLen]; omega); omega; intro v1 w1 hown1 hg1 hnil1)
  go_ret
  exact ⟨_, rfl, by simpa using hown1, below_grown (Nat.le_refl _) (Below.refl _ _) hg1 (fun k hk => by cases hk)⟩
theorem ret_val {a b : Value} {v : Value} (h : b = v) : Ending.returned (.tuple #[a, b]) = .returned (.tuple #[a, v]) := by rw [h]
theorem inside_err (A : Option Addr) (ns : List Nd) (c : Nat) (a : Int) (w : World) (hl : ns.length ≤ 9223372036854775806) (hseg : Seg w w.heap.size A (ns.flatMap ncs)) (hc : ¬ chk ns = 0) :
    Calls Tryz.prog 101 #[.slice A ns.length c, .int .i64 a] w fun e w' => e = .returned (.tuple #[.slice none 0 0, .int .i64 (chk ns)]) ∧ Below w.heap.size w w' := by
  have e0 : (chk ns != 0) = true := by simp [hc]
  have HC := Lib.hid (check_any A ns c w (by omega) hseg)
  have HX := Lib.hid hc
  clear hseg hc
  generalize chk ns = v at *
  generalize ns.length = len at *
  go_enter Tryz.func101, Tryz.ntmps101
  go_wp2_with fail
  refine HC.out.mono ?_
  rintro e w1 ⟨rfl, hb1⟩
  go_wp2_with fail
  go_ret2
  exact ⟨rfl, hb1⟩
theorem inside_none (A : Option Addr) (ns : List Nd) (c : Nat) (a : Int) (w : World) (hl : ns.length ≤ 9223372036854775806) (hseg : Seg w w.heap.size A (ns.flatMap ncs)) (hc : chk ns = 0) (hb : begB ns a = false) :
    Calls Tryz.prog 101 #[.slice A ns.length c, .int .i64 a] w fun e w' => e = .returned (.tuple #[.slice none 0 0, .int .i64 3]) ∧ Below w.heap.size w w' := by
  have HC := Lib.hid (check_any A ns c w (by omega) hseg)
  have HB := Lib.hid hb
  have HE := Lib.hid hc
  have HBG := Lib.hid fun w1 (h : Below w.heap.size w w1) => begins_any A ns c a w1 (by omega) (Seg.belowW hseg h)
  clear hseg hc hb
  rw [HE.out] at HC
  rw [HB.out] at HBG
  generalize ns.length = len at *
  go_enter Tryz.func101, Tryz.ntmps101
  go_wp2_with fail
  refine HC.out.mono ?_
  rintro e w1 ⟨rfl, hb1⟩
  go_wp2_with fail
  refine (HBG.out w1 hb1).mono ?_
  rintro e w' ⟨rfl, rfl⟩
  go_wp2_with fail
  go_ret2
  exact ⟨rfl, hb1⟩
theorem inside_shut (A : Option Addr) (ns : List Nd) (c : Nat) (a : Nat) (x : Nd) (w : World) (hl : ns.length ≤ 9223372036854775806) (hseg : Seg w w.heap.size A (ns.flatMap ncs)) (hc : chk ns = 0) (hb : begB ns a = true) (hx : ns[a]? = some x) (ho : opensB x = false) :
    Calls Tryz.prog 101 #[.slice A ns.length c, .int .i64 (a : Int)] w fun e w' => e = .returned (.tuple #[.slice none 0 0, .int .i64 3]) ∧ Below w.heap.size w w' := by
  have HC := Lib.hid (check_any A ns c w (by omega) hseg)
  have HB := Lib.hid hb
  have HE := Lib.hid hc
  have HO := Lib.hid ho
  have HBG := Lib.hid fun w1 (h : Below w.heap.size w w1) => begins_any A ns c a w1 (by omega) (Seg.belowW hseg h)
  obtain ⟨b, off, rfl, hb', hnode⟩ := seg_node hseg hx
  have hal : a < ns.length := (List.getElem?_eq_some_iff.1 hx).1
  have HN := Lib.hid hnode
  clear hseg hc hb hx hnode ho
  rw [HE.out] at HC
  rw [HB.out] at HBG
  generalize ns.length = len at *
  go_enter Tryz.func101, Tryz.ntmps101
  go_wp2_with fail
  refine HC.out.mono ?_
  rintro e w1 ⟨rfl, hb1⟩
  have hn1 := HN.out.below hb1 hb'
  go_wp2_with (first
    | (go_at_call 148; refine (HBG.out w1 hb1).mono ?_; rintro e w' ⟨rfl, rfl⟩)
    | (go_at_call 79; (with_reducible refine (opens_any _ _).mono ?_); rintro e w' ⟨rfl, rfl⟩; simp only [HO.out])
    | (refine wpList_load_node rfl _ rfl _ _ rfl _ (by assumption) ?_)
    | (refine wpList_load_nodeG rfl _ rfl _ _ rfl _ (by assumption) ?_))
  go_ret2
  exact ⟨rfl, andAlloc hb1 _⟩
theorem own_base {w : World} {base base' : Nat} {e : TypeId} {size n : Nat} {v : Value} {xs : List Value} (h : w.ownsRow base e size v n xs) (hb : base' ≤ base) : w.ownsRow base' e size v n xs := by
  refine ⟨h.1, ?_⟩
  rcases h.2 with h1 | ⟨g, cap, cur, rfl, h1, h2⟩
  · exact .inl h1
  · exact .inr ⟨g, cap, cur, rfl, Nat.le_trans hb h1, h2⟩
/-- What stands within an item that opens. -/
def innerL (ns : List Nd) (a m : Nat) : List Nd := (ns.drop (a + 1)).take (m - 2)
theorem endc_two {ns : List Nd} {a m : Nat} {x : Nd} (hx : ns[a]? = some x) (ho : opensB x = true) (hm : endc (ns.drop a) 0 = some m) : 2 ≤ m := by
  obtain ⟨y, hy, hd⟩ := get_drop (List.getElem?_eq_some_iff.1 hx).1
  rw [hx] at hy
  injection hy with hy
  subst hy
  rw [hd] at hm
  rcases endc_cons hm with ⟨h, _⟩ | ⟨_, h, _⟩
  · simp [cnt, ho] at h
  · exact h
set_option maxHeartbeats 1000000 in
theorem inside_ok (A : Option Addr) (ns : List Nd) (c : Nat) (a m : Nat) (x : Nd) (w : World) (hcap : ns.length ≤ c) (hseg : Seg w w.heap.size A (ns.flatMap ncs)) (hc : chk ns = 0) (hb : begB ns a = true) (hx : ns[a]? = some x) (ho : opensB x = true) (hm : endc (ns.drop a) 0 = some m) :
    Calls Tryz.prog 101 #[.slice A ns.length c, .int .i64 (a : Int)] w (MadeNE w (innerL ns a m)) := by
  have hl := (chk_run hc).1
  have HC := Lib.hid (check_any A ns c w (by omega) hseg)
  have HB := Lib.hid hb
  have HE := Lib.hid hc
  have HO := Lib.hid ho
  have HBG := Lib.hid fun w1 (h : Below w.heap.size w w1) => begins_any A ns c a w1 (by omega) (Seg.belowW hseg h)
  have HEN := Lib.hid fun w1 (h : Below w.heap.size w w1) => end_any A ns c a m w1 (by omega) (Seg.belowW hseg h) hm
  obtain ⟨b, off, rfl, hb', hnode⟩ := seg_node hseg hx
  have hal : a < ns.length := (List.getElem?_eq_some_iff.1 hx).1
  have hm2 := endc_two hx ho hm
  have hmb := (endc_bd hm).2
  rw [List.length_drop] at hmb
  have hml : a + m ≤ ns.length := by omega
  have HN := Lib.hid hnode
  have hil : (innerL ns a m).length = m - 2 := by
    simp only [innerL, List.length_take, List.length_drop]
    omega
  have HIL := Lib.hid hil
  have had : ∀ w' : World, Below w.heap.size w w' → ∀ j u, ((innerL ns a m).flatMap ncs)[j]? = some u → w'.cell? ((⟨b, off + (a + 1) * 19, none⟩ : Addr).add j) = some u := by
    intro w' hw'
    unfold innerL
    rw [flat_take ncs_length, flat_drop ncs_length]
    exact seg_cells (Seg.take (Seg.drop (hseg.below hw') _) _)
  have HAD := Lib.hid had
  clear hseg hc hb hx hnode ho hm had hil
  rw [HE.out] at HC
  rw [HB.out] at HBG
  generalize ns.length = len at *
  go_enter Tryz.func101, Tryz.ntmps101
  go_wp2_with fail
  refine HC.out.mono ?_
  rintro e w1 ⟨rfl, hb1⟩
  have hn1 := HN.out.below hb1 hb'
  have hbo := andAlloc hb1 (.cells (nc x) 101)
  go_wp2_with (first
    | (go_at_call 148; refine (HBG.out w1 hb1).mono ?_; rintro e w' ⟨rfl, rfl⟩)
    | (go_at_call 79; (with_reducible refine (opens_any _ _).mono ?_); rintro e w' ⟨rfl, rfl⟩; simp only [HO.out])
    | (go_at_call 149; refine (HEN.out _ hbo).mono ?_; rintro e w2 ⟨rfl, hb2⟩)
    | (refine wpList_load_node rfl _ rfl _ _ rfl _ (by assumption) ?_)
    | (refine wpList_load_nodeG rfl _ rfl _ _ rfl _ (by assumption) ?_))
  have hln : a + m - 1 - (a + 1) = (innerL ns a m).length := by
    rw [HIL.out]
    omega
  rw [hln]
  have hb12 := andThen hbo hb2
  refine (copied_any _ (innerL ns a m) _ w2 (by rw [← hln]; omega) (HAD.out w2 hb12)).mono ?_
  rintro e w3 ⟨v, rfl, hown, hb3⟩
  have HOWN := Lib.hid hown
  clear hown hln
  go_wp2_with fail
  go_ret2
  exact ⟨v, rfl, own_base HOWN.out hb12.size, andThen hb12 hb3⟩
end Go.Proofs.YtoboecenlangmaaGreat.No

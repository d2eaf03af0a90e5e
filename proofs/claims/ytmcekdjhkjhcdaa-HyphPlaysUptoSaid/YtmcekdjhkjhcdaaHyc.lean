import Derived.Test.YtmcekdjhkjhcdaaHyb
import Derived.Test.YtmcekdjhkjhcdaaHi
import Derived.Test.YtmcekdjhkjhcdaaShelf
/- Exceptions in memory; the contracts of find and of the library's search. Conditions: those that each theorem names. -/
namespace Go.Proofs.Ytmcekdjhkjhcdaa.Hy
open Go.ChangeShapes Go.WideShapes Go.ChangeAt Go.RowKit
open Me Hp
set_option linter.unusedVariables false
set_option linter.unusedSimpArgs false

def xc2 (q : Xc × Value) : List Value := [.string (S q.1.1), q.2]
theorem xc2_len (q : Xc × Value) : (xc2 q).length = 2 := rfl
def xcells (X : List Xc) (us : List Value) : List Value := (X.zip us).flatMap xc2
/-- Exceptions in memory: a row of words and of their points' slices. -/
structure XAt (w : World) (B : Nat) (X : List Xc) (xv : Value) : Prop where
  ex : Exs X
  row : ∃ us : List Value, us.length = X.length ∧ w.ownsRow B 126 2 xv X.length (xcells X us) ∧ ∀ (k : Nat) (x : Xc) (u : Value), X[k]? = some x → us[k]? = some u → w.ownsRow B 3 1 u x.2.length (x.2.map iv)
theorem XAt.nil (w : World) (B : Nat) : XAt w B [] (.slice none 0 0) := ⟨Exs.nil, [], rfl, World.ownsRow_nil _ _ _ _, by intro k x u h; simp at h⟩
theorem XAt.below {w w' : World} {B : Nat} {X : List Xc} {xv : Value} (h : XAt w B X xv) (hb : Below w.heap.size w w') : XAt w' B X xv := by
  obtain ⟨us, h1, h2, h3⟩ := h.row
  exact ⟨h.ex, us, h1, own_below h2 hb, fun k x u hk hu => own_below (h3 k x u hk hu) hb⟩
theorem XAt.slice {w : World} {B : Nat} {X : List Xc} {xv : Value} (h : XAt w B X xv) : ∃ A c, xv = .slice A X.length c ∧ X.length ≤ c ∧ c ≤ maxLen := by
  obtain ⟨us, h1, h2, h3⟩ := h.row
  obtain ⟨A, c, h4, h5, h6, _⟩ := Seg.of_own h2
  exact ⟨A, c, h4, h5, h6⟩
theorem xcells_get {X : List Xc} {us : List Value} {k : Nat} {x : Xc} {u : Value} (hx : X[k]? = some x) (hu : us[k]? = some u) : (xcells X us)[k * 2 + 0]? = some (.string (S x.1)) ∧ (xcells X us)[k * 2 + 1]? = some u := by
  have hz : (X.zip us)[k]? = some (x, u) := by rw [List.getElem?_zip_eq_some]; exact ⟨hx, hu⟩
  exact ⟨flat_get xc2_len _ k _ 0 hz (by decide), flat_get xc2_len _ k _ 1 hz (by decide)⟩
theorem XAt.get {w : World} {B : Nat} {X : List Xc} {xv : Value} (h : XAt w B X xv) {k : Nat} {x : Xc} (hx : X[k]? = some x) : ∃ g c u, xv = .slice (some ⟨g, 0, none⟩) X.length c ∧ X.length ≤ c ∧ B ≤ g ∧ g < w.heap.size ∧
    w.cell? ⟨g, k * 2, none⟩ = some (.string (S x.1)) ∧ w.cell? ⟨g, k * 2 + 1, none⟩ = some u ∧ w.ownsRow B 3 1 u x.2.length (x.2.map iv) := by
  obtain ⟨us, h1, h2, h3⟩ := h.row
  have hk := (List.getElem?_eq_some_iff.1 hx).1
  obtain ⟨u, hu⟩ := get_some (l := us) (k := k) (by omega)
  obtain ⟨g1, g2⟩ := xcells_get hx hu
  rcases h2.2 with ⟨_, h4⟩ | ⟨g, cap, cur, h', hb, hg, hnc, hcm, hcs, htake⟩
  · omega
  · subst h'
    refine ⟨g, cap, u, rfl, hnc, hb, (Array.getElem?_eq_some_iff.1 hg).1, ?_, ?_, h3 k x u hx hu⟩
    · exact (h2.cellAt (k * 2) (by omega)).trans g1
    · exact (h2.cellAt (k * 2 + 1) (by omega)).trans g2
/-- How one exception's word stands to a word. -/
theorem cmp_any (a b : ByteArray) (u : Value) (w : World) : Calls Try.prog 125 #[.agg #[.string a, u], .string b] w fun e w' => e = .returned (.int .i64 (Lib.compareBytes a.data.toList b.data.toList)) ∧ Below w.heap.size w w' := by
  go_enter Try.func125, Try.ntmps125
  go_wp2_with (go_at_call 126; refine (Try.strings_Compare _ _ _).mono ?_; rintro e w' ⟨rfl, rfl⟩)
  go_ret
  exact ⟨rfl, andAlloc (Below.refl _ _) _⟩
set_option maxRecDepth 100000 in
set_option maxHeartbeats 1000000 in
theorem search_any (B : Nat) (X : List Xc) (xv : Value) (s : ByteArray) (w : World) (h : XAt w B X xv) :
    Calls Try.prog 124 #[xv, .string s, .func (.func 125) #[] #[]] w fun e w' => e = .returned (.tuple #[.int .i64 (xk X s.data.toList : Int), .bool (xhas X s.data.toList)]) ∧ Below w.heap.size w w' := by
  obtain ⟨A, c, hxv, hnc, _⟩ := h.slice
  have hXV := Lib.hid hxv
  rw [hxv]
  have H := Lib.hid h
  have hfew : X.length ≤ 1000 := h.ex.few
  have hKn := xk_le X s.data.toList
  generalize hK : xk X s.data.toList = K at hKn
  have HK := Lib.hid hK
  clear hK h hxv
  go_enter Try.func124, Try.ntmps124
  go_wp2_with fail
  go_loopw [9, 10] (fun v9 v10 wr => ∃ lo hi : Nat, v9 = .int .i64 (lo : Int) ∧ v10 = .int .i64 (hi : Int) ∧ lo ≤ K ∧ K ≤ hi ∧ hi ≤ X.length ∧ Below w.heap.size w wr) (fun v9 v10 _ => (intOf v10 - intOf v9).toNat)
  case atStart => exact ⟨0, X.length, rfl, rfl, by omega, hKn, Nat.le_refl _, Below.refl _ _⟩
  case round =>
    obtain ⟨lo, hi, rfl, rfl, h1, h2, h3, hb⟩ := hrel
    have HB := Lib.hid hb
    by_cases hlt : lo < hi
    · obtain ⟨x, hx⟩ := get_some (l := X) (k := (lo + hi) / 2) (by omega)
      obtain ⟨g, cc, u, e1, _, _, hgl, hc0, hc1, _⟩ := (H.out.below hb).get hx
      rw [hXV.out] at e1
      injection e1 with e1 _ e3
      subst e1
      subst e3
      have hcm := cmp_lw x.1 s.data.toList
      have hlwb : (lo + hi) / 2 < K → lw x.1 s.data.toList = true := fun hh => xk_before (by rw [HK.out]; exact hh) hx
      have hlwa : K ≤ (lo + hi) / 2 → lw x.1 s.data.toList = false := fun hh => xk_after H.out.ex.sor (by rw [HK.out]; exact hh) hx
      have hwr : IntKind.i64.wrap ((lo : Int) + (hi : Int)) = (lo : Int) + (hi : Int) := IntWalk.i64_in _ (by omega)
      clear hb
      by_cases hK : (lo + hi) / 2 < K
      · have hneg := hcm.1.2 (hlwb hK)
        rw [← S_list x.1] at hneg
        clear hlwa hlwb hcm
        generalize hcb : Lib.compareBytes (S x.1).data.toList s.data.toList = cb at hneg
        have HCB := Lib.hid hcb
        clear hcb
        go_wp2_with (go_at_call 125; refine (cmp_any _ _ _ _).mono ?_; rintro e w2 ⟨rfl, hb2⟩; rw [HCB.out]; have HB2 := Lib.hid (andThen HB.out hb2); clear hb2)
        go_roundw
        case rel => exact ⟨(lo + hi) / 2 + 1, hi, by rw [show ((lo : Int) + (hi : Int)) / 2 + 1 = (((lo + hi) / 2 + 1 : Nat) : Int) by omega], rfl, by omega, h2, h3, HB2.out⟩
        case measure => simp [intOf]; omega
      · have hnn : ¬ Lib.compareBytes (S x.1).data.toList s.data.toList < 0 := by
          intro hc
          have := hcm.1.1 hc
          rw [hlwa (by omega)] at this
          cases this
        clear hlwa hlwb hcm
        generalize hcb : Lib.compareBytes (S x.1).data.toList s.data.toList = cb at hnn
        have HCB := Lib.hid hcb
        clear hcb
        go_wp2_with (go_at_call 125; refine (cmp_any _ _ _ _).mono ?_; rintro e w2 ⟨rfl, hb2⟩; rw [HCB.out]; have HB2 := Lib.hid (andThen HB.out hb2); clear hb2)
        go_roundw
        case rel => exact ⟨lo, (lo + hi) / 2, rfl, by rw [show ((lo : Int) + (hi : Int)) / 2 = (((lo + hi) / 2 : Nat) : Int) by omega], h1, by omega, by omega, HB2.out⟩
        case measure => simp [intOf]; omega
    · obtain rfl : lo = K := by omega
      obtain rfl : hi = lo := by omega
      have HH := Lib.hid (show xhas X s.data.toList = decide ((X[hi]?).map (·.1) = some s.data.toList) by unfold xhas; rw [HK.out])
      by_cases hn : hi < X.length
      · obtain ⟨x, hx⟩ := get_some hn
        obtain ⟨g, cc, u, e1, _, _, hgl, hc0, hc1, _⟩ := (H.out.below hb).get hx
        rw [hXV.out] at e1
        injection e1 with e1 _ e3
        subst e1
        subst e3
        have hcm := (cmp_lw x.1 s.data.toList).2
        rw [← S_list x.1] at hcm
        have HX := Lib.hid hx
        clear hb hx
        by_cases hxe : (S x.1).data.toList = s.data.toList
        · have hz := hcm.2 hxe
          have HXE := Lib.hid hxe
          clear hcm hxe
          generalize hcb : Lib.compareBytes (S x.1).data.toList s.data.toList = cb at hz
          have HCB := Lib.hid hcb
          clear hcb
          subst hz
          go_wp2_with (go_at_call 125; refine (cmp_any _ _ _ _).mono ?_; rintro e w2 ⟨rfl, hb2⟩; rw [HCB.out]; have HB2 := Lib.hid (andThen HB.out hb2); clear hb2)
          go_ret2
          refine ⟨?_, HB2.out⟩
          rw [HH.out, HX.out]
          have := HXE.out
          rw [S_list] at this
          rw [decide_eq_true (by rw [Option.map_some, this])]
          rfl
        · have hz : ¬ Lib.compareBytes (S x.1).data.toList s.data.toList = 0 := fun e => hxe (hcm.1 e)
          have HXE := Lib.hid hxe
          clear hcm hxe
          generalize hcb : Lib.compareBytes (S x.1).data.toList s.data.toList = cb at hz
          have HCB := Lib.hid hcb
          clear hcb
          have hzb : (cb == 0) = false := by rw [beq_eq_false_iff_ne]; exact hz
          go_wp2_with (go_at_call 125; refine (cmp_any _ _ _ _).mono ?_; rintro e w2 ⟨rfl, hb2⟩; rw [HCB.out]; have HB2 := Lib.hid (andThen HB.out hb2); clear hb2)
          go_ret2
          refine ⟨?_, HB2.out⟩
          rw [HH.out, HX.out]
          have := HXE.out
          rw [S_list] at this
          rw [decide_eq_false (by rw [Option.map_some]; intro e; injection e with e; exact this e)]
          rfl
      · have hd : decide ((hi : Int) < (X.length : Int)) = false := decide_eq_false (by omega)
        clear hb
        go_wp2_with fail
        go_ret2
        refine ⟨?_, HB.out⟩
        rw [HH.out, List.getElem?_eq_none (by omega)]
        rfl
theorem find_any (B p : Nat) (P : List Pt) (X : List Xc) (v xv : Value) (s : ByteArray) (w : World) (h : HyAt w B p P v xv) (hx : XAt w B X xv) :
    Calls Try.prog 66 #[.pointer (some ⟨p, 0, none⟩), .string s] w fun e w' => e = .returned (.tuple #[.int .i64 (xk X s.data.toList : Int), .bool (xhas X s.data.toList)]) ∧ Below w.heap.size w w' := by
  have h2 := h.tr.blk.cell 2
  have HX := Lib.hid hx
  clear h hx
  go_enter Try.func66, Try.ntmps66
  go_wp2_with (refine (search_any B X xv s _ HX.out).mono ?_; rintro e w' ⟨rfl, hb⟩)
  go_ret2
  exact ⟨rfl, hb⟩
end Go.Proofs.Ytmcekdjhkjhcdaa.Hy

import Derived.Test.YtmcekdjhkjhcdaaHe
import Derived.Test.YtmcekdjhkjhcdaaHs
/- The contracts of word, find (where there are no exceptions), told, SameInts. Conditions: those that each theorem names. -/
namespace Go.Proofs.Ytmcekdjhkjhcdaa.Hy
open Go.ChangeShapes Go.WideShapes Go.ChangeAt Go.RowKit
open Me Hp
set_option linter.unusedVariables false
set_option linter.unusedSimpArgs false

def wordB (l : List UInt8) : Bool := decide (1 ≤ l.length) && decide (l.length ≤ 63) && l.all isLet
theorem wordB_no {l : List UInt8} {i : Nat} {c : UInt8} (h : l[i]? = some c) (hc : isLet c = false) : wordB l = false := by
  unfold wordB
  have : l.all isLet = false := by
    rw [List.all_eq_false]
    exact ⟨c, List.mem_of_getElem? h, by simp [hc]⟩
  simp [this]
theorem ret_b {a b : Bool} (h : a = b) : Ending.returned (.bool a) = .returned (.bool b) := by rw [h]
theorem word_any (s : ByteArray) (w : World) (hs : s.size ≤ 1048576) : Calls Try.prog 62 #[.string s] w fun e w' => e = .returned (.bool (wordB s.data.toList)) ∧ w' = w := by
  by_cases h0 : (s.size : Int) < 1
  · have HW := Lib.hid (show wordB s.data.toList = false by unfold wordB; rw [size_list, decide_eq_false (by omega)]; rfl)
    go_enter Try.func62, Try.ntmps62
    go_wp2
    go_ret
    exact ⟨ret_b HW.out.symm, rfl⟩
  · by_cases h1 : (63 : Int) < s.size
    · have HW := Lib.hid (show wordB s.data.toList = false by unfold wordB; rw [size_list, decide_eq_false (p := s.size ≤ 63) (by omega)]; simp)
      go_enter Try.func62, Try.ntmps62
      go_wp2
      go_ret
      exact ⟨ret_b HW.out.symm, rfl⟩
    · go_enter Try.func62, Try.ntmps62
      go_wp2
      go_loop [14] (fun v => ∃ i : Nat, i ≤ s.size ∧ v = .int .i64 (i : Int) ∧ ∀ j c, j < i → s.data.toList[j]? = some c → isLet c = true) (fun v => s.size - (intOf v).toNat)
      case atStart => exact ⟨0, by omega, rfl, fun j c h _ => absurd h (by omega)⟩
      case round =>
        obtain ⟨i, hi, rfl, hall⟩ := hrel
        by_cases hlt : i < s.size
        · have hget := get_list s i hlt
          have HA := Lib.hid (And.intro hall hget)
          clear hall hget
          cases hl : isLet s[i]
          · have HW := Lib.hid (wordB_no HA.out.2 hl)
            go_wp2_with (go_at_call 122; refine (letter_any _ _).mono ?_; rintro e w' ⟨rfl, rfl⟩)
            go_ret
            exact ⟨ret_b HW.out.symm, rfl⟩
          · have HL := Lib.hid hl
            go_wp2_with (go_at_call 122; refine (letter_any _ _).mono ?_; rintro e w' ⟨rfl, rfl⟩)
            go_round
            case rel =>
              refine ⟨i + 1, by omega, by go_num, fun j c hj hc => ?_⟩
              rcases Nat.lt_or_ge j i with h | h
              · exact HA.out.1 j c h hc
              · obtain rfl : j = i := by omega
                rw [HA.out.2] at hc
                injection hc with hc
                rw [← hc]
                exact HL.out
            case measure => simp [intOf]; omega
        · obtain rfl : i = s.size := by omega
          have HW := Lib.hid (show wordB s.data.toList = true by
            unfold wordB
            rw [size_list, decide_eq_true (by omega), decide_eq_true (by omega)]
            rw [Bool.true_and, Bool.true_and, List.all_eq_true]
            intro c hc
            obtain ⟨j, hj⟩ := List.mem_iff_getElem?.1 hc
            have := (List.getElem?_eq_some_iff.1 hj).1
            rw [size_list] at this
            exact hall j c this hj)
          go_wp2
          go_ret
          exact ⟨ret_b HW.out.symm, rfl⟩
set_option maxRecDepth 100000 in
theorem search_nil (s : ByteArray) (f : Value) (w : World) : Calls Try.prog 124 #[.slice none 0 0, .string s, f] w fun e w' => e = .returned (.tuple #[.int .i64 0, .bool false]) ∧ w' = w := by
  go_enter Try.func124, Try.ntmps124
  go_wp2
  go_loop [9, 10] (fun v9 v10 => v9 = .int .i64 0 ∧ v10 = .int .i64 0) (fun _ _ => 0)
  case atStart => exact ⟨rfl, rfl⟩
  case round =>
    obtain ⟨rfl, rfl⟩ := hrel
    go_wp2
    go_ret2
    exact ⟨rfl, rfl⟩
theorem find_nil (B p : Nat) (P : List Pt) (v : Value) (s : ByteArray) (w : World) (h : HyAt w B p P v (.slice none 0 0)) : Calls Try.prog 66 #[.pointer (some ⟨p, 0, none⟩), .string s] w fun e w' => e = .returned (.tuple #[.int .i64 0, .bool false]) ∧ w' = w := by
  have h2 := h.tr.blk.cell 2
  clear h
  go_enter Try.func66, Try.ntmps66
  go_wp2_with (refine (search_nil s _ _).mono ?_; rintro e w' ⟨rfl, rfl⟩)
  go_ret2
  exact ⟨rfl, rfl⟩
/-- A slice of texts. -/
def sv (s : ByteArray) : Value := .string s
theorem seg_get {w : World} {B : Nat} {A : Option Addr} {xs : List Value} (h : Seg w B A xs) {k : Nat} {u : Value} (hk : xs[k]? = some u) : ∃ b off : Nat, A = some ⟨b, off, none⟩ ∧ b < B ∧ w.cell? ⟨b, off + k, none⟩ = some u := by
  obtain ⟨b, off, hA, hb, hc⟩ := h.open_ (by intro e; rw [e] at hk; simp at hk)
  exact ⟨b, off, hA, hb, hc k u hk⟩
def txs (ts : List ByteArray) : List Nm := ts.map (·.data.toList)
set_option maxRecDepth 100000 in
theorem told_any (A : Option Addr) (ts : List ByteArray) (c : Nat) (w : World) (hn : ts.length ≤ 1048576) (hcap : ts.length ≤ c) (hs : ∀ t ∈ ts, t.size ≤ 1048576) (hseg : Seg w w.heap.size A (ts.map sv)) :
    Calls Try.prog 21 #[.slice A ts.length c] w fun e w' => Below w.heap.size w w' ∧ ∃ p v, e = .returned (.pointer (some ⟨p, 0, none⟩)) ∧ HyAt w' w.heap.size p (told (txs ts)) v (.slice none 0 0) := by
  have HS := Lib.hid hs
  have HSEG := Lib.hid hseg
  clear hs hseg
  go_enter Try.func21, Try.ntmps21
  go_wp2_with fail
  refine (new_any _).mono ?_
  rintro e w1 ⟨hb1, p, v, rfl, hh⟩
  have HB1 := Lib.hid hb1
  have HH1 := Lib.hid hh
  clear hb1 hh
  go_wp2_with fail
  go_loopw [4] (fun v4 wr => ∃ (k : Nat) (v : Value), k ≤ ts.length ∧ v4 = .int .i64 (k : Int) ∧ HyAt wr w.heap.size p (told (txs (ts.take k))) v (.slice none 0 0) ∧ Below w.heap.size w wr) (fun v4 _ => ts.length - (intOf v4).toNat)
  case atStart => exact ⟨0, _, by omega, rfl, HH1.out, HB1.out⟩
  case round =>
    obtain ⟨k, v, hk, rfl, hh, hb⟩ := hrel
    by_cases hlt : k < ts.length
    · obtain ⟨t, ht⟩ := get_some hlt
      obtain ⟨b, off, rfl, hbw, hcell⟩ := seg_get HSEG.out (k := k) (u := sv t) (by rw [List.getElem?_map, ht]; rfl)
      have hcw : wr.cell? ⟨b, off + k, none⟩ = some (.string t) := (hb.cell (p := ⟨b, off + k, none⟩) hbw).trans hcell
      have HT := Lib.hid ht
      have HP := Lib.hid (pattern_any w.heap.size p (told (txs (ts.take k))) v (.slice none 0 0) t wr (HS.out t (List.mem_of_getElem? ht)) hh)
      have HB := Lib.hid hb
      clear hh hb hcell ht
      go_wp2_with fail
      refine HP.out.mono ?_
      rintro e w3 ⟨rfl, hb3, v3, hh3, _⟩
      have HB3 := Lib.hid hb3
      have HH3 := Lib.hid hh3
      clear hb3 hh3 HP hcw
      go_wp2_with fail
      go_roundw
      case rel =>
        refine ⟨k + 1, v3, by omega, by go_num, ?_, HB.out.trans HB3.out⟩
        rw [List.take_add_one, HT.out]
        simp only [txs, Option.toList_some, List.map_append, List.map_cons, List.map_nil, told_snoc]
        exact HH3.out
      case measure => simp [intOf]; omega
    · obtain rfl : k = ts.length := by omega
      rw [List.take_length] at hh
      have HB := Lib.hid (And.intro hh hb)
      clear hh hb
      go_wp2_with fail
      go_ret
      exact ⟨HB.out.2, p, v, rfl, HB.out.1⟩
set_option maxRecDepth 100000 in
theorem same_ints (A1 A2 : Option Addr) (l1 l2 : List Int) (c1 c2 : Nat) (w : World) (h1 : l1.length ≤ 1048576) (h2 : l2.length ≤ 1048576) (hs1 : Seg w w.heap.size A1 (l1.map iv)) (hs2 : Seg w w.heap.size A2 (l2.map iv)) :
    Calls Try.prog 26 #[.slice A1 l1.length c1, .slice A2 l2.length c2] w fun e w' => e = .returned (.bool (decide (l1 = l2))) ∧ Below w.heap.size w w' := by
  by_cases hl : (l1.length : Int) = l2.length
  · have hl' : l1.length = l2.length := by omega
    have HS := Lib.hid (And.intro hs1 hs2)
    have HL := Lib.hid hl'
    rw [← hl']
    clear hs1 hs2 hl hl'
    go_enter Try.func26, Try.ntmps26
    go_wp2_with fail
    go_loopw [5] (fun v5 wr => ∃ k nq : Nat, k ≤ l1.length ∧ v5 = .int .i64 (k : Int) ∧ l1.take k = l2.take k ∧ wr = w.drewN nq) (fun v5 _ => l1.length - (intOf v5).toNat)
    case atStart => exact ⟨0, 0, by omega, rfl, by simp, rfl⟩
    case round =>
      obtain ⟨k, nq, hk, rfl, heq, hwr⟩ := hrel
      have HWR := Lib.hid hwr
      have HEQ := Lib.hid heq
      by_cases hlt : k < l1.length
      · obtain ⟨x, hx⟩ := get_some hlt
        obtain ⟨y, hy⟩ := get_some (l := l2) (k := k) (by rw [← HL.out]; exact hlt)
        obtain ⟨b1, o1, rfl, hb1, hc1⟩ := seg_get HS.out.1 (k := k) (u := iv x) (by rw [List.getElem?_map, hx]; rfl)
        obtain ⟨b2, o2, rfl, hb2, hc2⟩ := seg_get HS.out.2 (k := k) (u := iv y) (by rw [List.getElem?_map, hy]; rfl)
        have hc1' : wr.cell? ⟨b1, o1 + k, none⟩ = some (iv x) := by rw [hwr]; exact hc1
        have hc2' : wr.cell? ⟨b2, o2 + k, none⟩ = some (iv y) := by rw [hwr]; exact hc2
        have HXY := Lib.hid (And.intro hx hy)
        have hlti : (k : Int) < (l1.length : Int) := by omega
        clear hc1 hc2 hwr heq hx hy
        by_cases hxy : x = y
        · subst hxy
          go_wp2_with fail
          go_quiet (fail)
          go_wp2_with fail
          go_roundw
          case rel =>
            refine ⟨k + 1, _, by omega, by go_num, ?_, by rw [HWR.out, World.drewN_drewN]⟩
            rw [List.take_add_one, List.take_add_one, HEQ.out, HXY.out.1, HXY.out.2]
          case measure => simp [intOf]; omega
        · have HN := Lib.hid hxy
          go_wp2_with fail
          go_quiet (fail)
          go_wp2_with fail
          go_ret
          refine ⟨?_, by rw [HWR.out, World.drewN_drewN]; exact below_drewN (Below.refl _ _) _⟩
          refine ret_b (decide_eq_false fun e => HN.out ?_).symm
          have := HXY.out.1
          rw [e, HXY.out.2] at this
          injection this with this
          exact this.symm
      · obtain rfl : k = l1.length := by omega
        go_wp2_with fail
        go_ret
        refine ⟨?_, below_drewN (Below.refl _ _) _⟩
        refine ret_b (decide_eq_true ?_).symm
        have := HEQ.out
        rw [List.take_length, HL.out, List.take_length] at this
        exact this
  · have HL := Lib.hid hl
    clear hs1 hs2
    go_enter Try.func26, Try.ntmps26
    go_wp2_with fail
    go_ret
    refine ⟨ret_b (decide_eq_false fun e => HL.out (by rw [e])).symm, Below.refl _ _⟩
end Go.Proofs.Ytmcekdjhkjhcdaa.Hy

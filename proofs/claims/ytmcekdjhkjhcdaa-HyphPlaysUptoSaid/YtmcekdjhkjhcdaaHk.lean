import Derived.Test.YtmcekdjhkjhcdaaHi
import Derived.Test.YtmcekdjhkjhcdaaHr
/- The contract of knows: Liang's word is broken at its two places. Conditions: those that each theorem names. -/
namespace Go.Proofs.Ytmcekdjhkjhcdaa.Hy
open Go.ChangeShapes Go.WideShapes Go.ChangeAt Go.RowKit
open Me Hp
set_option linter.unusedVariables false
set_option linter.unusedSimpArgs false

theorem num_any (x : Int) (w : World) : Calls Try.prog 23 #[.int .i64 x] w fun e w' => e = .returned (.int .i64 x) ∧ w' = w := by
  go_enter Try.func23, Try.ntmps23
  go_wp2
  go_ret
  exact ⟨rfl, rfl⟩
def kl : List ByteArray := [⟨#[104, 121, 51, 112, 104]⟩, ⟨#[104, 101, 50, 110]⟩, ⟨#[104, 101, 110, 97, 52]⟩, ⟨#[104, 101, 110, 53, 97, 116]⟩, ⟨#[49, 110, 97]⟩, ⟨#[110, 50, 97, 116]⟩, ⟨#[49, 116, 105, 111]⟩, ⟨#[50, 105, 111]⟩, ⟨#[111, 50, 110]⟩]
def kw : ByteArray := ⟨#[104, 121, 112, 104, 101, 110, 97, 116, 105, 111, 110]⟩
theorem kl_ok : (List.range 9).all (fun k => tellE (told (txs (kl.take k))) ((kl.getD k ByteArray.empty).data.toList) == 0 && decide ((kl.getD k ByteArray.empty).size ≤ 1048576)) = true := by kernel_rfl
theorem kl_points : points (told (txs kl)) kw.data.toList 2 3 = [2, 6] := by kernel_rfl
theorem kl_word : wordB kw.data.toList = true := by kernel_rfl
theorem seg_blk {w : World} {g : Nat} {l : List Int} (h : Blk w g 3 (arr l)) : Seg w w.heap.size (some ⟨g, 0, none⟩) (l.map iv) := by
  refine .inr ⟨g, 0, rfl, h.lt, fun j u hu => ?_⟩
  rw [Nat.zero_add, h.cell]
  unfold arr
  rw [List.getElem?_toArray]
  exact hu
theorem seg_own {w : World} {B n : Nat} {u : Value} {l : List Int} (h : w.ownsRow B 3 1 u n (l.map iv)) : ∃ A c, u = .slice A n c ∧ n = l.length ∧ Seg w w.heap.size A (l.map iv) := by
  obtain ⟨A, c, h1, _, _, h2⟩ := Seg.of_own h
  have hl := h.1
  rw [List.length_map] at hl
  exact ⟨A, c, h1, by omega, h2⟩
theorem Frm.keep {w0 w : World} {p : Nat} {v0 v : Value} {k : Nat} {t : TypeId} {cs c2 : Array Value} {B n : Nat} {xs : List Value} (h : Frm w0 p v0 w v) (hb : Blk w0 k t cs) (hp : Blk w0 p 106 c2) (ho : w0.ownsRow B 141 28 v0 n xs) (h1 : t ≠ 106) (h2 : t ≠ 141) : Blk w k t cs := by
  refine (h.same k hb.lt ?_ ?_).trans hb
  · rintro rfl
    have a : w0.heap[k]? = some (.cells _ t (0, 0)) := hb
    have b : w0.heap[k]? = some (.cells _ 106 (0, 0)) := hp
    rw [a] at b
    simp only [Option.some.injEq, Obj.cells.injEq] at b
    exact h1 b.2.1
  · intro e
    rcases own_not_blk ho hb (fun e => h2 e.symm) with h3 | h3
    · rw [h3] at e; cases e
    · exact h3 e.symm
set_option maxRecDepth 100000 in
set_option maxHeartbeats 1000000 in
theorem knows_any (w : World) : Calls Try.prog 24 #[] w fun e w' => e = .returned (.bool true) ∧ Below w.heap.size w w' := by
  go_enter Try.func24, Try.ntmps24
  go_wp2_with fail
  refine (new_any _).mono ?_
  rintro e w1 ⟨hb1, p, v, rfl, hh⟩
  have HB1 := Lib.hid hb1
  have HH1 := Lib.hid hh
  clear hb1 hh
  go_wp2_with fail
  have hblk : Blk (w1.alloc (.cells (kl.map sv).toArray 9)) w1.heap.size 9 (kl.map sv).toArray := Blk.new _ _ _
  go_loopw [3] (fun v3 wr => ∃ (k : Nat) (v : Value), k ≤ 9 ∧ v3 = .int .i64 (k : Int) ∧ HyAt wr w.heap.size p (told (txs (kl.take k))) v (.slice none 0 0) ∧ Blk wr w1.heap.size 9 (kl.map sv).toArray ∧ Below w.heap.size w wr) (fun v3 _ => 9 - (intOf v3).toNat)
  case atStart => exact ⟨0, _, by omega, rfl, HH1.out.below (andAlloc (Below.refl _ _) _), hblk, andAlloc HB1.out _⟩
  case round =>
    clear hblk
    obtain ⟨k, v, hk, rfl, hh, hblk, hb⟩ := hrel
    by_cases hlt : k < 9
    · have hkl := List.all_eq_true.1 kl_ok k (List.mem_range.2 hlt)
      simp only [Bool.and_eq_true, beq_iff_eq, decide_eq_true_eq] at hkl
      obtain ⟨t, ht⟩ : ∃ t, kl[k]? = some t := get_some (by show k < 9; exact hlt)
      rw [List.getD_eq_getElem?_getD, ht] at hkl
      simp only [Option.getD_some] at hkl
      have hcell : wr.cell? ⟨w1.heap.size, k, none⟩ = some (.string t) := by
        rw [hblk.cell, List.getElem?_toArray, List.getElem?_map, ht]
        rfl
      have HP := Lib.hid (pattern_any w.heap.size p (told (txs (kl.take k))) v (.slice none 0 0) t wr hkl.2 hh)
      have HK := Lib.hid hkl.1
      have HT := Lib.hid ht
      have HB := Lib.hid (And.intro hh (And.intro hblk hb))
      have hki : (k : Int) < 9 := by omega
      clear hh hb hblk hkl ht
      go_wp2_with fail
      refine HP.out.mono ?_
      rintro e w3 ⟨rfl, hb3, v3, hh3, hf3⟩
      rw [HK.out]
      have HB3 := Lib.hid (And.intro hb3 (And.intro hh3 hf3))
      clear hb3 hh3 hf3 HP hcell
      go_wp2_with (go_at_call 23; refine (num_any _ _).mono ?_; rintro e w' ⟨rfl, rfl⟩)
      go_roundw
      case rel =>
        refine ⟨k + 1, v3, by omega, by go_num, ?_, ?_, HB.out.2.2.trans HB3.out.1⟩
        · rw [List.take_add_one, HT.out]
          simp only [txs, Option.toList_some, List.map_append, List.map_cons, List.map_nil, told_snoc]
          exact HB3.out.2.1
        · obtain ⟨vs, _, ho, _⟩ := HB.out.1.tr.row
          exact HB3.out.2.2.keep HB.out.2.1 HB.out.1.tr.blk ho (by decide) (by decide)
      case measure => simp [intOf]; omega
    · obtain rfl : k = 9 := by omega
      have HP := Lib.hid (Points_ok w.heap.size p (told (txs kl)) v kw 2 3 wr (by show 11 ≤ 1048576; omega) kl_word hh (by omega) (by omega))
      have HB := Lib.hid hb
      clear hh hb hblk
      go_wp2_with fail
      refine HP.out.mono ?_
      rintro e w3 ⟨hb3, u, rfl, ho⟩
      rw [kl_points] at ho
      obtain ⟨A, c, rfl, hn, hseg⟩ := seg_own ho
      have HS := Lib.hid (And.intro hb3 hseg)
      clear hb3 ho hseg HP hn
      go_wp2_with (go_at_call 23; refine (num_any _ _).mono ?_; rintro e w' ⟨rfl, rfl⟩)
      refine (same_ints A (some ⟨w'.heap.size, 0, none⟩) [2, 6] [2, 6] c 2 _ (by decide) (by decide) ((HS.out.2.below (andAlloc (Below.refl _ _) _)).more (by simp)) (seg_blk (Blk.new w' _ (arr [2, 6])))).mono ?_
      rintro e w4 ⟨rfl, hb4⟩
      have HB4 := Lib.hid (andThen (andAlloc (andThen HB.out HS.out.1) _) hb4)
      clear hb4
      go_wp2_with fail
      go_ret
      exact ⟨rfl, HB4.out⟩
end Go.Proofs.Ytmcekdjhkjhcdaa.Hy

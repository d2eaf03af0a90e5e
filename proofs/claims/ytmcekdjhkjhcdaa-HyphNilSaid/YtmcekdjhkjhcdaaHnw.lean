import Derived.Test.YtmcekdjhkjhcdaaHo
/- asks of none; HyphNil's walk. Conditions: those that each theorem names. -/
namespace Go.Proofs.Ytmcekdjhkjhcdaa.Hy
open Go.ChangeShapes Go.WideShapes Go.ChangeAt Go.RowKit
open Me Hp
set_option linter.unusedVariables false
set_option linter.unusedSimpArgs false

set_option maxRecDepth 100000 in
set_option maxHeartbeats 1000000 in
theorem gone_asks (ha : Value) (k : Int) (t : ByteArray) (l r : Int) (w : World) (h : Gone w ha) : Calls Try.prog 50 #[ha, .pointer none, .agg #[.int .i64 k, .string t, .int .i64 l, .int .i64 r]] w fun e w' => e = .returned (.bool true) ∧ Below w.heap.size w w' := by
  have HN := Lib.hid h
  clear h
  go_enter Try.func50, Try.ntmps50
  go_upto_region 1 with fail
  obtain ⟨W1, hW1⟩ : ∃ W1, W1 = w.alloc (.cells #[.int .i64 k, .string t, .int .i64 l, .int .i64 r] 100) := ⟨_, rfl⟩
  rw [← hW1]
  have hb1 : Below w.heap.size w W1 := by rw [hW1]; exact andAlloc (Below.refl _ _) _
  have hblk : Blk W1 w.heap.size 100 #[.int .i64 k, .string t, .int .i64 l, .int .i64 r] := by rw [hW1]; exact Blk.new _ _ _
  have hc0 := hblk.cell 0
  have hc1 := hblk.cell 1
  have hc2 := hblk.cell 2
  have hc3 := hblk.cell 3
  have HN1 := Lib.hid (HN.out.below hb1)
  have HB1 := Lib.hid (And.intro hb1 hblk)
  clear hW1 hb1 hblk HN
  by_cases h1 : k = 1
  · subst h1
    go_wp2_with fail
    go_quiet ((first | (go_at_call 60; refine Calls.quiet_of_same (gone_pattern ha t _ HN1.out)) | (go_at_call 23; refine Calls.quiet_of_same (num_any _ _)) | (go_at_call 86; refine Calls.quiet_of_same (rnil_pattern t _))))
    go_wp2_with fail
    go_ret
    exact ⟨rfl, below_drewN HB1.out.1 _⟩
  · by_cases h2 : k = 2
    · subst h2
      go_wp2_with fail
      go_quiet ((first | (go_at_call 48; refine Calls.quiet_of_same (gone_except ha t _ HN1.out)) | (go_at_call 23; refine Calls.quiet_of_same (num_any _ _)) | (go_at_call 87; refine Calls.quiet_of_same (rnil_except t _))))
      go_wp2_with fail
      go_ret
      exact ⟨rfl, below_drewN HB1.out.1 _⟩
    · by_cases h3 : k = 3
      · subst h3
        go_wp2_with (first | (go_at_call 22; refine (gone_values ha t _ HN1.out).mono ?_; rintro e w' ⟨rfl, rfl⟩) | (go_at_call 88; refine (rnil_values t _).mono ?_; rintro e w' ⟨rfl, rfl⟩) | (go_at_call 26; refine (same_none_ints _).mono ?_; rintro e w' ⟨rfl, rfl⟩) | (go_at_call 23; refine (num_any _ _).mono ?_; rintro e w' ⟨rfl, rfl⟩))
        refine (apart_nil _ _ (by simp) ((Blk.new _ _ _).cell 0)).mono ?_
        rintro e w2 ⟨rfl, hb2⟩
        have HB2 := Lib.hid (andThen (andAlloc HB1.out.1 _) hb2)
        clear hb2
        go_wp2_with fail
        go_ret
        exact ⟨rfl, HB2.out⟩
      · by_cases h4 : k = 4
        · subst h4
          go_wp2_with (first | (go_at_call 27; refine (gone_points ha t _ _ _ HN1.out).mono ?_; rintro e w' ⟨rfl, rfl⟩) | (go_at_call 90; refine (rnil_points t _ _ _).mono ?_; rintro e w' ⟨rfl, rfl⟩) | (go_at_call 26; refine (same_none_ints _).mono ?_; rintro e w' ⟨rfl, rfl⟩) | (go_at_call 23; refine (num_any _ _).mono ?_; rintro e w' ⟨rfl, rfl⟩))
          refine (apart_nil _ _ (by simp) ((Blk.new _ _ _).cell 0)).mono ?_
          rintro e w2 ⟨rfl, hb2⟩
          have HB2 := Lib.hid (andThen (andAlloc HB1.out.1 _) hb2)
          clear hb2
          go_wp2_with fail
          go_ret
          exact ⟨rfl, HB2.out⟩
        · go_wp2_with fail
          refine (gone_lists ha _ HN1.out).mono ?_
          rintro e w2 ⟨rfl, hb2⟩
          have HB2 := Lib.hid (andThen HB1.out.1 hb2)
          clear hb2
          go_wp2_with fail
          go_ret
          exact ⟨rfl, HB2.out⟩
/-- An Op's cells. -/
structure Op4 where
  kind : Int
  text : ByteArray
  left : Int
  right : Int
def o4 (o : Op4) : List Value := [.int .i64 o.kind, .string o.text, .int .i64 o.left, .int .i64 o.right]
theorem o4_get {ops : List Op4} {i j : Nat} {o : Op4} (hi : ops[i]? = some o) {x : Value} (hx : (o4 o)[j]? = some x) : (ops.flatMap o4)[i * 4 + j]? = some x := by
  have hj : j < 4 := (List.getElem?_eq_some_iff.1 hx).1
  induction ops generalizing i with
  | nil => simp at hi
  | cons y l ih =>
    rw [List.flatMap_cons]
    match i, hi with
    | 0, hi =>
      simp at hi
      subst hi
      rw [Nat.zero_mul, Nat.zero_add, List.getElem?_append_left (show j < (o4 y).length from hj)]
      exact hx
    | i + 1, hi =>
      rw [List.getElem?_append_right (by show 4 ≤ _; omega)]
      have := ih (i := i) (by simpa using hi)
      rw [← this]
      congr 1
      show (i + 1) * 4 + j - 4 = _
      omega
set_option maxRecDepth 100000 in
set_option maxHeartbeats 1000000 in
theorem nil_walk (A : Option Addr) (ops : List Op4) (c : Nat) (w : World) (hn : ops.length ≤ maxLen) (hseg : Seg w w.heap.size A (ops.flatMap o4)) :
    Calls Try.prog 14 #[.slice A ops.length c] w fun e w' => e = .returned (.bool true) ∧ Below w.heap.size w w' := by
  have HS := Lib.hid hseg
  have HN := Lib.hid hn
  unfold maxLen at hn
  clear hseg
  go_enter Try.func14, Try.ntmps14
  go_wp2_with fail
  obtain ⟨W1, hW1⟩ : ∃ W1, W1 = w.alloc (.cells #[.slice none 0 0, .int .i64 0, .slice none 0 0] 106) := ⟨_, rfl⟩
  rw [← hW1]
  have hb1 : Below w.heap.size w W1 := by rw [hW1]; exact andAlloc (Below.refl _ _) _
  have hlt1 : w.heap.size < W1.heap.size := by rw [hW1]; simp
  have hblk : W1.cell? ⟨w.heap.size, 0, none⟩ = some (.slice none 0 0) := by rw [hW1]; exact (Blk.new _ _ _).cell 0
  have HB1 := Lib.hid (And.intro hb1 (And.intro hlt1 hblk))
  clear hW1 hb1 hlt1 hblk
  go_loopw [5] (fun v5 wr => ∃ i : Nat, i ≤ ops.length ∧ v5 = .int .i64 (i : Int) ∧ Below W1.heap.size W1 wr) (fun v5 _ => ops.length - (intOf v5).toNat)
  case atStart => exact ⟨0, by omega, rfl, Below.refl _ _⟩
  case round =>
    obtain ⟨i, hi, rfl, hI⟩ := hrel
    have HI := Lib.hid hI
    clear hI
    by_cases hlt : i < ops.length
    · obtain ⟨o, ho⟩ := get_some hlt
      have hlow : Below w.heap.size w wr := andThen HB1.out.1 HI.out
      obtain ⟨b, off, rfl, hbw, hc0⟩ := seg_get HS.out (o4_get ho (j := 0) rfl)
      have HCS := Lib.hid (show ∀ W2, Below w.heap.size w W2 → ∀ j x, (o4 o)[j]? = some x → W2.cell? ⟨b, off + i * 4 + j, none⟩ = some x by
        intro W2 hlow j x hx
        obtain ⟨b', off', e, _, hcc⟩ := seg_get HS.out (o4_get ho hx)
        injection e with e
        injection e with e1 e2
        subst e1; subst e2
        rw [Nat.add_assoc]
        exact (hlow.cell (p := ⟨b, off + (i * 4 + j), none⟩) hbw).trans hcc)
      clear hc0
      have hc0 : wr.cell? ⟨b, off + i * 4, none⟩ = some (.int .i64 o.kind) := HCS.out wr hlow 0 _ rfl
      have hc1 : wr.cell? ⟨b, off + i * 4 + 1, none⟩ = some (.string o.text) := HCS.out wr hlow 1 _ rfl
      have hc2 : wr.cell? ⟨b, off + i * 4 + 2, none⟩ = some (.int .i64 o.left) := HCS.out wr hlow 2 _ rfl
      have hc3 : wr.cell? ⟨b, off + i * 4 + 3, none⟩ = some (.int .i64 o.right) := HCS.out wr hlow 3 _ rfl
      have HLOW := Lib.hid hlow
      have HO := Lib.hid ho
      have hlti : (i : Int) < (ops.length : Int) := by omega
      clear hlow ho
      go_wp2_with fail
      refine (gone_asks (.pointer none) o.kind o.text o.left o.right wr (.inl rfl)).mono ?_
      rintro e w2 ⟨rfl, hb2⟩
      have HLOW2 := Lib.hid (andThen HLOW.out hb2)
      have HI2 := Lib.hid (andThen HI.out hb2)
      clear hc0 hc1 hc2 hc3 hb2
      have hc0 : w2.cell? ⟨b, off + i * 4, none⟩ = some (.int .i64 o.kind) := HCS.out w2 HLOW2.out 0 _ rfl
      have hc1 : w2.cell? ⟨b, off + i * 4 + 1, none⟩ = some (.string o.text) := HCS.out w2 HLOW2.out 1 _ rfl
      have hc2 : w2.cell? ⟨b, off + i * 4 + 2, none⟩ = some (.int .i64 o.left) := HCS.out w2 HLOW2.out 2 _ rfl
      have hc3 : w2.cell? ⟨b, off + i * 4 + 3, none⟩ = some (.int .i64 o.right) := HCS.out w2 HLOW2.out 3 _ rfl
      go_wp2_with fail
      refine (gone_asks (.pointer (some ⟨w.heap.size, 0, none⟩)) o.kind o.text o.left o.right w2 (Gone.below (.inr ⟨_, rfl, HB1.out.2.1, HB1.out.2.2⟩) HI2.out)).mono ?_
      rintro e w3 ⟨rfl, hb3⟩
      have HI3 := Lib.hid (andThen HI2.out hb3)
      clear hc0 hc1 hc2 hc3 hb3
      go_wp2_with fail
      go_roundw
      case rel => exact ⟨i + 1, by omega, by go_num, HI3.out⟩
      case measure => simp [intOf]; omega
    · obtain rfl : i = ops.length := by omega
      go_wp2_with fail
      refine (knows_any _).mono ?_
      rintro e w3 ⟨rfl, hb3⟩
      have HB3 := Lib.hid (andThen (andThen HB1.out.1 HI.out) hb3)
      clear hb3
      go_wp2_with fail
      go_ret
      exact ⟨rfl, HB3.out⟩
end Go.Proofs.Ytmcekdjhkjhcdaa.Hy

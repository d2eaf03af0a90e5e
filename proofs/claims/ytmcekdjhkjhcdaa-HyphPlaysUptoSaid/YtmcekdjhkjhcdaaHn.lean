import Derived.Test.YtmcekdjhkjhcdaaHk
/- What none, and one that nobody made, answer. Conditions: those that each theorem names. -/
namespace Go.Proofs.Ytmcekdjhkjhcdaa.Hy
open Go.ChangeShapes Go.WideShapes Go.ChangeAt Go.RowKit
open Me Hp
set_option linter.unusedVariables false
set_option linter.unusedSimpArgs false

/-- None, or one that nobody made. -/
def Gone (w : World) (ha : Value) : Prop := ha = .pointer none ∨ ∃ q : Nat, ha = .pointer (some ⟨q, 0, none⟩) ∧ q < w.heap.size ∧ w.cell? ⟨q, 0, none⟩ = some (.slice none 0 0)
theorem Gone.below {w w' : World} {ha : Value} (h : Gone w ha) (hb : Below w.heap.size w w') : Gone w' ha := by
  rcases h with h | ⟨q, h1, h2, h3⟩
  · exact .inl h
  · exact .inr ⟨q, h1, Nat.lt_of_lt_of_le h2 hb.size, (hb.cell (p := ⟨q, 0, none⟩) h2).trans h3⟩
theorem gone_good (ha : Value) (w : World) (h : Gone w ha) : Calls Try.prog 61 #[ha] w fun e w' => e = .returned (.bool false) ∧ w' = w := by
  rcases h with rfl | ⟨q, rfl, h2, h3⟩
  · exact good_nil w
  · clear h2
    go_enter Try.func61, Try.ntmps61
    go_wp2
    go_ret
    exact ⟨rfl, rfl⟩
set_option maxRecDepth 100000 in
theorem gone_pattern (ha : Value) (t : ByteArray) (w : World) (h : Gone w ha) : Calls Try.prog 60 #[ha, .string t] w fun e w' => e = .returned (.int .i64 1) ∧ w' = w := by
  have HG := Lib.hid (gone_good ha w h)
  rcases h with rfl | ⟨q, rfl, h2, h3⟩
  all_goals
    go_enter Try.func60, Try.ntmps60
    go_wp2_with (go_at_call 61; refine HG.out.mono ?_; rintro e w' ⟨rfl, rfl⟩)
    go_ret
    exact ⟨rfl, rfl⟩
set_option maxRecDepth 100000 in
theorem gone_except (ha : Value) (t : ByteArray) (w : World) (h : Gone w ha) : Calls Try.prog 48 #[ha, .string t] w fun e w' => e = .returned (.int .i64 1) ∧ w' = w := by
  have HG := Lib.hid (gone_good ha w h)
  rcases h with rfl | ⟨q, rfl, h2, h3⟩
  all_goals
    go_enter Try.func48, Try.ntmps48
    go_wp2_with (go_at_call 61; refine HG.out.mono ?_; rintro e w' ⟨rfl, rfl⟩)
    go_ret
    exact ⟨rfl, rfl⟩
theorem gone_values (ha : Value) (t : ByteArray) (w : World) (h : Gone w ha) : Calls Try.prog 22 #[ha, .string t] w fun e w' => e = .returned (.tuple #[.slice none 0 0, .int .i64 1]) ∧ w' = w := by
  have HG := Lib.hid (gone_good ha w h)
  rcases h with rfl | ⟨q, rfl, h2, h3⟩
  all_goals
    go_enter Try.func22, Try.ntmps22
    go_wp2_with (go_at_call 61; refine HG.out.mono ?_; rintro e w' ⟨rfl, rfl⟩)
    go_ret2
    exact ⟨rfl, rfl⟩
theorem gone_points (ha : Value) (t : ByteArray) (l r : Int) (w : World) (h : Gone w ha) : Calls Try.prog 27 #[ha, .string t, .int .i64 l, .int .i64 r] w fun e w' => e = .returned (.tuple #[.slice none 0 0, .int .i64 1]) ∧ w' = w := by
  have HG := Lib.hid (gone_good ha w h)
  rcases h with rfl | ⟨q, rfl, h2, h3⟩
  all_goals
    go_enter Try.func27, Try.ntmps27
    go_wp2_with (go_at_call 61; refine HG.out.mono ?_; rintro e w' ⟨rfl, rfl⟩)
    go_ret2
    exact ⟨rfl, rfl⟩
theorem gone_size (ha : Value) (w : World) (h : Gone w ha) : Calls Try.prog 45 #[ha] w fun e w' => e = .returned (.int .i64 0) ∧ w' = w := by
  have HG := Lib.hid (gone_good ha w h)
  rcases h with rfl | ⟨q, rfl, h2, h3⟩
  all_goals
    go_enter Try.func45, Try.ntmps45
    go_wp2_with (go_at_call 61; refine HG.out.mono ?_; rintro e w' ⟨rfl, rfl⟩)
    go_ret
    exact ⟨rfl, rfl⟩
theorem gone_exceptions (ha : Value) (w : World) (h : Gone w ha) : Calls Try.prog 91 #[ha] w fun e w' => e = .returned (.slice none 0 0) ∧ w' = w := by
  have HG := Lib.hid (gone_good ha w h)
  rcases h with rfl | ⟨q, rfl, h2, h3⟩
  all_goals
    go_enter Try.func91, Try.ntmps91
    go_wp2_with (go_at_call 61; refine HG.out.mono ?_; rintro e w' ⟨rfl, rfl⟩)
    go_ret
    exact ⟨rfl, rfl⟩
theorem gone_patterns (ha : Value) (w : World) (h : Gone w ha) : Calls Try.prog 44 #[ha] w fun e w' => e = .returned (.slice none 0 0) ∧ Below w.heap.size w w' := by
  have HG := Lib.hid (gone_good ha)
  have HN := Lib.hid h
  rcases h with rfl | ⟨q, rfl, h2, h3⟩
  · go_enter Try.func44, Try.ntmps44
    go_wp2_with (go_at_call 61; refine (HG.out _ (HN.out.below (andAlloc (Below.refl _ _) _))).mono ?_; rintro e w' ⟨rfl, rfl⟩)
    go_ret
    exact ⟨rfl, andAlloc (Below.refl _ _) _⟩
  · go_enter Try.func44, Try.ntmps44
    go_wp2_with (go_at_call 61; refine (HG.out _ (HN.out.below (andAlloc (Below.refl _ _) _))).mono ?_; rintro e w' ⟨rfl, rfl⟩)
    go_ret
    exact ⟨rfl, andAlloc (Below.refl _ _) _⟩
theorem rnil_pattern (t : ByteArray) (w : World) : Calls Try.prog 86 #[.pointer none, .string t] w fun e w' => e = .returned (.int .i64 1) ∧ w' = w := by
  go_enter Try.func86, Try.ntmps86
  go_wp2
  go_ret
  exact ⟨rfl, rfl⟩
theorem rnil_except (t : ByteArray) (w : World) : Calls Try.prog 87 #[.pointer none, .string t] w fun e w' => e = .returned (.int .i64 1) ∧ w' = w := by
  go_enter Try.func87, Try.ntmps87
  go_wp2
  go_ret
  exact ⟨rfl, rfl⟩
theorem rnil_values (t : ByteArray) (w : World) : Calls Try.prog 88 #[.pointer none, .string t] w fun e w' => e = .returned (.tuple #[.slice none 0 0, .int .i64 1]) ∧ w' = w := by
  go_enter Try.func88, Try.ntmps88
  go_wp2
  go_ret2
  exact ⟨rfl, rfl⟩
theorem rnil_points (t : ByteArray) (l r : Int) (w : World) : Calls Try.prog 90 #[.pointer none, .string t, .int .i64 l, .int .i64 r] w fun e w' => e = .returned (.tuple #[.slice none 0 0, .int .i64 1]) ∧ w' = w := by
  go_enter Try.func90, Try.ntmps90
  go_wp2_with (go_at_call 88; refine (rnil_values _ _).mono ?_; rintro e w' ⟨rfl, rfl⟩)
  go_ret2
  exact ⟨rfl, rfl⟩
theorem rnil_size (w : World) : Calls Try.prog 92 #[.pointer none] w fun e w' => e = .returned (.int .i64 0) ∧ w' = w := by
  go_enter Try.func92, Try.ntmps92
  go_wp2
  go_ret
  exact ⟨rfl, rfl⟩
theorem rnil_patterns (w : World) : Calls Try.prog 93 #[.pointer none] w fun e w' => e = .returned (.slice none 0 0) ∧ w' = w := by
  go_enter Try.func93, Try.ntmps93
  go_wp2
  go_ret
  exact ⟨rfl, rfl⟩
theorem rnil_exceptions (w : World) : Calls Try.prog 94 #[.pointer none] w fun e w' => e = .returned (.slice none 0 0) ∧ w' = w := by
  go_enter Try.func94, Try.ntmps94
  go_wp2
  go_ret
  exact ⟨rfl, rfl⟩
theorem same_none (w : World) : Calls Try.prog 46 #[.slice none 0 0, .slice none 0 0] w fun e w' => e = .returned (.bool true) ∧ w' = w := by
  go_enter Try.func46, Try.ntmps46
  go_wp2
  go_loop [5] (fun v5 => v5 = .int .i64 0) (fun _ => 0)
  case atStart => rfl
  case round =>
    subst hrel
    go_wp2
    go_ret
    exact ⟨rfl, rfl⟩
theorem same_none_ints (w : World) : Calls Try.prog 26 #[.slice none 0 0, .slice none 0 0] w fun e w' => e = .returned (.bool true) ∧ w' = w := by
  go_enter Try.func26, Try.ntmps26
  go_wp2
  go_loop [5] (fun v5 => v5 = .int .i64 0) (fun _ => 0)
  case atStart => rfl
  case round =>
    subst hrel
    go_wp2
    go_ret
    exact ⟨rfl, rfl⟩
set_option maxRecDepth 100000 in
theorem gone_lists (ha : Value) (w : World) (h : Gone w ha) : Calls Try.prog 51 #[ha, .pointer none] w fun e w' => e = .returned (.bool true) ∧ Below w.heap.size w w' := by
  have HN := Lib.hid h
  clear h
  go_enter Try.func51, Try.ntmps51
  go_wp2_with fail
  refine (gone_patterns ha w HN.out).mono ?_
  rintro e w1 ⟨rfl, hb1⟩
  have HN1 := Lib.hid (HN.out.below hb1)
  have HB1 := Lib.hid hb1
  clear hb1 HN
  go_wp2_with (first | (go_at_call 91; refine (gone_exceptions ha _ HN1.out).mono ?_; rintro e w' ⟨rfl, rfl⟩) | (go_at_call 45; refine (gone_size ha _ HN1.out).mono ?_; rintro e w' ⟨rfl, rfl⟩) | (go_at_call 92; refine (rnil_size _).mono ?_; rintro e w' ⟨rfl, rfl⟩) | (go_at_call 93; refine (rnil_patterns _).mono ?_; rintro e w' ⟨rfl, rfl⟩) | (go_at_call 94; refine (rnil_exceptions _).mono ?_; rintro e w' ⟨rfl, rfl⟩) | (go_at_call 46; refine (same_none _).mono ?_; rintro e w' ⟨rfl, rfl⟩))
  go_loop [7] (fun v => v = .int .i64 0) (fun _ => 0)
  case atStart => rfl
  case round =>
    subst hrel
    go_wp2
    go_loop [8] (fun v => v = .int .i64 0) (fun _ => 0)
    case atStart => rfl
    case round =>
      subst hrel
      go_wp2_with fail
      refine (gone_patterns ha _ HN1.out).mono ?_
      rintro e w2 ⟨rfl, hb2⟩
      have HN2 := Lib.hid (HN1.out.below hb2)
      have HB2 := Lib.hid (andThen HB1.out hb2)
      clear hb2 HN1 HB1
      go_wp2_with (first | (go_at_call 91; refine (gone_exceptions ha _ HN2.out).mono ?_; rintro e w' ⟨rfl, rfl⟩) | (go_at_call 93; refine (rnil_patterns _).mono ?_; rintro e w' ⟨rfl, rfl⟩) | (go_at_call 94; refine (rnil_exceptions _).mono ?_; rintro e w' ⟨rfl, rfl⟩) | (go_at_call 46; refine (same_none _).mono ?_; rintro e w' ⟨rfl, rfl⟩))
      go_ret
      exact ⟨rfl, HB2.out⟩
end Go.Proofs.Ytmcekdjhkjhcdaa.Hy

import Derived.Test.YtmcekdjhkjhcdaaNodeKn
/- The contract of knows: what must come does. No conditions. -/
namespace Go.Proofs.Ytmcekdjhkjhcdaa.No
open Go.ChangeShapes Go.WideShapes Go.ChangeAt Go.RowKit
open Me Np
set_option linter.unusedVariables false
set_option linter.unusedSimpArgs false

theorem some_seg' {w : World} {g : Nat} (hg : g = w.heap.size) : Seg (w.alloc (.cells (someL.flatMap ncs).toArray 31)) (w.alloc (.cells (someL.flatMap ncs).toArray 31)).heap.size (some ⟨g, 0, none⟩) (someL.flatMap ncs) := by
  subst hg
  exact some_seg (Below.refl _ _)
def someT : Tot := ⟨720896, [131072, 0, 0, 0], [0, 0, 0, 0]⟩
def someA (k : Nat) : Int := if k = 0 then 655360 else 65536
theorem some_right : ∀ x ∈ someL, right x = true := by
  intro x hx
  simp only [someL, List.mem_cons, List.not_mem_nil, or_false] at hx
  rcases hx with rfl | rfl | rfl | rfl
  · exact r0
  · exact r1
  · exact r2
  · exact r3
theorem some_totals (g : Nat) (w : World) (hseg : Seg w w.heap.size (some ⟨g, 0, none⟩) (someL.flatMap ncs)) :
    Calls Try.prog 20 #[.slice (some ⟨g, 0, none⟩) 4 4, .bool false] w fun e w' => e = .returned (.tuple #[.agg (tc someT), .int .i64 0]) ∧ Below w.heap.size w w' := by
  refine totals_of (some ⟨g, 0, none⟩) someL 4 false someT w (by simp [someL]) hseg some_chk rfl rfl rfl (fun w1 hb => ?_)
  have h := sum_of (some ⟨g, 0, none⟩) someL 4 [0, 3] false someA w1 (by simp [someL]) (Seg.belowW hseg hb) some_its some_right (by intro k hk; simp only [someA]; split <;> omega) (fun k hk w2 hb2 => ?_)
  · have e : tsum someL someA [0, 3] tz = someT := rfl
    rw [e] at h
    exact h
  · have hs := Seg.belowW (Seg.belowW hseg hb) hb2
    simp only [List.mem_cons, List.not_mem_nil, or_false] at hk
    rcases hk with rfl | rfl
    · exact along_any (some ⟨g, 0, none⟩) someL 4 0 s0 false w2 (by simp [someL]) hs rfl r0 (.inr (by simp [s0, nz]))
    · exact along_any (some ⟨g, 0, none⟩) someL 4 3 s3 false w2 (by simp [someL]) hs rfl r3 (.inr (by simp [s3, nz]))
theorem some_item (g : Nat) (w : World) (hseg : Seg w w.heap.size (some ⟨g, 0, none⟩) (someL.flatMap ncs)) :
    Calls Try.prog 29 #[.slice (some ⟨g, 0, none⟩) 4 4, .int .i64 0] w fun e w' => e = .returned (.tuple #[.int .i64 3, .int .i64 0]) ∧ Below w.heap.size w w' :=
  item_ok (some ⟨g, 0, none⟩) someL 4 0 3 w (by simp [someL]) hseg some_chk rfl rfl
theorem someT_info : (Try.prog.info? 37).map (·.size) = some (tc someT).size := by kernel_rfl
set_option maxRecDepth 100000 in
theorem knows_any (w : World) : Calls Try.prog 17 #[] w fun e w' => e = .returned (.bool true) ∧ Below w.heap.size w w' := by
  go_enter Try.func17, Try.ntmps17
  go_wp2_with fail
  refine (some_any _).mono ?_
  rintro e w' ⟨rfl, rfl⟩
  go_wp2_with fail
  refine (some_totals w.heap.size _ (some_seg' rfl)).mono ?_
  rintro e w1 ⟨rfl, hb1⟩
  have hl1 : Below w.heap.size w w1 := andThen (andAlloc (Below.refl _ _) _) hb1
  clear hb1
  go_wp2_with (refine wpList_store_row (o := ⟨none, .store _ (.tmp 1) _, _, _, _, _⟩) rfl 37 _ _ rfl w1.heap.size (tc someT) rfl rfl 37 (tc tz) (Blk.new' rfl) someT_info rfl (tc_one _) ?_)
  have hB : Blk (w1.alloc (.cells (tc someT) 37)) w1.heap.size 37 (tc someT) := Blk.new' rfl
  refine (some_any _).mono ?_
  rintro e w' ⟨rfl, rfl⟩
  have hB2 := hB.alloc (.cells (someL.flatMap ncs).toArray 31)
  go_wp2_with fail
  refine (some_item (w1.heap.size + 1) _ (some_seg' (w := w1.alloc (.cells (tc someT) 37)) (by simp))).mono ?_
  rintro e w3 ⟨rfl, hb3⟩
  have hB3 := hB2.below hb3 hB2.lt
  have hl3 : Below w.heap.size w w3 := andThen (andAlloc (andAlloc hl1 _) _) hb3
  have c0 : w3.cell? ⟨w1.heap.size, 0, none⟩ = some (.int .i64 720896) := hB3.cell 0
  have c1 : w3.cell? ⟨w1.heap.size, 1, none⟩ = some (.int .i64 131072) := hB3.cell 1
  clear hB hB2 hb3 hB3 hl1
  go_wp2_with (go_at_call 15; refine (num_any _ _).mono ?_; rintro e w' ⟨rfl, rfl⟩)
  go_ret
  exact ⟨ret_bool (by simp), hl3⟩
end Go.Proofs.Ytmcekdjhkjhcdaa.No

import Derived.Test.YtmcekdjhkjhcdaaGreatDoorMs1
import Derived.Test.YtmcekdjhkjhcdaaGreatDoorNodeRo
import Derived.Test.YtmcekdjhkjhcdaaGreatDoorNodeTe
import Derived.Test.YtmcekdjhkjhcdaaGreatDoorNodeGc
/- Merged texts. Conditions: those that each theorem names. -/
section
namespace Go.Proofs.YtmcekdjhkjhcdaaGreatDoor.Sw
open Go.ChangeShapes Go.WideShapes Go.ChangeAt Go.RowKit
open Me Np Ss No
set_option linter.unusedVariables false
set_option linter.unusedSimpArgs false
/-- What is held while a region runs: the glue's own copy. -/
def HdG (w : World) (g : Nat) (cs : Array Value) (W : World) : Prop := Blk W g 34 cs ∧ Below w.heap.size w W
theorem HdG.drew {w W : World} {g : Nat} {cs : Array Value} (h : HdG w g cs W) : HdG w g cs W.drew := ⟨h.1, Below.drew h.2⟩
theorem HdG.keep {w W W' : World} {g : Nat} {cs : Array Value} (h : HdG w g cs W) (hb : Below W.heap.size W W') : HdG w g cs W' := ⟨h.1.below hb h.1.lt, andThen h.2 hb⟩
theorem HdG.at {w W : World} {g : Nat} {cs : Array Value} (h : HdG w g cs W) {j : Nat} {u : Value} (hj : cs[j]? = some u) : W.cell? ⟨g, j, none⟩ = some u := (h.1.cell j).trans hj
theorem app5 {a b c d : ByteArray} : a ++ b ++ c ++ d = a ++ (b ++ c ++ d) := by simp only [ByteArray.append_assoc]

set_option maxHeartbeats 8000000 in
set_option maxRecDepth 100000 in
theorem rglt_00 (n s h a b : Int) (w : World) (hs : s = 0) (hh : h = 0) :
    Calls Tryz.prog 86 #[.agg #[.int .i64 n, .int .i64 s, .int .i64 h, .int .i64 a, .int .i64 b]] w fun e w' => e = .returned (.string (prS n)) ∧ Below w.heap.size w w' := by
  have e1 : (s != 0) = false := by simp [hs]
  have e2 : (h != 0) = false := by simp [hh]
  clear hs hh
  have HC1 := Lib.hid (fun (W : World) => refPrint n W)
  have hz1 := Gl.prS_size n
  generalize prS n = T1 at *
  go_enter Tryz.func86, Tryz.ntmps86
  go_upto_region 1 with fail
  have hH0 : HdG w w.heap.size #[.int .i64 n, .int .i64 s, .int .i64 h, .int .i64 a, .int .i64 b] (w.alloc (.cells #[.int .i64 n, .int .i64 s, .int .i64 h, .int .i64 a, .int .i64 b] 34)) := ⟨Blk.new w _ _, andAlloc (Below.refl w.heap.size w) _⟩
  generalize w.alloc (.cells #[.int .i64 n, .int .i64 s, .int .i64 h, .int .i64 a, .int .i64 b] 34) = W at hH0 ⊢
  generalize hg : w.heap.size = g0 at hH0 ⊢
  have k0 := hH0.at (j := 0) rfl
  go_wp2_with fail
  refine (HC1.out _).mono ?_
  rintro e w1 ⟨rfl, hb1⟩
  have hH := hH0.keep hb1
  have k1 := hH.at (j := 1) rfl
  have k2 := hH.at (j := 2) rfl
  clear k0 hb1
  go_wp2_with fail
  go_ret
  subst hg
  exact ⟨rfl, hH.2⟩
set_option maxHeartbeats 8000000 in
set_option maxRecDepth 100000 in
theorem rglt_01 (n s h a b : Int) (w : World) (hs : s = 0) (hh : ¬ h = 0) :
    Calls Tryz.prog 86 #[.agg #[.int .i64 n, .int .i64 s, .int .i64 h, .int .i64 a, .int .i64 b]] w fun e w' => e = .returned (.string (prS n ++ ⟨#[32, 109, 105, 110, 117, 115, 32]⟩ ++ prS h ++ ordT b)) ∧ Below w.heap.size w w' := by
  have e1 : (s != 0) = false := by simp [hs]
  have e2 : (h != 0) = true := by simp [hh]
  clear hs hh
  have HC1 := Lib.hid (fun (W : World) => refPrint n W)
  have hz1 := Gl.prS_size n
  generalize prS n = T1 at *
  have HC4 := Lib.hid (fun (W : World) => refPrint h W)
  have hz4 := Gl.prS_size h
  generalize prS h = T4 at *
  have HC5 := Lib.hid (fun (W : World) => rord_any b W)
  have hz5 := ordT_size b
  generalize ordT b = T5 at *
  go_enter Tryz.func86, Tryz.ntmps86
  go_upto_region 1 with fail
  have hH0 : HdG w w.heap.size #[.int .i64 n, .int .i64 s, .int .i64 h, .int .i64 a, .int .i64 b] (w.alloc (.cells #[.int .i64 n, .int .i64 s, .int .i64 h, .int .i64 a, .int .i64 b] 34)) := ⟨Blk.new w _ _, andAlloc (Below.refl w.heap.size w) _⟩
  generalize w.alloc (.cells #[.int .i64 n, .int .i64 s, .int .i64 h, .int .i64 a, .int .i64 b] 34) = W at hH0 ⊢
  generalize hg : w.heap.size = g0 at hH0 ⊢
  have k0 := hH0.at (j := 0) rfl
  go_wp2_with fail
  refine (HC1.out _).mono ?_
  rintro e w1 ⟨rfl, hb1⟩
  have hH := hH0.keep hb1
  have k1 := hH.at (j := 1) rfl
  have k2 := hH.at (j := 2) rfl
  clear k0 hb1
  go_upto_region 5 with fail
  have hI := hH
  refine wp_region_held_drew (S := HdG w g0 #[.int .i64 n, .int .i64 s, .int .i64 h, .int .i64 a, .int .i64 b]) (by kernel_rfl) (hI.drew) (fun hH => ?_)
  refine take_lit (i := 0) (v := (.string (T1))) (by kernel_rfl) (by kernel_rfl) (by kernel_rfl) (by kernel_rfl) (fun _ _ _ _ h => h) hH (fun oi hoi => ?_)
  simp only [List.getElem?_toArray, List.getElem?_cons_succ, List.getElem?_cons_zero, Option.some.injEq] at hoi
  subst hoi
  refine ⟨.inl ⟨by rfl, fun w hSw => ?_⟩, ?_⟩
  · skip
    first | (go_simp; done) | (go_simp; omega) | (go_simp; with_reducible rfl) | (go_simp; kernel_rfl)
  simp only [Act.put, List.setIfInBounds_toArray, List.set_cons_zero, List.set_cons_succ]
  refine take_lit (i := 1) (v := (.string (T1 ++ ⟨#[32, 109, 105, 110, 117, 115, 32]⟩))) (by kernel_rfl) (by kernel_rfl) (by kernel_rfl) (by kernel_rfl) (fun _ _ _ _ h => h) hH (fun oi hoi => ?_)
  simp only [List.getElem?_toArray, List.getElem?_cons_succ, List.getElem?_cons_zero, Option.some.injEq] at hoi
  subst hoi
  refine ⟨.inl ⟨by rfl, fun w hSw => ?_⟩, ?_⟩
  · skip
    have hz : ¬ 9223372036854775807 < (T1 : ByteArray).size + (⟨#[32, 109, 105, 110, 117, 115, 32]⟩ : ByteArray).size := by (try simp only [ByteArray.size_append]); have q0 : (⟨#[32, 109, 105, 110, 117, 115, 32]⟩ : ByteArray).size = 7 := rfl; omega
    first | (go_simp; done) | (go_simp; omega) | (go_simp; with_reducible rfl) | (go_simp; kernel_rfl)
  simp only [Act.put, List.setIfInBounds_toArray, List.set_cons_zero, List.set_cons_succ]
  refine take_lit (i := 2) (v := (.pointer (some ⟨g0, 2, none⟩))) (by kernel_rfl) (by kernel_rfl) (by kernel_rfl) (by kernel_rfl) (fun _ _ _ _ h => h) hH (fun oi hoi => ?_)
  simp only [List.getElem?_toArray, List.getElem?_cons_succ, List.getElem?_cons_zero, Option.some.injEq] at hoi
  subst hoi
  refine ⟨.inl ⟨by rfl, fun w hSw => ?_⟩, ?_⟩
  · skip
    first | (go_simp; done) | (go_simp; omega) | (go_simp; with_reducible rfl) | (go_simp; kernel_rfl)
  simp only [Act.put, List.setIfInBounds_toArray, List.set_cons_zero, List.set_cons_succ]
  refine take_lit (i := 3) (v := (.int .i64 (h))) (by kernel_rfl) (by kernel_rfl) (by kernel_rfl) (by kernel_rfl) (fun _ _ _ _ h => h) hH (fun oi hoi => ?_)
  simp only [List.getElem?_toArray, List.getElem?_cons_succ, List.getElem?_cons_zero, Option.some.injEq] at hoi
  subst hoi
  refine ⟨.inl ⟨by rfl, fun w hSw => ?_⟩, ?_⟩
  · skip
    have z := hSw.at (j := 2) rfl
    first | (go_simp; done) | (go_simp; omega) | (go_simp; with_reducible rfl) | (go_simp; kernel_rfl)
  simp only [Act.put, List.setIfInBounds_toArray, List.set_cons_zero, List.set_cons_succ]
  refine take_lit (i := 6) (v := (.pointer (some ⟨g0, 4, none⟩))) (by kernel_rfl) (by kernel_rfl) (by kernel_rfl) (by kernel_rfl) (fun _ _ _ _ h => h) hH (fun oi hoi => ?_)
  simp only [List.getElem?_toArray, List.getElem?_cons_succ, List.getElem?_cons_zero, Option.some.injEq] at hoi
  subst hoi
  refine ⟨.inl ⟨by rfl, fun w hSw => ?_⟩, ?_⟩
  · skip
    first | (go_simp; done) | (go_simp; omega) | (go_simp; with_reducible rfl) | (go_simp; kernel_rfl)
  simp only [Act.put, List.setIfInBounds_toArray, List.set_cons_zero, List.set_cons_succ]
  refine take_lit (i := 7) (v := (.int .i64 (b))) (by kernel_rfl) (by kernel_rfl) (by kernel_rfl) (by kernel_rfl) (fun _ _ _ _ h => h) hH (fun oi hoi => ?_)
  simp only [List.getElem?_toArray, List.getElem?_cons_succ, List.getElem?_cons_zero, Option.some.injEq] at hoi
  subst hoi
  refine ⟨.inl ⟨by rfl, fun w hSw => ?_⟩, ?_⟩
  · skip
    have z := hSw.at (j := 4) rfl
    first | (go_simp; done) | (go_simp; omega) | (go_simp; with_reducible rfl) | (go_simp; kernel_rfl)
  simp only [Act.put, List.setIfInBounds_toArray, List.set_cons_zero, List.set_cons_succ]
  refine wpAnyH_ready (rs := [4]) (by kernel_rfl) (by simp) (AllReadyH.cons rfl (fun K hK => ?_) AllReadyH.nil)
  go_simp
  go_wp2_with fail
  refine (HC4.out _).mono ?_
  rintro e w_1 ⟨rfl, hb_1⟩
  refine hK.out _ _ (hH.keep hb_1) (fun hH1 => ?_)
  try simp only [Act.put, List.setIfInBounds_toArray, List.set_cons_zero, List.set_cons_succ]
  clear hK K
  refine take_lit (i := 5) (v := (.string ((T1 ++ ⟨#[32, 109, 105, 110, 117, 115, 32]⟩) ++ T4))) (by kernel_rfl) (by kernel_rfl) (by kernel_rfl) (by kernel_rfl) (fun _ _ _ _ h => h) hH1 (fun oi hoi => ?_)
  simp only [List.getElem?_toArray, List.getElem?_cons_succ, List.getElem?_cons_zero, Option.some.injEq] at hoi
  subst hoi
  refine ⟨.inl ⟨by rfl, fun w hSw => ?_⟩, ?_⟩
  · skip
    have hz : ¬ 9223372036854775807 < (T1 ++ ⟨#[32, 109, 105, 110, 117, 115, 32]⟩ : ByteArray).size + (T4 : ByteArray).size := by (try simp only [ByteArray.size_append]); have q0 : (⟨#[32, 109, 105, 110, 117, 115, 32]⟩ : ByteArray).size = 7 := rfl; omega
    first | (go_simp; done) | (go_simp; omega) | (go_simp; with_reducible rfl) | (go_simp; kernel_rfl)
  simp only [Act.put, List.setIfInBounds_toArray, List.set_cons_zero, List.set_cons_succ]
  refine wpAnyH_ready (rs := [8]) (by kernel_rfl) (by simp) (AllReadyH.cons rfl (fun K hK => ?_) AllReadyH.nil)
  go_simp
  go_wp2_with fail
  refine (HC5.out _).mono ?_
  rintro e w_2 ⟨rfl, hb_2⟩
  refine hK.out _ _ (hH1.keep hb_2) (fun hH2 => ?_)
  try simp only [Act.put, List.setIfInBounds_toArray, List.set_cons_zero, List.set_cons_succ]
  clear hK K
  refine take_lit (i := 9) (v := (.string (((T1 ++ ⟨#[32, 109, 105, 110, 117, 115, 32]⟩) ++ T4) ++ T5))) (by kernel_rfl) (by kernel_rfl) (by kernel_rfl) (by kernel_rfl) (fun _ _ _ _ h => h) hH2 (fun oi hoi => ?_)
  simp only [List.getElem?_toArray, List.getElem?_cons_succ, List.getElem?_cons_zero, Option.some.injEq] at hoi
  subst hoi
  refine ⟨.inl ⟨by rfl, fun w hSw => ?_⟩, ?_⟩
  · skip
    have hz : ¬ 9223372036854775807 < ((T1 ++ ⟨#[32, 109, 105, 110, 117, 115, 32]⟩) ++ T4 : ByteArray).size + (T5 : ByteArray).size := by (try simp only [ByteArray.size_append]); have q0 : (⟨#[32, 109, 105, 110, 117, 115, 32]⟩ : ByteArray).size = 7 := rfl; omega
    first | (go_simp; done) | (go_simp; omega) | (go_simp; with_reducible rfl) | (go_simp; kernel_rfl)
  simp only [Act.put, List.setIfInBounds_toArray, List.set_cons_zero, List.set_cons_succ]
  refine take_lit (i := 10) (v := (.string (((T1 ++ ⟨#[32, 109, 105, 110, 117, 115, 32]⟩) ++ T4) ++ T5))) (by kernel_rfl) (by kernel_rfl) (by kernel_rfl) (by kernel_rfl) (fun _ _ _ _ h => h) hH2 (fun oi hoi => ?_)
  simp only [List.getElem?_toArray, List.getElem?_cons_succ, List.getElem?_cons_zero, Option.some.injEq] at hoi
  subst hoi
  refine ⟨.inl ⟨by rfl, fun w hSw => ?_⟩, ?_⟩
  · skip
    first | (go_simp; done) | (go_simp; omega) | (go_simp; with_reducible rfl) | (go_simp; kernel_rfl)
  simp only [Act.put, List.setIfInBounds_toArray, List.set_cons_zero, List.set_cons_succ]
  refine wpAnyH_done (by kernel_rfl) ?_ _
  go_wp2_with fail
  go_ret
  subst hg
  exact ⟨rfl, hH2.2⟩
set_option maxHeartbeats 8000000 in
set_option maxRecDepth 100000 in
theorem rglt_10 (n s h a b : Int) (w : World) (hs : ¬ s = 0) (hh : h = 0) :
    Calls Tryz.prog 86 #[.agg #[.int .i64 n, .int .i64 s, .int .i64 h, .int .i64 a, .int .i64 b]] w fun e w' => e = .returned (.string (prS n ++ ⟨#[32, 112, 108, 117, 115, 32]⟩ ++ prS s ++ ordT a)) ∧ Below w.heap.size w w' := by
  have e1 : (s != 0) = true := by simp [hs]
  have e2 : (h != 0) = false := by simp [hh]
  clear hs hh
  have HC1 := Lib.hid (fun (W : World) => refPrint n W)
  have hz1 := Gl.prS_size n
  generalize prS n = T1 at *
  have HC2 := Lib.hid (fun (W : World) => refPrint s W)
  have hz2 := Gl.prS_size s
  generalize prS s = T2 at *
  have HC3 := Lib.hid (fun (W : World) => rord_any a W)
  have hz3 := ordT_size a
  generalize ordT a = T3 at *
  go_enter Tryz.func86, Tryz.ntmps86
  go_upto_region 1 with fail
  have hH0 : HdG w w.heap.size #[.int .i64 n, .int .i64 s, .int .i64 h, .int .i64 a, .int .i64 b] (w.alloc (.cells #[.int .i64 n, .int .i64 s, .int .i64 h, .int .i64 a, .int .i64 b] 34)) := ⟨Blk.new w _ _, andAlloc (Below.refl w.heap.size w) _⟩
  generalize w.alloc (.cells #[.int .i64 n, .int .i64 s, .int .i64 h, .int .i64 a, .int .i64 b] 34) = W at hH0 ⊢
  generalize hg : w.heap.size = g0 at hH0 ⊢
  have k0 := hH0.at (j := 0) rfl
  go_wp2_with fail
  refine (HC1.out _).mono ?_
  rintro e w1 ⟨rfl, hb1⟩
  have hH := hH0.keep hb1
  have k1 := hH.at (j := 1) rfl
  have k2 := hH.at (j := 2) rfl
  clear k0 hb1
  go_upto_region 3 with fail
  refine wp_region_held_drew (S := HdG w g0 #[.int .i64 n, .int .i64 s, .int .i64 h, .int .i64 a, .int .i64 b]) (by kernel_rfl) (hH.drew) (fun hH => ?_)
  refine take_lit (i := 0) (v := (.string (T1))) (by kernel_rfl) (by kernel_rfl) (by kernel_rfl) (by kernel_rfl) (fun _ _ _ _ h => h) hH (fun oi hoi => ?_)
  simp only [List.getElem?_toArray, List.getElem?_cons_succ, List.getElem?_cons_zero, Option.some.injEq] at hoi
  subst hoi
  refine ⟨.inl ⟨by rfl, fun w hSw => ?_⟩, ?_⟩
  · skip
    first | (go_simp; done) | (go_simp; omega) | (go_simp; with_reducible rfl) | (go_simp; kernel_rfl)
  simp only [Act.put, List.setIfInBounds_toArray, List.set_cons_zero, List.set_cons_succ]
  refine take_lit (i := 1) (v := (.string (T1 ++ ⟨#[32, 112, 108, 117, 115, 32]⟩))) (by kernel_rfl) (by kernel_rfl) (by kernel_rfl) (by kernel_rfl) (fun _ _ _ _ h => h) hH (fun oi hoi => ?_)
  simp only [List.getElem?_toArray, List.getElem?_cons_succ, List.getElem?_cons_zero, Option.some.injEq] at hoi
  subst hoi
  refine ⟨.inl ⟨by rfl, fun w hSw => ?_⟩, ?_⟩
  · skip
    have hz : ¬ 9223372036854775807 < (T1 : ByteArray).size + (⟨#[32, 112, 108, 117, 115, 32]⟩ : ByteArray).size := by (try simp only [ByteArray.size_append]); have q0 : (⟨#[32, 112, 108, 117, 115, 32]⟩ : ByteArray).size = 6 := rfl; omega
    first | (go_simp; done) | (go_simp; omega) | (go_simp; with_reducible rfl) | (go_simp; kernel_rfl)
  simp only [Act.put, List.setIfInBounds_toArray, List.set_cons_zero, List.set_cons_succ]
  refine take_lit (i := 2) (v := (.pointer (some ⟨g0, 1, none⟩))) (by kernel_rfl) (by kernel_rfl) (by kernel_rfl) (by kernel_rfl) (fun _ _ _ _ h => h) hH (fun oi hoi => ?_)
  simp only [List.getElem?_toArray, List.getElem?_cons_succ, List.getElem?_cons_zero, Option.some.injEq] at hoi
  subst hoi
  refine ⟨.inl ⟨by rfl, fun w hSw => ?_⟩, ?_⟩
  · skip
    first | (go_simp; done) | (go_simp; omega) | (go_simp; with_reducible rfl) | (go_simp; kernel_rfl)
  simp only [Act.put, List.setIfInBounds_toArray, List.set_cons_zero, List.set_cons_succ]
  refine take_lit (i := 3) (v := (.int .i64 (s))) (by kernel_rfl) (by kernel_rfl) (by kernel_rfl) (by kernel_rfl) (fun _ _ _ _ h => h) hH (fun oi hoi => ?_)
  simp only [List.getElem?_toArray, List.getElem?_cons_succ, List.getElem?_cons_zero, Option.some.injEq] at hoi
  subst hoi
  refine ⟨.inl ⟨by rfl, fun w hSw => ?_⟩, ?_⟩
  · skip
    have z := hSw.at (j := 1) rfl
    first | (go_simp; done) | (go_simp; omega) | (go_simp; with_reducible rfl) | (go_simp; kernel_rfl)
  simp only [Act.put, List.setIfInBounds_toArray, List.set_cons_zero, List.set_cons_succ]
  refine take_lit (i := 6) (v := (.pointer (some ⟨g0, 3, none⟩))) (by kernel_rfl) (by kernel_rfl) (by kernel_rfl) (by kernel_rfl) (fun _ _ _ _ h => h) hH (fun oi hoi => ?_)
  simp only [List.getElem?_toArray, List.getElem?_cons_succ, List.getElem?_cons_zero, Option.some.injEq] at hoi
  subst hoi
  refine ⟨.inl ⟨by rfl, fun w hSw => ?_⟩, ?_⟩
  · skip
    first | (go_simp; done) | (go_simp; omega) | (go_simp; with_reducible rfl) | (go_simp; kernel_rfl)
  simp only [Act.put, List.setIfInBounds_toArray, List.set_cons_zero, List.set_cons_succ]
  refine take_lit (i := 7) (v := (.int .i64 (a))) (by kernel_rfl) (by kernel_rfl) (by kernel_rfl) (by kernel_rfl) (fun _ _ _ _ h => h) hH (fun oi hoi => ?_)
  simp only [List.getElem?_toArray, List.getElem?_cons_succ, List.getElem?_cons_zero, Option.some.injEq] at hoi
  subst hoi
  refine ⟨.inl ⟨by rfl, fun w hSw => ?_⟩, ?_⟩
  · skip
    have z := hSw.at (j := 3) rfl
    first | (go_simp; done) | (go_simp; omega) | (go_simp; with_reducible rfl) | (go_simp; kernel_rfl)
  simp only [Act.put, List.setIfInBounds_toArray, List.set_cons_zero, List.set_cons_succ]
  refine wpAnyH_ready (rs := [4]) (by kernel_rfl) (by simp) (AllReadyH.cons rfl (fun K hK => ?_) AllReadyH.nil)
  go_simp
  go_wp2_with fail
  refine (HC2.out _).mono ?_
  rintro e w_1 ⟨rfl, hb_1⟩
  refine hK.out _ _ (hH.keep hb_1) (fun hH1 => ?_)
  try simp only [Act.put, List.setIfInBounds_toArray, List.set_cons_zero, List.set_cons_succ]
  clear hK K
  refine take_lit (i := 5) (v := (.string ((T1 ++ ⟨#[32, 112, 108, 117, 115, 32]⟩) ++ T2))) (by kernel_rfl) (by kernel_rfl) (by kernel_rfl) (by kernel_rfl) (fun _ _ _ _ h => h) hH1 (fun oi hoi => ?_)
  simp only [List.getElem?_toArray, List.getElem?_cons_succ, List.getElem?_cons_zero, Option.some.injEq] at hoi
  subst hoi
  refine ⟨.inl ⟨by rfl, fun w hSw => ?_⟩, ?_⟩
  · skip
    have hz : ¬ 9223372036854775807 < (T1 ++ ⟨#[32, 112, 108, 117, 115, 32]⟩ : ByteArray).size + (T2 : ByteArray).size := by (try simp only [ByteArray.size_append]); have q0 : (⟨#[32, 112, 108, 117, 115, 32]⟩ : ByteArray).size = 6 := rfl; omega
    first | (go_simp; done) | (go_simp; omega) | (go_simp; with_reducible rfl) | (go_simp; kernel_rfl)
  simp only [Act.put, List.setIfInBounds_toArray, List.set_cons_zero, List.set_cons_succ]
  refine wpAnyH_ready (rs := [8]) (by kernel_rfl) (by simp) (AllReadyH.cons rfl (fun K hK => ?_) AllReadyH.nil)
  go_simp
  go_wp2_with fail
  refine (HC3.out _).mono ?_
  rintro e w_2 ⟨rfl, hb_2⟩
  refine hK.out _ _ (hH1.keep hb_2) (fun hH2 => ?_)
  try simp only [Act.put, List.setIfInBounds_toArray, List.set_cons_zero, List.set_cons_succ]
  clear hK K
  refine take_lit (i := 9) (v := (.string (((T1 ++ ⟨#[32, 112, 108, 117, 115, 32]⟩) ++ T2) ++ T3))) (by kernel_rfl) (by kernel_rfl) (by kernel_rfl) (by kernel_rfl) (fun _ _ _ _ h => h) hH2 (fun oi hoi => ?_)
  simp only [List.getElem?_toArray, List.getElem?_cons_succ, List.getElem?_cons_zero, Option.some.injEq] at hoi
  subst hoi
  refine ⟨.inl ⟨by rfl, fun w hSw => ?_⟩, ?_⟩
  · skip
    have hz : ¬ 9223372036854775807 < ((T1 ++ ⟨#[32, 112, 108, 117, 115, 32]⟩) ++ T2 : ByteArray).size + (T3 : ByteArray).size := by (try simp only [ByteArray.size_append]); have q0 : (⟨#[32, 112, 108, 117, 115, 32]⟩ : ByteArray).size = 6 := rfl; omega
    first | (go_simp; done) | (go_simp; omega) | (go_simp; with_reducible rfl) | (go_simp; kernel_rfl)
  simp only [Act.put, List.setIfInBounds_toArray, List.set_cons_zero, List.set_cons_succ]
  refine take_lit (i := 10) (v := (.string (((T1 ++ ⟨#[32, 112, 108, 117, 115, 32]⟩) ++ T2) ++ T3))) (by kernel_rfl) (by kernel_rfl) (by kernel_rfl) (by kernel_rfl) (fun _ _ _ _ h => h) hH2 (fun oi hoi => ?_)
  simp only [List.getElem?_toArray, List.getElem?_cons_succ, List.getElem?_cons_zero, Option.some.injEq] at hoi
  subst hoi
  refine ⟨.inl ⟨by rfl, fun w hSw => ?_⟩, ?_⟩
  · skip
    first | (go_simp; done) | (go_simp; omega) | (go_simp; with_reducible rfl) | (go_simp; kernel_rfl)
  simp only [Act.put, List.setIfInBounds_toArray, List.set_cons_zero, List.set_cons_succ]
  refine wpAnyH_done (by kernel_rfl) ?_ _
  have k4 := hH2.at (j := 2) rfl
  clear k1 k2
  go_wp2_with fail
  go_ret
  subst hg
  exact ⟨rfl, hH2.2⟩
set_option maxHeartbeats 8000000 in
set_option maxRecDepth 100000 in
theorem rglt_11 (n s h a b : Int) (w : World) (hs : ¬ s = 0) (hh : ¬ h = 0) :
    Calls Tryz.prog 86 #[.agg #[.int .i64 n, .int .i64 s, .int .i64 h, .int .i64 a, .int .i64 b]] w fun e w' => e = .returned (.string (prS n ++ ⟨#[32, 112, 108, 117, 115, 32]⟩ ++ prS s ++ ordT a ++ ⟨#[32, 109, 105, 110, 117, 115, 32]⟩ ++ prS h ++ ordT b)) ∧ Below w.heap.size w w' := by
  have e1 : (s != 0) = true := by simp [hs]
  have e2 : (h != 0) = true := by simp [hh]
  clear hs hh
  have HC1 := Lib.hid (fun (W : World) => refPrint n W)
  have hz1 := Gl.prS_size n
  generalize prS n = T1 at *
  have HC2 := Lib.hid (fun (W : World) => refPrint s W)
  have hz2 := Gl.prS_size s
  generalize prS s = T2 at *
  have HC3 := Lib.hid (fun (W : World) => rord_any a W)
  have hz3 := ordT_size a
  generalize ordT a = T3 at *
  have HC4 := Lib.hid (fun (W : World) => refPrint h W)
  have hz4 := Gl.prS_size h
  generalize prS h = T4 at *
  have HC5 := Lib.hid (fun (W : World) => rord_any b W)
  have hz5 := ordT_size b
  generalize ordT b = T5 at *
  go_enter Tryz.func86, Tryz.ntmps86
  go_upto_region 1 with fail
  have hH0 : HdG w w.heap.size #[.int .i64 n, .int .i64 s, .int .i64 h, .int .i64 a, .int .i64 b] (w.alloc (.cells #[.int .i64 n, .int .i64 s, .int .i64 h, .int .i64 a, .int .i64 b] 34)) := ⟨Blk.new w _ _, andAlloc (Below.refl w.heap.size w) _⟩
  generalize w.alloc (.cells #[.int .i64 n, .int .i64 s, .int .i64 h, .int .i64 a, .int .i64 b] 34) = W at hH0 ⊢
  generalize hg : w.heap.size = g0 at hH0 ⊢
  have k0 := hH0.at (j := 0) rfl
  go_wp2_with fail
  refine (HC1.out _).mono ?_
  rintro e w1 ⟨rfl, hb1⟩
  have hH := hH0.keep hb1
  have k1 := hH.at (j := 1) rfl
  have k2 := hH.at (j := 2) rfl
  clear k0 hb1
  go_upto_region 3 with fail
  refine wp_region_held_drew (S := HdG w g0 #[.int .i64 n, .int .i64 s, .int .i64 h, .int .i64 a, .int .i64 b]) (by kernel_rfl) (hH.drew) (fun hH => ?_)
  refine take_lit (i := 0) (v := (.string (T1))) (by kernel_rfl) (by kernel_rfl) (by kernel_rfl) (by kernel_rfl) (fun _ _ _ _ h => h) hH (fun oi hoi => ?_)
  simp only [List.getElem?_toArray, List.getElem?_cons_succ, List.getElem?_cons_zero, Option.some.injEq] at hoi
  subst hoi
  refine ⟨.inl ⟨by rfl, fun w hSw => ?_⟩, ?_⟩
  · skip
    first | (go_simp; done) | (go_simp; omega) | (go_simp; with_reducible rfl) | (go_simp; kernel_rfl)
  simp only [Act.put, List.setIfInBounds_toArray, List.set_cons_zero, List.set_cons_succ]
  refine take_lit (i := 1) (v := (.string (T1 ++ ⟨#[32, 112, 108, 117, 115, 32]⟩))) (by kernel_rfl) (by kernel_rfl) (by kernel_rfl) (by kernel_rfl) (fun _ _ _ _ h => h) hH (fun oi hoi => ?_)
  simp only [List.getElem?_toArray, List.getElem?_cons_succ, List.getElem?_cons_zero, Option.some.injEq] at hoi
  subst hoi
  refine ⟨.inl ⟨by rfl, fun w hSw => ?_⟩, ?_⟩
  · skip
    have hz : ¬ 9223372036854775807 < (T1 : ByteArray).size + (⟨#[32, 112, 108, 117, 115, 32]⟩ : ByteArray).size := by (try simp only [ByteArray.size_append]); have q0 : (⟨#[32, 112, 108, 117, 115, 32]⟩ : ByteArray).size = 6 := rfl; omega
    first | (go_simp; done) | (go_simp; omega) | (go_simp; with_reducible rfl) | (go_simp; kernel_rfl)
  simp only [Act.put, List.setIfInBounds_toArray, List.set_cons_zero, List.set_cons_succ]
  refine take_lit (i := 2) (v := (.pointer (some ⟨g0, 1, none⟩))) (by kernel_rfl) (by kernel_rfl) (by kernel_rfl) (by kernel_rfl) (fun _ _ _ _ h => h) hH (fun oi hoi => ?_)
  simp only [List.getElem?_toArray, List.getElem?_cons_succ, List.getElem?_cons_zero, Option.some.injEq] at hoi
  subst hoi
  refine ⟨.inl ⟨by rfl, fun w hSw => ?_⟩, ?_⟩
  · skip
    first | (go_simp; done) | (go_simp; omega) | (go_simp; with_reducible rfl) | (go_simp; kernel_rfl)
  simp only [Act.put, List.setIfInBounds_toArray, List.set_cons_zero, List.set_cons_succ]
  refine take_lit (i := 3) (v := (.int .i64 (s))) (by kernel_rfl) (by kernel_rfl) (by kernel_rfl) (by kernel_rfl) (fun _ _ _ _ h => h) hH (fun oi hoi => ?_)
  simp only [List.getElem?_toArray, List.getElem?_cons_succ, List.getElem?_cons_zero, Option.some.injEq] at hoi
  subst hoi
  refine ⟨.inl ⟨by rfl, fun w hSw => ?_⟩, ?_⟩
  · skip
    have z := hSw.at (j := 1) rfl
    first | (go_simp; done) | (go_simp; omega) | (go_simp; with_reducible rfl) | (go_simp; kernel_rfl)
  simp only [Act.put, List.setIfInBounds_toArray, List.set_cons_zero, List.set_cons_succ]
  refine take_lit (i := 6) (v := (.pointer (some ⟨g0, 3, none⟩))) (by kernel_rfl) (by kernel_rfl) (by kernel_rfl) (by kernel_rfl) (fun _ _ _ _ h => h) hH (fun oi hoi => ?_)
  simp only [List.getElem?_toArray, List.getElem?_cons_succ, List.getElem?_cons_zero, Option.some.injEq] at hoi
  subst hoi
  refine ⟨.inl ⟨by rfl, fun w hSw => ?_⟩, ?_⟩
  · skip
    first | (go_simp; done) | (go_simp; omega) | (go_simp; with_reducible rfl) | (go_simp; kernel_rfl)
  simp only [Act.put, List.setIfInBounds_toArray, List.set_cons_zero, List.set_cons_succ]
  refine take_lit (i := 7) (v := (.int .i64 (a))) (by kernel_rfl) (by kernel_rfl) (by kernel_rfl) (by kernel_rfl) (fun _ _ _ _ h => h) hH (fun oi hoi => ?_)
  simp only [List.getElem?_toArray, List.getElem?_cons_succ, List.getElem?_cons_zero, Option.some.injEq] at hoi
  subst hoi
  refine ⟨.inl ⟨by rfl, fun w hSw => ?_⟩, ?_⟩
  · skip
    have z := hSw.at (j := 3) rfl
    first | (go_simp; done) | (go_simp; omega) | (go_simp; with_reducible rfl) | (go_simp; kernel_rfl)
  simp only [Act.put, List.setIfInBounds_toArray, List.set_cons_zero, List.set_cons_succ]
  refine wpAnyH_ready (rs := [4]) (by kernel_rfl) (by simp) (AllReadyH.cons rfl (fun K hK => ?_) AllReadyH.nil)
  go_simp
  go_wp2_with fail
  refine (HC2.out _).mono ?_
  rintro e w_1 ⟨rfl, hb_1⟩
  refine hK.out _ _ (hH.keep hb_1) (fun hH1 => ?_)
  try simp only [Act.put, List.setIfInBounds_toArray, List.set_cons_zero, List.set_cons_succ]
  clear hK K
  refine take_lit (i := 5) (v := (.string ((T1 ++ ⟨#[32, 112, 108, 117, 115, 32]⟩) ++ T2))) (by kernel_rfl) (by kernel_rfl) (by kernel_rfl) (by kernel_rfl) (fun _ _ _ _ h => h) hH1 (fun oi hoi => ?_)
  simp only [List.getElem?_toArray, List.getElem?_cons_succ, List.getElem?_cons_zero, Option.some.injEq] at hoi
  subst hoi
  refine ⟨.inl ⟨by rfl, fun w hSw => ?_⟩, ?_⟩
  · skip
    have hz : ¬ 9223372036854775807 < (T1 ++ ⟨#[32, 112, 108, 117, 115, 32]⟩ : ByteArray).size + (T2 : ByteArray).size := by (try simp only [ByteArray.size_append]); have q0 : (⟨#[32, 112, 108, 117, 115, 32]⟩ : ByteArray).size = 6 := rfl; omega
    first | (go_simp; done) | (go_simp; omega) | (go_simp; with_reducible rfl) | (go_simp; kernel_rfl)
  simp only [Act.put, List.setIfInBounds_toArray, List.set_cons_zero, List.set_cons_succ]
  refine wpAnyH_ready (rs := [8]) (by kernel_rfl) (by simp) (AllReadyH.cons rfl (fun K hK => ?_) AllReadyH.nil)
  go_simp
  go_wp2_with fail
  refine (HC3.out _).mono ?_
  rintro e w_2 ⟨rfl, hb_2⟩
  refine hK.out _ _ (hH1.keep hb_2) (fun hH2 => ?_)
  try simp only [Act.put, List.setIfInBounds_toArray, List.set_cons_zero, List.set_cons_succ]
  clear hK K
  refine take_lit (i := 9) (v := (.string (((T1 ++ ⟨#[32, 112, 108, 117, 115, 32]⟩) ++ T2) ++ T3))) (by kernel_rfl) (by kernel_rfl) (by kernel_rfl) (by kernel_rfl) (fun _ _ _ _ h => h) hH2 (fun oi hoi => ?_)
  simp only [List.getElem?_toArray, List.getElem?_cons_succ, List.getElem?_cons_zero, Option.some.injEq] at hoi
  subst hoi
  refine ⟨.inl ⟨by rfl, fun w hSw => ?_⟩, ?_⟩
  · skip
    have hz : ¬ 9223372036854775807 < ((T1 ++ ⟨#[32, 112, 108, 117, 115, 32]⟩) ++ T2 : ByteArray).size + (T3 : ByteArray).size := by (try simp only [ByteArray.size_append]); have q0 : (⟨#[32, 112, 108, 117, 115, 32]⟩ : ByteArray).size = 6 := rfl; omega
    first | (go_simp; done) | (go_simp; omega) | (go_simp; with_reducible rfl) | (go_simp; kernel_rfl)
  simp only [Act.put, List.setIfInBounds_toArray, List.set_cons_zero, List.set_cons_succ]
  refine take_lit (i := 10) (v := (.string (((T1 ++ ⟨#[32, 112, 108, 117, 115, 32]⟩) ++ T2) ++ T3))) (by kernel_rfl) (by kernel_rfl) (by kernel_rfl) (by kernel_rfl) (fun _ _ _ _ h => h) hH2 (fun oi hoi => ?_)
  simp only [List.getElem?_toArray, List.getElem?_cons_succ, List.getElem?_cons_zero, Option.some.injEq] at hoi
  subst hoi
  refine ⟨.inl ⟨by rfl, fun w hSw => ?_⟩, ?_⟩
  · skip
    first | (go_simp; done) | (go_simp; omega) | (go_simp; with_reducible rfl) | (go_simp; kernel_rfl)
  simp only [Act.put, List.setIfInBounds_toArray, List.set_cons_zero, List.set_cons_succ]
  refine wpAnyH_done (by kernel_rfl) ?_ _
  have k4 := hH2.at (j := 2) rfl
  clear k1 k2
  go_upto_region 5 with fail
  have hI := hH2
  clear hH hH1 hH2
  refine wp_region_held_drew (S := HdG w g0 #[.int .i64 n, .int .i64 s, .int .i64 h, .int .i64 a, .int .i64 b]) (by kernel_rfl) (hI.drew) (fun hH => ?_)
  refine take_lit (i := 0) (v := (.string (((T1 ++ ⟨#[32, 112, 108, 117, 115, 32]⟩) ++ T2) ++ T3))) (by kernel_rfl) (by kernel_rfl) (by kernel_rfl) (by kernel_rfl) (fun _ _ _ _ h => h) hH (fun oi hoi => ?_)
  simp only [List.getElem?_toArray, List.getElem?_cons_succ, List.getElem?_cons_zero, Option.some.injEq] at hoi
  subst hoi
  refine ⟨.inl ⟨by rfl, fun w hSw => ?_⟩, ?_⟩
  · skip
    first | (go_simp; done) | (go_simp; omega) | (go_simp; with_reducible rfl) | (go_simp; kernel_rfl)
  simp only [Act.put, List.setIfInBounds_toArray, List.set_cons_zero, List.set_cons_succ]
  refine take_lit (i := 1) (v := (.string ((((T1 ++ ⟨#[32, 112, 108, 117, 115, 32]⟩) ++ T2) ++ T3) ++ ⟨#[32, 109, 105, 110, 117, 115, 32]⟩))) (by kernel_rfl) (by kernel_rfl) (by kernel_rfl) (by kernel_rfl) (fun _ _ _ _ h => h) hH (fun oi hoi => ?_)
  simp only [List.getElem?_toArray, List.getElem?_cons_succ, List.getElem?_cons_zero, Option.some.injEq] at hoi
  subst hoi
  refine ⟨.inl ⟨by rfl, fun w hSw => ?_⟩, ?_⟩
  · skip
    have hz : ¬ 9223372036854775807 < (((T1 ++ ⟨#[32, 112, 108, 117, 115, 32]⟩) ++ T2) ++ T3 : ByteArray).size + (⟨#[32, 109, 105, 110, 117, 115, 32]⟩ : ByteArray).size := by (try simp only [ByteArray.size_append]); have q0 : (⟨#[32, 109, 105, 110, 117, 115, 32]⟩ : ByteArray).size = 7 := rfl; have q1 : (⟨#[32, 112, 108, 117, 115, 32]⟩ : ByteArray).size = 6 := rfl; omega
    first | (go_simp; done) | (go_simp; omega) | (go_simp; with_reducible rfl) | (go_simp; kernel_rfl)
  simp only [Act.put, List.setIfInBounds_toArray, List.set_cons_zero, List.set_cons_succ]
  refine take_lit (i := 2) (v := (.pointer (some ⟨g0, 2, none⟩))) (by kernel_rfl) (by kernel_rfl) (by kernel_rfl) (by kernel_rfl) (fun _ _ _ _ h => h) hH (fun oi hoi => ?_)
  simp only [List.getElem?_toArray, List.getElem?_cons_succ, List.getElem?_cons_zero, Option.some.injEq] at hoi
  subst hoi
  refine ⟨.inl ⟨by rfl, fun w hSw => ?_⟩, ?_⟩
  · skip
    first | (go_simp; done) | (go_simp; omega) | (go_simp; with_reducible rfl) | (go_simp; kernel_rfl)
  simp only [Act.put, List.setIfInBounds_toArray, List.set_cons_zero, List.set_cons_succ]
  refine take_lit (i := 3) (v := (.int .i64 (h))) (by kernel_rfl) (by kernel_rfl) (by kernel_rfl) (by kernel_rfl) (fun _ _ _ _ h => h) hH (fun oi hoi => ?_)
  simp only [List.getElem?_toArray, List.getElem?_cons_succ, List.getElem?_cons_zero, Option.some.injEq] at hoi
  subst hoi
  refine ⟨.inl ⟨by rfl, fun w hSw => ?_⟩, ?_⟩
  · skip
    have z := hSw.at (j := 2) rfl
    first | (go_simp; done) | (go_simp; omega) | (go_simp; with_reducible rfl) | (go_simp; kernel_rfl)
  simp only [Act.put, List.setIfInBounds_toArray, List.set_cons_zero, List.set_cons_succ]
  refine take_lit (i := 6) (v := (.pointer (some ⟨g0, 4, none⟩))) (by kernel_rfl) (by kernel_rfl) (by kernel_rfl) (by kernel_rfl) (fun _ _ _ _ h => h) hH (fun oi hoi => ?_)
  simp only [List.getElem?_toArray, List.getElem?_cons_succ, List.getElem?_cons_zero, Option.some.injEq] at hoi
  subst hoi
  refine ⟨.inl ⟨by rfl, fun w hSw => ?_⟩, ?_⟩
  · skip
    first | (go_simp; done) | (go_simp; omega) | (go_simp; with_reducible rfl) | (go_simp; kernel_rfl)
  simp only [Act.put, List.setIfInBounds_toArray, List.set_cons_zero, List.set_cons_succ]
  refine take_lit (i := 7) (v := (.int .i64 (b))) (by kernel_rfl) (by kernel_rfl) (by kernel_rfl) (by kernel_rfl) (fun _ _ _ _ h => h) hH (fun oi hoi => ?_)
  simp only [List.getElem?_toArray, List.getElem?_cons_succ, List.getElem?_cons_zero, Option.some.injEq] at hoi
  subst hoi
  refine ⟨.inl ⟨by rfl, fun w hSw => ?_⟩, ?_⟩
  · skip
    have z := hSw.at (j := 4) rfl
    first | (go_simp; done) | (go_simp; omega) | (go_simp; with_reducible rfl) | (go_simp; kernel_rfl)
  simp only [Act.put, List.setIfInBounds_toArray, List.set_cons_zero, List.set_cons_succ]
  refine wpAnyH_ready (rs := [4]) (by kernel_rfl) (by simp) (AllReadyH.cons rfl (fun K hK => ?_) AllReadyH.nil)
  go_simp
  go_wp2_with fail
  refine (HC4.out _).mono ?_
  rintro e w_1 ⟨rfl, hb_1⟩
  refine hK.out _ _ (hH.keep hb_1) (fun hH1 => ?_)
  try simp only [Act.put, List.setIfInBounds_toArray, List.set_cons_zero, List.set_cons_succ]
  clear hK K
  refine take_lit (i := 5) (v := (.string (((((T1 ++ ⟨#[32, 112, 108, 117, 115, 32]⟩) ++ T2) ++ T3) ++ ⟨#[32, 109, 105, 110, 117, 115, 32]⟩) ++ T4))) (by kernel_rfl) (by kernel_rfl) (by kernel_rfl) (by kernel_rfl) (fun _ _ _ _ h => h) hH1 (fun oi hoi => ?_)
  simp only [List.getElem?_toArray, List.getElem?_cons_succ, List.getElem?_cons_zero, Option.some.injEq] at hoi
  subst hoi
  refine ⟨.inl ⟨by rfl, fun w hSw => ?_⟩, ?_⟩
  · skip
    have hz : ¬ 9223372036854775807 < ((((T1 ++ ⟨#[32, 112, 108, 117, 115, 32]⟩) ++ T2) ++ T3) ++ ⟨#[32, 109, 105, 110, 117, 115, 32]⟩ : ByteArray).size + (T4 : ByteArray).size := by (try simp only [ByteArray.size_append]); have q0 : (⟨#[32, 109, 105, 110, 117, 115, 32]⟩ : ByteArray).size = 7 := rfl; have q1 : (⟨#[32, 112, 108, 117, 115, 32]⟩ : ByteArray).size = 6 := rfl; omega
    first | (go_simp; done) | (go_simp; omega) | (go_simp; with_reducible rfl) | (go_simp; kernel_rfl)
  simp only [Act.put, List.setIfInBounds_toArray, List.set_cons_zero, List.set_cons_succ]
  refine wpAnyH_ready (rs := [8]) (by kernel_rfl) (by simp) (AllReadyH.cons rfl (fun K hK => ?_) AllReadyH.nil)
  go_simp
  go_wp2_with fail
  refine (HC5.out _).mono ?_
  rintro e w_2 ⟨rfl, hb_2⟩
  refine hK.out _ _ (hH1.keep hb_2) (fun hH2 => ?_)
  try simp only [Act.put, List.setIfInBounds_toArray, List.set_cons_zero, List.set_cons_succ]
  clear hK K
  refine take_lit (i := 9) (v := (.string ((((((T1 ++ ⟨#[32, 112, 108, 117, 115, 32]⟩) ++ T2) ++ T3) ++ ⟨#[32, 109, 105, 110, 117, 115, 32]⟩) ++ T4) ++ T5))) (by kernel_rfl) (by kernel_rfl) (by kernel_rfl) (by kernel_rfl) (fun _ _ _ _ h => h) hH2 (fun oi hoi => ?_)
  simp only [List.getElem?_toArray, List.getElem?_cons_succ, List.getElem?_cons_zero, Option.some.injEq] at hoi
  subst hoi
  refine ⟨.inl ⟨by rfl, fun w hSw => ?_⟩, ?_⟩
  · skip
    have hz : ¬ 9223372036854775807 < (((((T1 ++ ⟨#[32, 112, 108, 117, 115, 32]⟩) ++ T2) ++ T3) ++ ⟨#[32, 109, 105, 110, 117, 115, 32]⟩) ++ T4 : ByteArray).size + (T5 : ByteArray).size := by (try simp only [ByteArray.size_append]); have q0 : (⟨#[32, 109, 105, 110, 117, 115, 32]⟩ : ByteArray).size = 7 := rfl; have q1 : (⟨#[32, 112, 108, 117, 115, 32]⟩ : ByteArray).size = 6 := rfl; omega
    first | (go_simp; done) | (go_simp; omega) | (go_simp; with_reducible rfl) | (go_simp; kernel_rfl)
  simp only [Act.put, List.setIfInBounds_toArray, List.set_cons_zero, List.set_cons_succ]
  refine take_lit (i := 10) (v := (.string ((((((T1 ++ ⟨#[32, 112, 108, 117, 115, 32]⟩) ++ T2) ++ T3) ++ ⟨#[32, 109, 105, 110, 117, 115, 32]⟩) ++ T4) ++ T5))) (by kernel_rfl) (by kernel_rfl) (by kernel_rfl) (by kernel_rfl) (fun _ _ _ _ h => h) hH2 (fun oi hoi => ?_)
  simp only [List.getElem?_toArray, List.getElem?_cons_succ, List.getElem?_cons_zero, Option.some.injEq] at hoi
  subst hoi
  refine ⟨.inl ⟨by rfl, fun w hSw => ?_⟩, ?_⟩
  · skip
    first | (go_simp; done) | (go_simp; omega) | (go_simp; with_reducible rfl) | (go_simp; kernel_rfl)
  simp only [Act.put, List.setIfInBounds_toArray, List.set_cons_zero, List.set_cons_succ]
  refine wpAnyH_done (by kernel_rfl) ?_ _
  go_wp2_with fail
  go_ret
  subst hg
  exact ⟨rfl, hH2.2⟩
theorem rglt_any (n s h a b : Int) (w : World) (g1 : Gl.glueB n s h a b = true) :
    Calls Tryz.prog 86 #[.agg #[.int .i64 n, .int .i64 s, .int .i64 h, .int .i64 a, .int .i64 b]] w fun e w' => e = .returned (.string (Gl.shT n s h a b)) ∧ Below w.heap.size w w' := by
  have e : Gl.shT n s h a b = prS n ++ Gl.amT Gl.plusT s a ++ Gl.amT Gl.minusT h b := if_pos g1
  rw [e]
  by_cases hs : s = 0
  · have e1 : Gl.amT Gl.plusT s a = ⟨#[]⟩ := if_pos hs
    by_cases hh : h = 0
    · have e2 : Gl.amT Gl.minusT h b = ⟨#[]⟩ := if_pos hh
      refine (rglt_00 n s h a b w hs hh).mono ?_
      rintro e w' ⟨rfl, hb⟩
      exact ⟨ret_t (by rw [e1, e2]; exact (ByteArray.append_empty.trans ByteArray.append_empty).symm), hb⟩
    · have e2 : Gl.amT Gl.minusT h b = Gl.minusT ++ prS h ++ S (Gl.unL b) := if_neg hh
      refine (rglt_01 n s h a b w hs hh).mono ?_
      rintro e w' ⟨rfl, hb⟩
      exact ⟨ret_t (by rw [e1, e2, show (prS n ++ ⟨#[]⟩ : ByteArray) = prS n from ByteArray.append_empty]; exact app5), hb⟩
  · have e1 : Gl.amT Gl.plusT s a = Gl.plusT ++ prS s ++ S (Gl.unL a) := if_neg hs
    by_cases hh : h = 0
    · have e2 : Gl.amT Gl.minusT h b = ⟨#[]⟩ := if_pos hh
      refine (rglt_10 n s h a b w hs hh).mono ?_
      rintro e w' ⟨rfl, hb⟩
      exact ⟨ret_t (by rw [e1, e2]; exact app5.trans ByteArray.append_empty.symm), hb⟩
    · have e2 : Gl.amT Gl.minusT h b = Gl.minusT ++ prS h ++ S (Gl.unL b) := if_neg hh
      refine (rglt_11 n s h a b w hs hh).mono ?_
      rintro e w' ⟨rfl, hb⟩
      exact ⟨ret_t (by rw [e1, e2]; exact (app5 (a := prS n ++ _ ++ _ ++ _)).trans (congrArg (· ++ _) app5)), hb⟩
theorem set_p (X : ByteArray) : gsetK ++ (pluK ++ (spK ++ X)) = (⟨#[44, 32, 103, 108, 117, 101, 32, 115, 101, 116]⟩ : ByteArray) ++ ((⟨#[32, 43, 32]⟩ : ByteArray) ++ X) := by
  rw [← ByteArray.append_assoc, ← ByteArray.append_assoc, ← ByteArray.append_assoc]
  rfl
theorem set_m (X : ByteArray) : gsetK ++ (miK ++ (spK ++ X)) = (⟨#[44, 32, 103, 108, 117, 101, 32, 115, 101, 116]⟩ : ByteArray) ++ ((⟨#[32, 45, 32]⟩ : ByteArray) ++ X) := by
  rw [← ByteArray.append_assoc, ← ByteArray.append_assoc, ← ByteArray.append_assoc]
  rfl
set_option maxHeartbeats 8000000 in
set_option maxRecDepth 100000 in
theorem rbox_any (nm : ByteArray) (x : Nd) (w : World) (hnm : nm.size = 4) (h : gBox x = true) :
    Calls Tryz.prog 85 #[.string nm, .agg (nc x)] w fun e w' => e = .returned (.string (boxT nm x)) ∧ Below w.heap.size w w' := by
  have hb : ¬ x.sign = 0 → (x.sign = 1 ∨ x.sign = 2) ∧ (1 ≤ x.num ∧ x.num ≤ 1152921504606846976) ∧ (1 ≤ x.den ∧ x.den ≤ 1152921504606846976) := by
    intro hs
    unfold gBox at h
    rw [if_neg hs] at h
    simp only [Bool.and_eq_true, winB, decide_eq_true_eq] at h
    obtain ⟨_, ⟨⟨⟨⟨hsg, _⟩, hn1⟩, hd1⟩, _⟩⟩ := h
    exact ⟨by omega, hn1, hd1⟩
  have HR00 := Lib.hid (show x.sign = 0 → x.shift = 0 → nm ++ opK ++ prS x.ht ++ pluK ++ prS x.dp ++ cxK ++ prS x.wd = boxT nm x from fun hs hq => by unfold boxT; simp only; rw [if_pos hs, if_pos hq]; simp only [ByteArray.append_assoc])
  have HR01 := Lib.hid (show x.sign = 0 → ¬ x.shift = 0 → nm ++ opK ++ prS x.ht ++ pluK ++ prS x.dp ++ cxK ++ prS x.wd ++ shfK ++ prS x.shift = boxT nm x from fun hs hq => by unfold boxT; simp only; rw [if_pos hs, if_neg hq]; simp only [ByteArray.append_assoc])
  have HR10 := Lib.hid (show x.sign = 1 → x.shift = 0 → nm ++ opK ++ prS x.ht ++ pluK ++ prS x.dp ++ cxK ++ prS x.wd ++ ⟨#[44, 32, 103, 108, 117, 101, 32, 115, 101, 116]⟩ ++ ⟨#[32, 43, 32]⟩ ++ itT x.num ++ slK ++ itT x.den ++ ordT x.order = boxT nm x from fun hs hq => by unfold boxT; simp only; rw [if_neg (by omega : ¬ x.sign = 0), if_pos hs, if_pos hq]; simp only [ByteArray.append_assoc, set_p])
  have HR11 := Lib.hid (show x.sign = 1 → ¬ x.shift = 0 → nm ++ opK ++ prS x.ht ++ pluK ++ prS x.dp ++ cxK ++ prS x.wd ++ ⟨#[44, 32, 103, 108, 117, 101, 32, 115, 101, 116]⟩ ++ ⟨#[32, 43, 32]⟩ ++ itT x.num ++ slK ++ itT x.den ++ ordT x.order ++ shfK ++ prS x.shift = boxT nm x from fun hs hq => by unfold boxT; simp only; rw [if_neg (by omega : ¬ x.sign = 0), if_pos hs, if_neg hq]; simp only [ByteArray.append_assoc, set_p])
  have HR20 := Lib.hid (show x.sign = 2 → x.shift = 0 → nm ++ opK ++ prS x.ht ++ pluK ++ prS x.dp ++ cxK ++ prS x.wd ++ ⟨#[44, 32, 103, 108, 117, 101, 32, 115, 101, 116]⟩ ++ ⟨#[32, 45, 32]⟩ ++ itT x.num ++ slK ++ itT x.den ++ ordT x.order = boxT nm x from fun hs hq => by unfold boxT; simp only; rw [if_neg (by omega : ¬ x.sign = 0), if_neg (by omega : ¬ x.sign = 1), if_pos hq]; simp only [ByteArray.append_assoc, set_m])
  have HR21 := Lib.hid (show x.sign = 2 → ¬ x.shift = 0 → nm ++ opK ++ prS x.ht ++ pluK ++ prS x.dp ++ cxK ++ prS x.wd ++ ⟨#[44, 32, 103, 108, 117, 101, 32, 115, 101, 116]⟩ ++ ⟨#[32, 45, 32]⟩ ++ itT x.num ++ slK ++ itT x.den ++ ordT x.order ++ shfK ++ prS x.shift = boxT nm x from fun hs hq => by unfold boxT; simp only; rw [if_neg (by omega : ¬ x.sign = 0), if_neg (by omega : ¬ x.sign = 1), if_neg hq]; simp only [ByteArray.append_assoc, set_m])
  generalize boxT nm x = R at *
  have HC1 := Lib.hid (fun (W : World) => refPrint x.ht W)
  have hz1 := Gl.prS_size x.ht
  generalize prS x.ht = T1 at *
  have HC2 := Lib.hid (fun (W : World) => refPrint x.dp W)
  have hz2 := Gl.prS_size x.dp
  generalize prS x.dp = T2 at *
  have HC3 := Lib.hid (fun (W : World) => refPrint x.wd W)
  have hz3 := Gl.prS_size x.wd
  generalize prS x.wd = T3 at *
  have HC6 := Lib.hid (fun (W : World) => refPrint x.shift W)
  have hz6 := Gl.prS_size x.shift
  generalize prS x.shift = T6 at *
  have HC4 := Lib.hid (fun (hs : ¬ x.sign = 0) (W : World) => rwhole_any x.num (by have := (hb hs).2.1; omega) (by have := (hb hs).2.1; omega) W)
  have HZ4 := Lib.hid (fun (hs : ¬ x.sign = 0) => itT_size (n := x.num) (by have := (hb hs).2.1; omega) (by have := (hb hs).2.1; omega))
  generalize itT x.num = T4 at *
  have HC5 := Lib.hid (fun (hs : ¬ x.sign = 0) (W : World) => rwhole_any x.den (by have := (hb hs).2.2; omega) (by have := (hb hs).2.2; omega) W)
  have HZ5 := Lib.hid (fun (hs : ¬ x.sign = 0) => itT_size (n := x.den) (by have := (hb hs).2.2; omega) (by have := (hb hs).2.2; omega))
  generalize itT x.den = T5 at *
  have HC7 := Lib.hid (fun (W : World) => rord_any x.order W)
  have hz7 := ordT_size x.order
  generalize ordT x.order = T7 at *
  have HSN := Lib.hid (fun hs => (hb hs).1)
  clear hb h
  go_enter Tryz.func85, Tryz.ntmps85
  go_upto_region 1 with ((refine wpList_alloc_node rfl rfl ?_))
  have hH0 : Hd w w.heap.size x (w.alloc (.cells (nc x) 36)) := ⟨(Blk.new w 36 (nc x)).node, by simp, andAlloc (Below.refl w.heap.size w) _⟩
  generalize w.alloc (.cells (nc x) 36) = W at hH0 ⊢
  generalize hg : w.heap.size = g0 at hH0 ⊢
  refine wp_region_held_drew (S := Hd w g0 x) (by kernel_rfl) (hH0.drew) (fun hH => ?_)
  refine take_lit (i := 0) (v := (.string (nm))) (by kernel_rfl) (by kernel_rfl) (by kernel_rfl) (by kernel_rfl) (fun _ _ _ _ h => h) hH (fun oi hoi => ?_)
  simp only [List.getElem?_toArray, List.getElem?_cons_succ, List.getElem?_cons_zero, Option.some.injEq] at hoi
  subst hoi
  refine ⟨.inl ⟨by rfl, fun w hSw => ?_⟩, ?_⟩
  · skip
    first | (go_simp; done) | (go_simp; omega) | (go_simp; with_reducible rfl) | (go_simp; kernel_rfl)
  simp only [Act.put, List.setIfInBounds_toArray, List.set_cons_zero, List.set_cons_succ]
  refine take_lit (i := 1) (v := (.string (nm ++ ⟨#[40]⟩))) (by kernel_rfl) (by kernel_rfl) (by kernel_rfl) (by kernel_rfl) (fun _ _ _ _ h => h) hH (fun oi hoi => ?_)
  simp only [List.getElem?_toArray, List.getElem?_cons_succ, List.getElem?_cons_zero, Option.some.injEq] at hoi
  subst hoi
  refine ⟨.inl ⟨by rfl, fun w hSw => ?_⟩, ?_⟩
  · skip
    have hz : ¬ 9223372036854775807 < (nm : ByteArray).size + (⟨#[40]⟩ : ByteArray).size := by (try simp only [ByteArray.size_append]); have q0 : (⟨#[40]⟩ : ByteArray).size = 1 := rfl; omega
    first | (go_simp; done) | (go_simp; omega) | (go_simp; with_reducible rfl) | (go_simp; kernel_rfl)
  simp only [Act.put, List.setIfInBounds_toArray, List.set_cons_zero, List.set_cons_succ]
  refine take_lit (i := 2) (v := (.pointer (some ⟨g0, 4, none⟩))) (by kernel_rfl) (by kernel_rfl) (by kernel_rfl) (by kernel_rfl) (fun _ _ _ _ h => h) hH (fun oi hoi => ?_)
  simp only [List.getElem?_toArray, List.getElem?_cons_succ, List.getElem?_cons_zero, Option.some.injEq] at hoi
  subst hoi
  refine ⟨.inl ⟨by rfl, fun w hSw => ?_⟩, ?_⟩
  · skip
    first | (go_simp; done) | (go_simp; omega) | (go_simp; with_reducible rfl) | (go_simp; kernel_rfl)
  simp only [Act.put, List.setIfInBounds_toArray, List.set_cons_zero, List.set_cons_succ]
  refine take_lit (i := 3) (v := (.int .i64 (x.ht))) (by kernel_rfl) (by kernel_rfl) (by kernel_rfl) (by kernel_rfl) (fun _ _ _ _ h => h) hH (fun oi hoi => ?_)
  simp only [List.getElem?_toArray, List.getElem?_cons_succ, List.getElem?_cons_zero, Option.some.injEq] at hoi
  subst hoi
  refine ⟨.inl ⟨by rfl, fun w hSw => ?_⟩, ?_⟩
  · skip
    have z := hSw.at (j := 4) rfl
    first | (go_simp; done) | (go_simp; omega) | (go_simp; with_reducible rfl) | (go_simp; kernel_rfl)
  simp only [Act.put, List.setIfInBounds_toArray, List.set_cons_zero, List.set_cons_succ]
  refine take_lit (i := 7) (v := (.pointer (some ⟨g0, 5, none⟩))) (by kernel_rfl) (by kernel_rfl) (by kernel_rfl) (by kernel_rfl) (fun _ _ _ _ h => h) hH (fun oi hoi => ?_)
  simp only [List.getElem?_toArray, List.getElem?_cons_succ, List.getElem?_cons_zero, Option.some.injEq] at hoi
  subst hoi
  refine ⟨.inl ⟨by rfl, fun w hSw => ?_⟩, ?_⟩
  · skip
    first | (go_simp; done) | (go_simp; omega) | (go_simp; with_reducible rfl) | (go_simp; kernel_rfl)
  simp only [Act.put, List.setIfInBounds_toArray, List.set_cons_zero, List.set_cons_succ]
  refine take_lit (i := 8) (v := (.int .i64 (x.dp))) (by kernel_rfl) (by kernel_rfl) (by kernel_rfl) (by kernel_rfl) (fun _ _ _ _ h => h) hH (fun oi hoi => ?_)
  simp only [List.getElem?_toArray, List.getElem?_cons_succ, List.getElem?_cons_zero, Option.some.injEq] at hoi
  subst hoi
  refine ⟨.inl ⟨by rfl, fun w hSw => ?_⟩, ?_⟩
  · skip
    have z := hSw.at (j := 5) rfl
    first | (go_simp; done) | (go_simp; omega) | (go_simp; with_reducible rfl) | (go_simp; kernel_rfl)
  simp only [Act.put, List.setIfInBounds_toArray, List.set_cons_zero, List.set_cons_succ]
  refine take_lit (i := 12) (v := (.pointer (some ⟨g0, 3, none⟩))) (by kernel_rfl) (by kernel_rfl) (by kernel_rfl) (by kernel_rfl) (fun _ _ _ _ h => h) hH (fun oi hoi => ?_)
  simp only [List.getElem?_toArray, List.getElem?_cons_succ, List.getElem?_cons_zero, Option.some.injEq] at hoi
  subst hoi
  refine ⟨.inl ⟨by rfl, fun w hSw => ?_⟩, ?_⟩
  · skip
    first | (go_simp; done) | (go_simp; omega) | (go_simp; with_reducible rfl) | (go_simp; kernel_rfl)
  simp only [Act.put, List.setIfInBounds_toArray, List.set_cons_zero, List.set_cons_succ]
  refine take_lit (i := 13) (v := (.int .i64 (x.wd))) (by kernel_rfl) (by kernel_rfl) (by kernel_rfl) (by kernel_rfl) (fun _ _ _ _ h => h) hH (fun oi hoi => ?_)
  simp only [List.getElem?_toArray, List.getElem?_cons_succ, List.getElem?_cons_zero, Option.some.injEq] at hoi
  subst hoi
  refine ⟨.inl ⟨by rfl, fun w hSw => ?_⟩, ?_⟩
  · skip
    have z := hSw.at (j := 3) rfl
    first | (go_simp; done) | (go_simp; omega) | (go_simp; with_reducible rfl) | (go_simp; kernel_rfl)
  simp only [Act.put, List.setIfInBounds_toArray, List.set_cons_zero, List.set_cons_succ]
  refine wpAnyH_ready (rs := [4]) (by kernel_rfl) (by simp) (AllReadyH.cons rfl (fun K hK => ?_) AllReadyH.nil)
  go_simp
  go_wp2_with fail
  refine (HC1.out _).mono ?_
  rintro e w_1 ⟨rfl, hb_1⟩
  refine hK.out _ _ (hH.keep hb_1) (fun hH1 => ?_)
  try simp only [Act.put, List.setIfInBounds_toArray, List.set_cons_zero, List.set_cons_succ]
  clear hK K
  refine take_lit (i := 5) (v := (.string ((nm ++ ⟨#[40]⟩) ++ T1))) (by kernel_rfl) (by kernel_rfl) (by kernel_rfl) (by kernel_rfl) (fun _ _ _ _ h => h) hH1 (fun oi hoi => ?_)
  simp only [List.getElem?_toArray, List.getElem?_cons_succ, List.getElem?_cons_zero, Option.some.injEq] at hoi
  subst hoi
  refine ⟨.inl ⟨by rfl, fun w hSw => ?_⟩, ?_⟩
  · skip
    have hz : ¬ 9223372036854775807 < (nm ++ ⟨#[40]⟩ : ByteArray).size + (T1 : ByteArray).size := by (try simp only [ByteArray.size_append]); have q0 : (⟨#[40]⟩ : ByteArray).size = 1 := rfl; omega
    first | (go_simp; done) | (go_simp; omega) | (go_simp; with_reducible rfl) | (go_simp; kernel_rfl)
  simp only [Act.put, List.setIfInBounds_toArray, List.set_cons_zero, List.set_cons_succ]
  refine take_lit (i := 6) (v := (.string (((nm ++ ⟨#[40]⟩) ++ T1) ++ ⟨#[43]⟩))) (by kernel_rfl) (by kernel_rfl) (by kernel_rfl) (by kernel_rfl) (fun _ _ _ _ h => h) hH1 (fun oi hoi => ?_)
  simp only [List.getElem?_toArray, List.getElem?_cons_succ, List.getElem?_cons_zero, Option.some.injEq] at hoi
  subst hoi
  refine ⟨.inl ⟨by rfl, fun w hSw => ?_⟩, ?_⟩
  · skip
    have hz : ¬ 9223372036854775807 < ((nm ++ ⟨#[40]⟩) ++ T1 : ByteArray).size + (⟨#[43]⟩ : ByteArray).size := by (try simp only [ByteArray.size_append]); have q0 : (⟨#[40]⟩ : ByteArray).size = 1 := rfl; have q1 : (⟨#[43]⟩ : ByteArray).size = 1 := rfl; omega
    first | (go_simp; done) | (go_simp; omega) | (go_simp; with_reducible rfl) | (go_simp; kernel_rfl)
  simp only [Act.put, List.setIfInBounds_toArray, List.set_cons_zero, List.set_cons_succ]
  refine wpAnyH_ready (rs := [9]) (by kernel_rfl) (by simp) (AllReadyH.cons rfl (fun K hK => ?_) AllReadyH.nil)
  go_simp
  go_wp2_with fail
  refine (HC2.out _).mono ?_
  rintro e w_2 ⟨rfl, hb_2⟩
  refine hK.out _ _ (hH1.keep hb_2) (fun hH2 => ?_)
  try simp only [Act.put, List.setIfInBounds_toArray, List.set_cons_zero, List.set_cons_succ]
  clear hK K
  refine take_lit (i := 10) (v := (.string ((((nm ++ ⟨#[40]⟩) ++ T1) ++ ⟨#[43]⟩) ++ T2))) (by kernel_rfl) (by kernel_rfl) (by kernel_rfl) (by kernel_rfl) (fun _ _ _ _ h => h) hH2 (fun oi hoi => ?_)
  simp only [List.getElem?_toArray, List.getElem?_cons_succ, List.getElem?_cons_zero, Option.some.injEq] at hoi
  subst hoi
  refine ⟨.inl ⟨by rfl, fun w hSw => ?_⟩, ?_⟩
  · skip
    have hz : ¬ 9223372036854775807 < (((nm ++ ⟨#[40]⟩) ++ T1) ++ ⟨#[43]⟩ : ByteArray).size + (T2 : ByteArray).size := by (try simp only [ByteArray.size_append]); have q0 : (⟨#[40]⟩ : ByteArray).size = 1 := rfl; have q1 : (⟨#[43]⟩ : ByteArray).size = 1 := rfl; omega
    first | (go_simp; done) | (go_simp; omega) | (go_simp; with_reducible rfl) | (go_simp; kernel_rfl)
  simp only [Act.put, List.setIfInBounds_toArray, List.set_cons_zero, List.set_cons_succ]
  refine take_lit (i := 11) (v := (.string (((((nm ++ ⟨#[40]⟩) ++ T1) ++ ⟨#[43]⟩) ++ T2) ++ ⟨#[41, 120]⟩))) (by kernel_rfl) (by kernel_rfl) (by kernel_rfl) (by kernel_rfl) (fun _ _ _ _ h => h) hH2 (fun oi hoi => ?_)
  simp only [List.getElem?_toArray, List.getElem?_cons_succ, List.getElem?_cons_zero, Option.some.injEq] at hoi
  subst hoi
  refine ⟨.inl ⟨by rfl, fun w hSw => ?_⟩, ?_⟩
  · skip
    have hz : ¬ 9223372036854775807 < ((((nm ++ ⟨#[40]⟩) ++ T1) ++ ⟨#[43]⟩) ++ T2 : ByteArray).size + (⟨#[41, 120]⟩ : ByteArray).size := by (try simp only [ByteArray.size_append]); have q0 : (⟨#[40]⟩ : ByteArray).size = 1 := rfl; have q1 : (⟨#[41, 120]⟩ : ByteArray).size = 2 := rfl; have q2 : (⟨#[43]⟩ : ByteArray).size = 1 := rfl; omega
    first | (go_simp; done) | (go_simp; omega) | (go_simp; with_reducible rfl) | (go_simp; kernel_rfl)
  simp only [Act.put, List.setIfInBounds_toArray, List.set_cons_zero, List.set_cons_succ]
  refine wpAnyH_ready (rs := [14]) (by kernel_rfl) (by simp) (AllReadyH.cons rfl (fun K hK => ?_) AllReadyH.nil)
  go_simp
  go_wp2_with fail
  refine (HC3.out _).mono ?_
  rintro e w_3 ⟨rfl, hb_3⟩
  refine hK.out _ _ (hH2.keep hb_3) (fun hH3 => ?_)
  try simp only [Act.put, List.setIfInBounds_toArray, List.set_cons_zero, List.set_cons_succ]
  clear hK K
  refine take_lit (i := 15) (v := (.string ((((((nm ++ ⟨#[40]⟩) ++ T1) ++ ⟨#[43]⟩) ++ T2) ++ ⟨#[41, 120]⟩) ++ T3))) (by kernel_rfl) (by kernel_rfl) (by kernel_rfl) (by kernel_rfl) (fun _ _ _ _ h => h) hH3 (fun oi hoi => ?_)
  simp only [List.getElem?_toArray, List.getElem?_cons_succ, List.getElem?_cons_zero, Option.some.injEq] at hoi
  subst hoi
  refine ⟨.inl ⟨by rfl, fun w hSw => ?_⟩, ?_⟩
  · skip
    have hz : ¬ 9223372036854775807 < (((((nm ++ ⟨#[40]⟩) ++ T1) ++ ⟨#[43]⟩) ++ T2) ++ ⟨#[41, 120]⟩ : ByteArray).size + (T3 : ByteArray).size := by (try simp only [ByteArray.size_append]); have q0 : (⟨#[40]⟩ : ByteArray).size = 1 := rfl; have q1 : (⟨#[41, 120]⟩ : ByteArray).size = 2 := rfl; have q2 : (⟨#[43]⟩ : ByteArray).size = 1 := rfl; omega
    first | (go_simp; done) | (go_simp; omega) | (go_simp; with_reducible rfl) | (go_simp; kernel_rfl)
  simp only [Act.put, List.setIfInBounds_toArray, List.set_cons_zero, List.set_cons_succ]
  refine take_lit (i := 16) (v := (.string ((((((nm ++ ⟨#[40]⟩) ++ T1) ++ ⟨#[43]⟩) ++ T2) ++ ⟨#[41, 120]⟩) ++ T3))) (by kernel_rfl) (by kernel_rfl) (by kernel_rfl) (by kernel_rfl) (fun _ _ _ _ h => h) hH3 (fun oi hoi => ?_)
  simp only [List.getElem?_toArray, List.getElem?_cons_succ, List.getElem?_cons_zero, Option.some.injEq] at hoi
  subst hoi
  refine ⟨.inl ⟨by rfl, fun w hSw => ?_⟩, ?_⟩
  · skip
    first | (go_simp; done) | (go_simp; omega) | (go_simp; with_reducible rfl) | (go_simp; kernel_rfl)
  simp only [Act.put, List.setIfInBounds_toArray, List.set_cons_zero, List.set_cons_succ]
  refine wpAnyH_done (by kernel_rfl) ?_ _
  have k12 := hH3.at (j := 12) rfl
  by_cases hs : x.sign = 0
  · have e1 : (x.sign != 0) = false := by simp [hs]
    have HS := Lib.hid hs
    clear hs
    have k6 := hH3.at (j := 6) rfl
    by_cases hsh : x.shift = 0
    · have e2 : (x.shift != 0) = false := by simp [hsh]
      have HQ := Lib.hid hsh
      clear hsh
      have HH := Lib.hid hH3
      clear hH3
      go_wp2_with fail
      go_ret
      subst hg
      exact ⟨ret_t (HR00.out HS.out HQ.out), HH.out.2.2⟩
    · have e2 : (x.shift != 0) = true := by simp [hsh]
      have HQ := Lib.hid hsh
      clear hsh
      have HH := Lib.hid hH3
      clear hH3
      have hz9 : ((((((nm ++ ⟨#[40]⟩) ++ T1) ++ ⟨#[43]⟩) ++ T2) ++ ⟨#[41, 120]⟩) ++ T3 : ByteArray).size ≤ 2000 := by (simp only [ByteArray.size_append]); have q0 : (⟨#[40]⟩ : ByteArray).size = 1 := rfl; have q1 : (⟨#[41, 120]⟩ : ByteArray).size = 2 := rfl; have q2 : (⟨#[43]⟩ : ByteArray).size = 1 := rfl; omega
      generalize hT9 : (((((nm ++ ⟨#[40]⟩) ++ T1) ++ ⟨#[43]⟩) ++ T2) ++ ⟨#[41, 120]⟩) ++ T3 = T9 at hz9 ⊢
      have hz10 : ¬ 9223372036854775807 < T9.size + (⟨#[44, 32, 115, 104, 105, 102, 116, 101, 100, 32]⟩ : ByteArray).size := by show ¬ 9223372036854775807 < _ + 10; omega
      have hz11 : ¬ 9223372036854775807 < (T9 ++ ⟨#[44, 32, 115, 104, 105, 102, 116, 101, 100, 32]⟩).size + T6.size := by rw [ByteArray.size_append]; show ¬ 9223372036854775807 < _ + 10 + _; omega
      go_wp2_with fail
      refine (HC6.out _).mono ?_
      rintro e w9 ⟨rfl, hb9⟩
      have HH9 := Lib.hid (HH.out.keep hb9)
      clear hb9
      go_wp2_with fail
      go_ret
      subst hT9
      subst hg
      exact ⟨ret_t (HR01.out HS.out HQ.out), HH9.out.2.2⟩
  · have e1 : (x.sign != 0) = true := by simp [hs]
    have HC4 := Lib.hid (HC4.out hs)
    have HC5 := Lib.hid (HC5.out hs)
    have hz4 := HZ4.out hs
    have hz5 := HZ5.out hs
    have hI := hH3
    clear hH hH1 hH2 hH3
    rcases HSN.out hs with h1 | h1
    · have e3 : (x.sign == 2) = false := by simp [h1]
      have HS := Lib.hid h1
      clear h1 hs
      go_upto_region 6 with fail
      clear k12
      refine wp_region_held_drew (S := Hd w g0 x) (by kernel_rfl) (hI.drew) (fun hH => ?_)
      refine take_lit (i := 0) (v := (.string ((((((nm ++ ⟨#[40]⟩) ++ T1) ++ ⟨#[43]⟩) ++ T2) ++ ⟨#[41, 120]⟩) ++ T3))) (by kernel_rfl) (by kernel_rfl) (by kernel_rfl) (by kernel_rfl) (fun _ _ _ _ h => h) hH (fun oi hoi => ?_)
      simp only [List.getElem?_toArray, List.getElem?_cons_succ, List.getElem?_cons_zero, Option.some.injEq] at hoi
      subst hoi
      refine ⟨.inl ⟨by rfl, fun w hSw => ?_⟩, ?_⟩
      · skip
        first | (go_simp; done) | (go_simp; omega) | (go_simp; with_reducible rfl) | (go_simp; kernel_rfl)
      simp only [Act.put, List.setIfInBounds_toArray, List.set_cons_zero, List.set_cons_succ]
      refine take_lit (i := 1) (v := (.string (((((((nm ++ ⟨#[40]⟩) ++ T1) ++ ⟨#[43]⟩) ++ T2) ++ ⟨#[41, 120]⟩) ++ T3) ++ ⟨#[44, 32, 103, 108, 117, 101, 32, 115, 101, 116]⟩))) (by kernel_rfl) (by kernel_rfl) (by kernel_rfl) (by kernel_rfl) (fun _ _ _ _ h => h) hH (fun oi hoi => ?_)
      simp only [List.getElem?_toArray, List.getElem?_cons_succ, List.getElem?_cons_zero, Option.some.injEq] at hoi
      subst hoi
      refine ⟨.inl ⟨by rfl, fun w hSw => ?_⟩, ?_⟩
      · skip
        have hz : ¬ 9223372036854775807 < ((((((nm ++ ⟨#[40]⟩) ++ T1) ++ ⟨#[43]⟩) ++ T2) ++ ⟨#[41, 120]⟩) ++ T3 : ByteArray).size + (⟨#[44, 32, 103, 108, 117, 101, 32, 115, 101, 116]⟩ : ByteArray).size := by (try simp only [ByteArray.size_append]); have q0 : (⟨#[40]⟩ : ByteArray).size = 1 := rfl; have q1 : (⟨#[41, 120]⟩ : ByteArray).size = 2 := rfl; have q2 : (⟨#[43]⟩ : ByteArray).size = 1 := rfl; have q3 : (⟨#[44, 32, 103, 108, 117, 101, 32, 115, 101, 116]⟩ : ByteArray).size = 10 := rfl; omega
        first | (go_simp; done) | (go_simp; omega) | (go_simp; with_reducible rfl) | (go_simp; kernel_rfl)
      simp only [Act.put, List.setIfInBounds_toArray, List.set_cons_zero, List.set_cons_succ]
      refine take_lit (i := 2) (v := (.string (⟨#[32, 43, 32]⟩))) (by kernel_rfl) (by kernel_rfl) (by kernel_rfl) (by kernel_rfl) (fun _ _ _ _ h => h) hH (fun oi hoi => ?_)
      simp only [List.getElem?_toArray, List.getElem?_cons_succ, List.getElem?_cons_zero, Option.some.injEq] at hoi
      subst hoi
      refine ⟨.inl ⟨by rfl, fun w hSw => ?_⟩, ?_⟩
      · skip
        first | (go_simp; done) | (go_simp; omega) | (go_simp; with_reducible rfl) | (go_simp; kernel_rfl)
      simp only [Act.put, List.setIfInBounds_toArray, List.set_cons_zero, List.set_cons_succ]
      refine take_lit (i := 3) (v := (.string ((((((((nm ++ ⟨#[40]⟩) ++ T1) ++ ⟨#[43]⟩) ++ T2) ++ ⟨#[41, 120]⟩) ++ T3) ++ ⟨#[44, 32, 103, 108, 117, 101, 32, 115, 101, 116]⟩) ++ ⟨#[32, 43, 32]⟩))) (by kernel_rfl) (by kernel_rfl) (by kernel_rfl) (by kernel_rfl) (fun _ _ _ _ h => h) hH (fun oi hoi => ?_)
      simp only [List.getElem?_toArray, List.getElem?_cons_succ, List.getElem?_cons_zero, Option.some.injEq] at hoi
      subst hoi
      refine ⟨.inl ⟨by rfl, fun w hSw => ?_⟩, ?_⟩
      · skip
        have hz : ¬ 9223372036854775807 < (((((((nm ++ ⟨#[40]⟩) ++ T1) ++ ⟨#[43]⟩) ++ T2) ++ ⟨#[41, 120]⟩) ++ T3) ++ ⟨#[44, 32, 103, 108, 117, 101, 32, 115, 101, 116]⟩ : ByteArray).size + (⟨#[32, 43, 32]⟩ : ByteArray).size := by (try simp only [ByteArray.size_append]); have q0 : (⟨#[32, 43, 32]⟩ : ByteArray).size = 3 := rfl; have q1 : (⟨#[40]⟩ : ByteArray).size = 1 := rfl; have q2 : (⟨#[41, 120]⟩ : ByteArray).size = 2 := rfl; have q3 : (⟨#[43]⟩ : ByteArray).size = 1 := rfl; have q4 : (⟨#[44, 32, 103, 108, 117, 101, 32, 115, 101, 116]⟩ : ByteArray).size = 10 := rfl; omega
        first | (go_simp; done) | (go_simp; omega) | (go_simp; with_reducible rfl) | (go_simp; kernel_rfl)
      simp only [Act.put, List.setIfInBounds_toArray, List.set_cons_zero, List.set_cons_succ]
      refine take_lit (i := 4) (v := (.pointer (some ⟨g0, 14, none⟩))) (by kernel_rfl) (by kernel_rfl) (by kernel_rfl) (by kernel_rfl) (fun _ _ _ _ h => h) hH (fun oi hoi => ?_)
      simp only [List.getElem?_toArray, List.getElem?_cons_succ, List.getElem?_cons_zero, Option.some.injEq] at hoi
      subst hoi
      refine ⟨.inl ⟨by rfl, fun w hSw => ?_⟩, ?_⟩
      · skip
        first | (go_simp; done) | (go_simp; omega) | (go_simp; with_reducible rfl) | (go_simp; kernel_rfl)
      simp only [Act.put, List.setIfInBounds_toArray, List.set_cons_zero, List.set_cons_succ]
      refine take_lit (i := 5) (v := (.int .i64 (x.num))) (by kernel_rfl) (by kernel_rfl) (by kernel_rfl) (by kernel_rfl) (fun _ _ _ _ h => h) hH (fun oi hoi => ?_)
      simp only [List.getElem?_toArray, List.getElem?_cons_succ, List.getElem?_cons_zero, Option.some.injEq] at hoi
      subst hoi
      refine ⟨.inl ⟨by rfl, fun w hSw => ?_⟩, ?_⟩
      · skip
        have z := hSw.at (j := 14) rfl
        first | (go_simp; done) | (go_simp; omega) | (go_simp; with_reducible rfl) | (go_simp; kernel_rfl)
      simp only [Act.put, List.setIfInBounds_toArray, List.set_cons_zero, List.set_cons_succ]
      refine take_lit (i := 9) (v := (.pointer (some ⟨g0, 15, none⟩))) (by kernel_rfl) (by kernel_rfl) (by kernel_rfl) (by kernel_rfl) (fun _ _ _ _ h => h) hH (fun oi hoi => ?_)
      simp only [List.getElem?_toArray, List.getElem?_cons_succ, List.getElem?_cons_zero, Option.some.injEq] at hoi
      subst hoi
      refine ⟨.inl ⟨by rfl, fun w hSw => ?_⟩, ?_⟩
      · skip
        first | (go_simp; done) | (go_simp; omega) | (go_simp; with_reducible rfl) | (go_simp; kernel_rfl)
      simp only [Act.put, List.setIfInBounds_toArray, List.set_cons_zero, List.set_cons_succ]
      refine take_lit (i := 10) (v := (.int .i64 (x.den))) (by kernel_rfl) (by kernel_rfl) (by kernel_rfl) (by kernel_rfl) (fun _ _ _ _ h => h) hH (fun oi hoi => ?_)
      simp only [List.getElem?_toArray, List.getElem?_cons_succ, List.getElem?_cons_zero, Option.some.injEq] at hoi
      subst hoi
      refine ⟨.inl ⟨by rfl, fun w hSw => ?_⟩, ?_⟩
      · skip
        have z := hSw.at (j := 15) rfl
        first | (go_simp; done) | (go_simp; omega) | (go_simp; with_reducible rfl) | (go_simp; kernel_rfl)
      simp only [Act.put, List.setIfInBounds_toArray, List.set_cons_zero, List.set_cons_succ]
      refine take_lit (i := 13) (v := (.pointer (some ⟨g0, 13, none⟩))) (by kernel_rfl) (by kernel_rfl) (by kernel_rfl) (by kernel_rfl) (fun _ _ _ _ h => h) hH (fun oi hoi => ?_)
      simp only [List.getElem?_toArray, List.getElem?_cons_succ, List.getElem?_cons_zero, Option.some.injEq] at hoi
      subst hoi
      refine ⟨.inl ⟨by rfl, fun w hSw => ?_⟩, ?_⟩
      · skip
        first | (go_simp; done) | (go_simp; omega) | (go_simp; with_reducible rfl) | (go_simp; kernel_rfl)
      simp only [Act.put, List.setIfInBounds_toArray, List.set_cons_zero, List.set_cons_succ]
      refine take_lit (i := 14) (v := (.int .i64 (x.order))) (by kernel_rfl) (by kernel_rfl) (by kernel_rfl) (by kernel_rfl) (fun _ _ _ _ h => h) hH (fun oi hoi => ?_)
      simp only [List.getElem?_toArray, List.getElem?_cons_succ, List.getElem?_cons_zero, Option.some.injEq] at hoi
      subst hoi
      refine ⟨.inl ⟨by rfl, fun w hSw => ?_⟩, ?_⟩
      · skip
        have z := hSw.at (j := 13) rfl
        first | (go_simp; done) | (go_simp; omega) | (go_simp; with_reducible rfl) | (go_simp; kernel_rfl)
      simp only [Act.put, List.setIfInBounds_toArray, List.set_cons_zero, List.set_cons_succ]
      refine wpAnyH_ready (rs := [6]) (by kernel_rfl) (by simp) (AllReadyH.cons rfl (fun K hK => ?_) AllReadyH.nil)
      go_simp
      go_wp2_with fail
      refine (HC4.out _).mono ?_
      rintro e w_1 ⟨rfl, hb_1⟩
      refine hK.out _ _ (hH.keep hb_1) (fun hH1 => ?_)
      try simp only [Act.put, List.setIfInBounds_toArray, List.set_cons_zero, List.set_cons_succ]
      clear hK K
      refine take_lit (i := 7) (v := (.string (((((((((nm ++ ⟨#[40]⟩) ++ T1) ++ ⟨#[43]⟩) ++ T2) ++ ⟨#[41, 120]⟩) ++ T3) ++ ⟨#[44, 32, 103, 108, 117, 101, 32, 115, 101, 116]⟩) ++ ⟨#[32, 43, 32]⟩) ++ T4))) (by kernel_rfl) (by kernel_rfl) (by kernel_rfl) (by kernel_rfl) (fun _ _ _ _ h => h) hH1 (fun oi hoi => ?_)
      simp only [List.getElem?_toArray, List.getElem?_cons_succ, List.getElem?_cons_zero, Option.some.injEq] at hoi
      subst hoi
      refine ⟨.inl ⟨by rfl, fun w hSw => ?_⟩, ?_⟩
      · skip
        have hz : ¬ 9223372036854775807 < ((((((((nm ++ ⟨#[40]⟩) ++ T1) ++ ⟨#[43]⟩) ++ T2) ++ ⟨#[41, 120]⟩) ++ T3) ++ ⟨#[44, 32, 103, 108, 117, 101, 32, 115, 101, 116]⟩) ++ ⟨#[32, 43, 32]⟩ : ByteArray).size + (T4 : ByteArray).size := by (try simp only [ByteArray.size_append]); have q0 : (⟨#[32, 43, 32]⟩ : ByteArray).size = 3 := rfl; have q1 : (⟨#[40]⟩ : ByteArray).size = 1 := rfl; have q2 : (⟨#[41, 120]⟩ : ByteArray).size = 2 := rfl; have q3 : (⟨#[43]⟩ : ByteArray).size = 1 := rfl; have q4 : (⟨#[44, 32, 103, 108, 117, 101, 32, 115, 101, 116]⟩ : ByteArray).size = 10 := rfl; omega
        first | (go_simp; done) | (go_simp; omega) | (go_simp; with_reducible rfl) | (go_simp; kernel_rfl)
      simp only [Act.put, List.setIfInBounds_toArray, List.set_cons_zero, List.set_cons_succ]
      refine take_lit (i := 8) (v := (.string ((((((((((nm ++ ⟨#[40]⟩) ++ T1) ++ ⟨#[43]⟩) ++ T2) ++ ⟨#[41, 120]⟩) ++ T3) ++ ⟨#[44, 32, 103, 108, 117, 101, 32, 115, 101, 116]⟩) ++ ⟨#[32, 43, 32]⟩) ++ T4) ++ ⟨#[47]⟩))) (by kernel_rfl) (by kernel_rfl) (by kernel_rfl) (by kernel_rfl) (fun _ _ _ _ h => h) hH1 (fun oi hoi => ?_)
      simp only [List.getElem?_toArray, List.getElem?_cons_succ, List.getElem?_cons_zero, Option.some.injEq] at hoi
      subst hoi
      refine ⟨.inl ⟨by rfl, fun w hSw => ?_⟩, ?_⟩
      · skip
        have hz : ¬ 9223372036854775807 < (((((((((nm ++ ⟨#[40]⟩) ++ T1) ++ ⟨#[43]⟩) ++ T2) ++ ⟨#[41, 120]⟩) ++ T3) ++ ⟨#[44, 32, 103, 108, 117, 101, 32, 115, 101, 116]⟩) ++ ⟨#[32, 43, 32]⟩) ++ T4 : ByteArray).size + (⟨#[47]⟩ : ByteArray).size := by (try simp only [ByteArray.size_append]); have q0 : (⟨#[32, 43, 32]⟩ : ByteArray).size = 3 := rfl; have q1 : (⟨#[40]⟩ : ByteArray).size = 1 := rfl; have q2 : (⟨#[41, 120]⟩ : ByteArray).size = 2 := rfl; have q3 : (⟨#[43]⟩ : ByteArray).size = 1 := rfl; have q4 : (⟨#[44, 32, 103, 108, 117, 101, 32, 115, 101, 116]⟩ : ByteArray).size = 10 := rfl; have q5 : (⟨#[47]⟩ : ByteArray).size = 1 := rfl; omega
        first | (go_simp; done) | (go_simp; omega) | (go_simp; with_reducible rfl) | (go_simp; kernel_rfl)
      simp only [Act.put, List.setIfInBounds_toArray, List.set_cons_zero, List.set_cons_succ]
      refine wpAnyH_ready (rs := [11]) (by kernel_rfl) (by simp) (AllReadyH.cons rfl (fun K hK => ?_) AllReadyH.nil)
      go_simp
      go_wp2_with fail
      refine (HC5.out _).mono ?_
      rintro e w_2 ⟨rfl, hb_2⟩
      refine hK.out _ _ (hH1.keep hb_2) (fun hH2 => ?_)
      try simp only [Act.put, List.setIfInBounds_toArray, List.set_cons_zero, List.set_cons_succ]
      clear hK K
      refine take_lit (i := 12) (v := (.string (((((((((((nm ++ ⟨#[40]⟩) ++ T1) ++ ⟨#[43]⟩) ++ T2) ++ ⟨#[41, 120]⟩) ++ T3) ++ ⟨#[44, 32, 103, 108, 117, 101, 32, 115, 101, 116]⟩) ++ ⟨#[32, 43, 32]⟩) ++ T4) ++ ⟨#[47]⟩) ++ T5))) (by kernel_rfl) (by kernel_rfl) (by kernel_rfl) (by kernel_rfl) (fun _ _ _ _ h => h) hH2 (fun oi hoi => ?_)
      simp only [List.getElem?_toArray, List.getElem?_cons_succ, List.getElem?_cons_zero, Option.some.injEq] at hoi
      subst hoi
      refine ⟨.inl ⟨by rfl, fun w hSw => ?_⟩, ?_⟩
      · skip
        have hz : ¬ 9223372036854775807 < ((((((((((nm ++ ⟨#[40]⟩) ++ T1) ++ ⟨#[43]⟩) ++ T2) ++ ⟨#[41, 120]⟩) ++ T3) ++ ⟨#[44, 32, 103, 108, 117, 101, 32, 115, 101, 116]⟩) ++ ⟨#[32, 43, 32]⟩) ++ T4) ++ ⟨#[47]⟩ : ByteArray).size + (T5 : ByteArray).size := by (try simp only [ByteArray.size_append]); have q0 : (⟨#[32, 43, 32]⟩ : ByteArray).size = 3 := rfl; have q1 : (⟨#[40]⟩ : ByteArray).size = 1 := rfl; have q2 : (⟨#[41, 120]⟩ : ByteArray).size = 2 := rfl; have q3 : (⟨#[43]⟩ : ByteArray).size = 1 := rfl; have q4 : (⟨#[44, 32, 103, 108, 117, 101, 32, 115, 101, 116]⟩ : ByteArray).size = 10 := rfl; have q5 : (⟨#[47]⟩ : ByteArray).size = 1 := rfl; omega
        first | (go_simp; done) | (go_simp; omega) | (go_simp; with_reducible rfl) | (go_simp; kernel_rfl)
      simp only [Act.put, List.setIfInBounds_toArray, List.set_cons_zero, List.set_cons_succ]
      refine wpAnyH_ready (rs := [15]) (by kernel_rfl) (by simp) (AllReadyH.cons rfl (fun K hK => ?_) AllReadyH.nil)
      go_simp
      go_wp2_with fail
      refine (HC7.out _).mono ?_
      rintro e w_3 ⟨rfl, hb_3⟩
      refine hK.out _ _ (hH2.keep hb_3) (fun hH3 => ?_)
      try simp only [Act.put, List.setIfInBounds_toArray, List.set_cons_zero, List.set_cons_succ]
      clear hK K
      refine take_lit (i := 16) (v := (.string ((((((((((((nm ++ ⟨#[40]⟩) ++ T1) ++ ⟨#[43]⟩) ++ T2) ++ ⟨#[41, 120]⟩) ++ T3) ++ ⟨#[44, 32, 103, 108, 117, 101, 32, 115, 101, 116]⟩) ++ ⟨#[32, 43, 32]⟩) ++ T4) ++ ⟨#[47]⟩) ++ T5) ++ T7))) (by kernel_rfl) (by kernel_rfl) (by kernel_rfl) (by kernel_rfl) (fun _ _ _ _ h => h) hH3 (fun oi hoi => ?_)
      simp only [List.getElem?_toArray, List.getElem?_cons_succ, List.getElem?_cons_zero, Option.some.injEq] at hoi
      subst hoi
      refine ⟨.inl ⟨by rfl, fun w hSw => ?_⟩, ?_⟩
      · skip
        have hz : ¬ 9223372036854775807 < (((((((((((nm ++ ⟨#[40]⟩) ++ T1) ++ ⟨#[43]⟩) ++ T2) ++ ⟨#[41, 120]⟩) ++ T3) ++ ⟨#[44, 32, 103, 108, 117, 101, 32, 115, 101, 116]⟩) ++ ⟨#[32, 43, 32]⟩) ++ T4) ++ ⟨#[47]⟩) ++ T5 : ByteArray).size + (T7 : ByteArray).size := by (try simp only [ByteArray.size_append]); have q0 : (⟨#[32, 43, 32]⟩ : ByteArray).size = 3 := rfl; have q1 : (⟨#[40]⟩ : ByteArray).size = 1 := rfl; have q2 : (⟨#[41, 120]⟩ : ByteArray).size = 2 := rfl; have q3 : (⟨#[43]⟩ : ByteArray).size = 1 := rfl; have q4 : (⟨#[44, 32, 103, 108, 117, 101, 32, 115, 101, 116]⟩ : ByteArray).size = 10 := rfl; have q5 : (⟨#[47]⟩ : ByteArray).size = 1 := rfl; omega
        first | (go_simp; done) | (go_simp; omega) | (go_simp; with_reducible rfl) | (go_simp; kernel_rfl)
      simp only [Act.put, List.setIfInBounds_toArray, List.set_cons_zero, List.set_cons_succ]
      refine take_lit (i := 17) (v := (.string ((((((((((((nm ++ ⟨#[40]⟩) ++ T1) ++ ⟨#[43]⟩) ++ T2) ++ ⟨#[41, 120]⟩) ++ T3) ++ ⟨#[44, 32, 103, 108, 117, 101, 32, 115, 101, 116]⟩) ++ ⟨#[32, 43, 32]⟩) ++ T4) ++ ⟨#[47]⟩) ++ T5) ++ T7))) (by kernel_rfl) (by kernel_rfl) (by kernel_rfl) (by kernel_rfl) (fun _ _ _ _ h => h) hH3 (fun oi hoi => ?_)
      simp only [List.getElem?_toArray, List.getElem?_cons_succ, List.getElem?_cons_zero, Option.some.injEq] at hoi
      subst hoi
      refine ⟨.inl ⟨by rfl, fun w hSw => ?_⟩, ?_⟩
      · skip
        first | (go_simp; done) | (go_simp; omega) | (go_simp; with_reducible rfl) | (go_simp; kernel_rfl)
      simp only [Act.put, List.setIfInBounds_toArray, List.set_cons_zero, List.set_cons_succ]
      refine wpAnyH_done (by kernel_rfl) ?_ _
      have k6 := hH3.at (j := 6) rfl
      by_cases hsh : x.shift = 0
      · have e2 : (x.shift != 0) = false := by simp [hsh]
        have HQ := Lib.hid hsh
        clear hsh
        have HH := Lib.hid hH3
        clear hH3
        go_wp2_with fail
        go_ret
        subst hg
        exact ⟨ret_t (HR10.out HS.out HQ.out), HH.out.2.2⟩
      · have e2 : (x.shift != 0) = true := by simp [hsh]
        have HQ := Lib.hid hsh
        clear hsh
        have HH := Lib.hid hH3
        clear hH3
        have hz9 : ((((((((((((nm ++ ⟨#[40]⟩) ++ T1) ++ ⟨#[43]⟩) ++ T2) ++ ⟨#[41, 120]⟩) ++ T3) ++ ⟨#[44, 32, 103, 108, 117, 101, 32, 115, 101, 116]⟩) ++ ⟨#[32, 43, 32]⟩) ++ T4) ++ ⟨#[47]⟩) ++ T5) ++ T7 : ByteArray).size ≤ 2000 := by (simp only [ByteArray.size_append]); have q0 : (⟨#[32, 43, 32]⟩ : ByteArray).size = 3 := rfl; have q1 : (⟨#[40]⟩ : ByteArray).size = 1 := rfl; have q2 : (⟨#[41, 120]⟩ : ByteArray).size = 2 := rfl; have q3 : (⟨#[43]⟩ : ByteArray).size = 1 := rfl; have q4 : (⟨#[44, 32, 103, 108, 117, 101, 32, 115, 101, 116]⟩ : ByteArray).size = 10 := rfl; have q5 : (⟨#[47]⟩ : ByteArray).size = 1 := rfl; omega
        generalize hT9 : (((((((((((nm ++ ⟨#[40]⟩) ++ T1) ++ ⟨#[43]⟩) ++ T2) ++ ⟨#[41, 120]⟩) ++ T3) ++ ⟨#[44, 32, 103, 108, 117, 101, 32, 115, 101, 116]⟩) ++ ⟨#[32, 43, 32]⟩) ++ T4) ++ ⟨#[47]⟩) ++ T5) ++ T7 = T9 at hz9 ⊢
        have hz10 : ¬ 9223372036854775807 < T9.size + (⟨#[44, 32, 115, 104, 105, 102, 116, 101, 100, 32]⟩ : ByteArray).size := by show ¬ 9223372036854775807 < _ + 10; omega
        have hz11 : ¬ 9223372036854775807 < (T9 ++ ⟨#[44, 32, 115, 104, 105, 102, 116, 101, 100, 32]⟩).size + T6.size := by rw [ByteArray.size_append]; show ¬ 9223372036854775807 < _ + 10 + _; omega
        go_wp2_with fail
        refine (HC6.out _).mono ?_
        rintro e w9 ⟨rfl, hb9⟩
        have HH9 := Lib.hid (HH.out.keep hb9)
        clear hb9
        go_wp2_with fail
        go_ret
        subst hT9
        subst hg
        exact ⟨ret_t (HR11.out HS.out HQ.out), HH9.out.2.2⟩
    · have e3 : (x.sign == 2) = true := by simp [h1]
      have HS := Lib.hid h1
      clear h1 hs
      go_upto_region 6 with fail
      clear k12
      refine wp_region_held_drew (S := Hd w g0 x) (by kernel_rfl) (hI.drew) (fun hH => ?_)
      refine take_lit (i := 0) (v := (.string ((((((nm ++ ⟨#[40]⟩) ++ T1) ++ ⟨#[43]⟩) ++ T2) ++ ⟨#[41, 120]⟩) ++ T3))) (by kernel_rfl) (by kernel_rfl) (by kernel_rfl) (by kernel_rfl) (fun _ _ _ _ h => h) hH (fun oi hoi => ?_)
      simp only [List.getElem?_toArray, List.getElem?_cons_succ, List.getElem?_cons_zero, Option.some.injEq] at hoi
      subst hoi
      refine ⟨.inl ⟨by rfl, fun w hSw => ?_⟩, ?_⟩
      · skip
        first | (go_simp; done) | (go_simp; omega) | (go_simp; with_reducible rfl) | (go_simp; kernel_rfl)
      simp only [Act.put, List.setIfInBounds_toArray, List.set_cons_zero, List.set_cons_succ]
      refine take_lit (i := 1) (v := (.string (((((((nm ++ ⟨#[40]⟩) ++ T1) ++ ⟨#[43]⟩) ++ T2) ++ ⟨#[41, 120]⟩) ++ T3) ++ ⟨#[44, 32, 103, 108, 117, 101, 32, 115, 101, 116]⟩))) (by kernel_rfl) (by kernel_rfl) (by kernel_rfl) (by kernel_rfl) (fun _ _ _ _ h => h) hH (fun oi hoi => ?_)
      simp only [List.getElem?_toArray, List.getElem?_cons_succ, List.getElem?_cons_zero, Option.some.injEq] at hoi
      subst hoi
      refine ⟨.inl ⟨by rfl, fun w hSw => ?_⟩, ?_⟩
      · skip
        have hz : ¬ 9223372036854775807 < ((((((nm ++ ⟨#[40]⟩) ++ T1) ++ ⟨#[43]⟩) ++ T2) ++ ⟨#[41, 120]⟩) ++ T3 : ByteArray).size + (⟨#[44, 32, 103, 108, 117, 101, 32, 115, 101, 116]⟩ : ByteArray).size := by (try simp only [ByteArray.size_append]); have q0 : (⟨#[40]⟩ : ByteArray).size = 1 := rfl; have q1 : (⟨#[41, 120]⟩ : ByteArray).size = 2 := rfl; have q2 : (⟨#[43]⟩ : ByteArray).size = 1 := rfl; have q3 : (⟨#[44, 32, 103, 108, 117, 101, 32, 115, 101, 116]⟩ : ByteArray).size = 10 := rfl; omega
        first | (go_simp; done) | (go_simp; omega) | (go_simp; with_reducible rfl) | (go_simp; kernel_rfl)
      simp only [Act.put, List.setIfInBounds_toArray, List.set_cons_zero, List.set_cons_succ]
      refine take_lit (i := 2) (v := (.string (⟨#[32, 45, 32]⟩))) (by kernel_rfl) (by kernel_rfl) (by kernel_rfl) (by kernel_rfl) (fun _ _ _ _ h => h) hH (fun oi hoi => ?_)
      simp only [List.getElem?_toArray, List.getElem?_cons_succ, List.getElem?_cons_zero, Option.some.injEq] at hoi
      subst hoi
      refine ⟨.inl ⟨by rfl, fun w hSw => ?_⟩, ?_⟩
      · skip
        first | (go_simp; done) | (go_simp; omega) | (go_simp; with_reducible rfl) | (go_simp; kernel_rfl)
      simp only [Act.put, List.setIfInBounds_toArray, List.set_cons_zero, List.set_cons_succ]
      refine take_lit (i := 3) (v := (.string ((((((((nm ++ ⟨#[40]⟩) ++ T1) ++ ⟨#[43]⟩) ++ T2) ++ ⟨#[41, 120]⟩) ++ T3) ++ ⟨#[44, 32, 103, 108, 117, 101, 32, 115, 101, 116]⟩) ++ ⟨#[32, 45, 32]⟩))) (by kernel_rfl) (by kernel_rfl) (by kernel_rfl) (by kernel_rfl) (fun _ _ _ _ h => h) hH (fun oi hoi => ?_)
      simp only [List.getElem?_toArray, List.getElem?_cons_succ, List.getElem?_cons_zero, Option.some.injEq] at hoi
      subst hoi
      refine ⟨.inl ⟨by rfl, fun w hSw => ?_⟩, ?_⟩
      · skip
        have hz : ¬ 9223372036854775807 < (((((((nm ++ ⟨#[40]⟩) ++ T1) ++ ⟨#[43]⟩) ++ T2) ++ ⟨#[41, 120]⟩) ++ T3) ++ ⟨#[44, 32, 103, 108, 117, 101, 32, 115, 101, 116]⟩ : ByteArray).size + (⟨#[32, 45, 32]⟩ : ByteArray).size := by (try simp only [ByteArray.size_append]); have q0 : (⟨#[32, 45, 32]⟩ : ByteArray).size = 3 := rfl; have q1 : (⟨#[40]⟩ : ByteArray).size = 1 := rfl; have q2 : (⟨#[41, 120]⟩ : ByteArray).size = 2 := rfl; have q3 : (⟨#[43]⟩ : ByteArray).size = 1 := rfl; have q4 : (⟨#[44, 32, 103, 108, 117, 101, 32, 115, 101, 116]⟩ : ByteArray).size = 10 := rfl; omega
        first | (go_simp; done) | (go_simp; omega) | (go_simp; with_reducible rfl) | (go_simp; kernel_rfl)
      simp only [Act.put, List.setIfInBounds_toArray, List.set_cons_zero, List.set_cons_succ]
      refine take_lit (i := 4) (v := (.pointer (some ⟨g0, 14, none⟩))) (by kernel_rfl) (by kernel_rfl) (by kernel_rfl) (by kernel_rfl) (fun _ _ _ _ h => h) hH (fun oi hoi => ?_)
      simp only [List.getElem?_toArray, List.getElem?_cons_succ, List.getElem?_cons_zero, Option.some.injEq] at hoi
      subst hoi
      refine ⟨.inl ⟨by rfl, fun w hSw => ?_⟩, ?_⟩
      · skip
        first | (go_simp; done) | (go_simp; omega) | (go_simp; with_reducible rfl) | (go_simp; kernel_rfl)
      simp only [Act.put, List.setIfInBounds_toArray, List.set_cons_zero, List.set_cons_succ]
      refine take_lit (i := 5) (v := (.int .i64 (x.num))) (by kernel_rfl) (by kernel_rfl) (by kernel_rfl) (by kernel_rfl) (fun _ _ _ _ h => h) hH (fun oi hoi => ?_)
      simp only [List.getElem?_toArray, List.getElem?_cons_succ, List.getElem?_cons_zero, Option.some.injEq] at hoi
      subst hoi
      refine ⟨.inl ⟨by rfl, fun w hSw => ?_⟩, ?_⟩
      · skip
        have z := hSw.at (j := 14) rfl
        first | (go_simp; done) | (go_simp; omega) | (go_simp; with_reducible rfl) | (go_simp; kernel_rfl)
      simp only [Act.put, List.setIfInBounds_toArray, List.set_cons_zero, List.set_cons_succ]
      refine take_lit (i := 9) (v := (.pointer (some ⟨g0, 15, none⟩))) (by kernel_rfl) (by kernel_rfl) (by kernel_rfl) (by kernel_rfl) (fun _ _ _ _ h => h) hH (fun oi hoi => ?_)
      simp only [List.getElem?_toArray, List.getElem?_cons_succ, List.getElem?_cons_zero, Option.some.injEq] at hoi
      subst hoi
      refine ⟨.inl ⟨by rfl, fun w hSw => ?_⟩, ?_⟩
      · skip
        first | (go_simp; done) | (go_simp; omega) | (go_simp; with_reducible rfl) | (go_simp; kernel_rfl)
      simp only [Act.put, List.setIfInBounds_toArray, List.set_cons_zero, List.set_cons_succ]
      refine take_lit (i := 10) (v := (.int .i64 (x.den))) (by kernel_rfl) (by kernel_rfl) (by kernel_rfl) (by kernel_rfl) (fun _ _ _ _ h => h) hH (fun oi hoi => ?_)
      simp only [List.getElem?_toArray, List.getElem?_cons_succ, List.getElem?_cons_zero, Option.some.injEq] at hoi
      subst hoi
      refine ⟨.inl ⟨by rfl, fun w hSw => ?_⟩, ?_⟩
      · skip
        have z := hSw.at (j := 15) rfl
        first | (go_simp; done) | (go_simp; omega) | (go_simp; with_reducible rfl) | (go_simp; kernel_rfl)
      simp only [Act.put, List.setIfInBounds_toArray, List.set_cons_zero, List.set_cons_succ]
      refine take_lit (i := 13) (v := (.pointer (some ⟨g0, 13, none⟩))) (by kernel_rfl) (by kernel_rfl) (by kernel_rfl) (by kernel_rfl) (fun _ _ _ _ h => h) hH (fun oi hoi => ?_)
      simp only [List.getElem?_toArray, List.getElem?_cons_succ, List.getElem?_cons_zero, Option.some.injEq] at hoi
      subst hoi
      refine ⟨.inl ⟨by rfl, fun w hSw => ?_⟩, ?_⟩
      · skip
        first | (go_simp; done) | (go_simp; omega) | (go_simp; with_reducible rfl) | (go_simp; kernel_rfl)
      simp only [Act.put, List.setIfInBounds_toArray, List.set_cons_zero, List.set_cons_succ]
      refine take_lit (i := 14) (v := (.int .i64 (x.order))) (by kernel_rfl) (by kernel_rfl) (by kernel_rfl) (by kernel_rfl) (fun _ _ _ _ h => h) hH (fun oi hoi => ?_)
      simp only [List.getElem?_toArray, List.getElem?_cons_succ, List.getElem?_cons_zero, Option.some.injEq] at hoi
      subst hoi
      refine ⟨.inl ⟨by rfl, fun w hSw => ?_⟩, ?_⟩
      · skip
        have z := hSw.at (j := 13) rfl
        first | (go_simp; done) | (go_simp; omega) | (go_simp; with_reducible rfl) | (go_simp; kernel_rfl)
      simp only [Act.put, List.setIfInBounds_toArray, List.set_cons_zero, List.set_cons_succ]
      refine wpAnyH_ready (rs := [6]) (by kernel_rfl) (by simp) (AllReadyH.cons rfl (fun K hK => ?_) AllReadyH.nil)
      go_simp
      go_wp2_with fail
      refine (HC4.out _).mono ?_
      rintro e w_1 ⟨rfl, hb_1⟩
      refine hK.out _ _ (hH.keep hb_1) (fun hH1 => ?_)
      try simp only [Act.put, List.setIfInBounds_toArray, List.set_cons_zero, List.set_cons_succ]
      clear hK K
      refine take_lit (i := 7) (v := (.string (((((((((nm ++ ⟨#[40]⟩) ++ T1) ++ ⟨#[43]⟩) ++ T2) ++ ⟨#[41, 120]⟩) ++ T3) ++ ⟨#[44, 32, 103, 108, 117, 101, 32, 115, 101, 116]⟩) ++ ⟨#[32, 45, 32]⟩) ++ T4))) (by kernel_rfl) (by kernel_rfl) (by kernel_rfl) (by kernel_rfl) (fun _ _ _ _ h => h) hH1 (fun oi hoi => ?_)
      simp only [List.getElem?_toArray, List.getElem?_cons_succ, List.getElem?_cons_zero, Option.some.injEq] at hoi
      subst hoi
      refine ⟨.inl ⟨by rfl, fun w hSw => ?_⟩, ?_⟩
      · skip
        have hz : ¬ 9223372036854775807 < ((((((((nm ++ ⟨#[40]⟩) ++ T1) ++ ⟨#[43]⟩) ++ T2) ++ ⟨#[41, 120]⟩) ++ T3) ++ ⟨#[44, 32, 103, 108, 117, 101, 32, 115, 101, 116]⟩) ++ ⟨#[32, 45, 32]⟩ : ByteArray).size + (T4 : ByteArray).size := by (try simp only [ByteArray.size_append]); have q0 : (⟨#[32, 45, 32]⟩ : ByteArray).size = 3 := rfl; have q1 : (⟨#[40]⟩ : ByteArray).size = 1 := rfl; have q2 : (⟨#[41, 120]⟩ : ByteArray).size = 2 := rfl; have q3 : (⟨#[43]⟩ : ByteArray).size = 1 := rfl; have q4 : (⟨#[44, 32, 103, 108, 117, 101, 32, 115, 101, 116]⟩ : ByteArray).size = 10 := rfl; omega
        first | (go_simp; done) | (go_simp; omega) | (go_simp; with_reducible rfl) | (go_simp; kernel_rfl)
      simp only [Act.put, List.setIfInBounds_toArray, List.set_cons_zero, List.set_cons_succ]
      refine take_lit (i := 8) (v := (.string ((((((((((nm ++ ⟨#[40]⟩) ++ T1) ++ ⟨#[43]⟩) ++ T2) ++ ⟨#[41, 120]⟩) ++ T3) ++ ⟨#[44, 32, 103, 108, 117, 101, 32, 115, 101, 116]⟩) ++ ⟨#[32, 45, 32]⟩) ++ T4) ++ ⟨#[47]⟩))) (by kernel_rfl) (by kernel_rfl) (by kernel_rfl) (by kernel_rfl) (fun _ _ _ _ h => h) hH1 (fun oi hoi => ?_)
      simp only [List.getElem?_toArray, List.getElem?_cons_succ, List.getElem?_cons_zero, Option.some.injEq] at hoi
      subst hoi
      refine ⟨.inl ⟨by rfl, fun w hSw => ?_⟩, ?_⟩
      · skip
        have hz : ¬ 9223372036854775807 < (((((((((nm ++ ⟨#[40]⟩) ++ T1) ++ ⟨#[43]⟩) ++ T2) ++ ⟨#[41, 120]⟩) ++ T3) ++ ⟨#[44, 32, 103, 108, 117, 101, 32, 115, 101, 116]⟩) ++ ⟨#[32, 45, 32]⟩) ++ T4 : ByteArray).size + (⟨#[47]⟩ : ByteArray).size := by (try simp only [ByteArray.size_append]); have q0 : (⟨#[32, 45, 32]⟩ : ByteArray).size = 3 := rfl; have q1 : (⟨#[40]⟩ : ByteArray).size = 1 := rfl; have q2 : (⟨#[41, 120]⟩ : ByteArray).size = 2 := rfl; have q3 : (⟨#[43]⟩ : ByteArray).size = 1 := rfl; have q4 : (⟨#[44, 32, 103, 108, 117, 101, 32, 115, 101, 116]⟩ : ByteArray).size = 10 := rfl; have q5 : (⟨#[47]⟩ : ByteArray).size = 1 := rfl; omega
        first | (go_simp; done) | (go_simp; omega) | (go_simp; with_reducible rfl) | (go_simp; kernel_rfl)
      simp only [Act.put, List.setIfInBounds_toArray, List.set_cons_zero, List.set_cons_succ]
      refine wpAnyH_ready (rs := [11]) (by kernel_rfl) (by simp) (AllReadyH.cons rfl (fun K hK => ?_) AllReadyH.nil)
      go_simp
      go_wp2_with fail
      refine (HC5.out _).mono ?_
      rintro e w_2 ⟨rfl, hb_2⟩
      refine hK.out _ _ (hH1.keep hb_2) (fun hH2 => ?_)
      try simp only [Act.put, List.setIfInBounds_toArray, List.set_cons_zero, List.set_cons_succ]
      clear hK K
      refine take_lit (i := 12) (v := (.string (((((((((((nm ++ ⟨#[40]⟩) ++ T1) ++ ⟨#[43]⟩) ++ T2) ++ ⟨#[41, 120]⟩) ++ T3) ++ ⟨#[44, 32, 103, 108, 117, 101, 32, 115, 101, 116]⟩) ++ ⟨#[32, 45, 32]⟩) ++ T4) ++ ⟨#[47]⟩) ++ T5))) (by kernel_rfl) (by kernel_rfl) (by kernel_rfl) (by kernel_rfl) (fun _ _ _ _ h => h) hH2 (fun oi hoi => ?_)
      simp only [List.getElem?_toArray, List.getElem?_cons_succ, List.getElem?_cons_zero, Option.some.injEq] at hoi
      subst hoi
      refine ⟨.inl ⟨by rfl, fun w hSw => ?_⟩, ?_⟩
      · skip
        have hz : ¬ 9223372036854775807 < ((((((((((nm ++ ⟨#[40]⟩) ++ T1) ++ ⟨#[43]⟩) ++ T2) ++ ⟨#[41, 120]⟩) ++ T3) ++ ⟨#[44, 32, 103, 108, 117, 101, 32, 115, 101, 116]⟩) ++ ⟨#[32, 45, 32]⟩) ++ T4) ++ ⟨#[47]⟩ : ByteArray).size + (T5 : ByteArray).size := by (try simp only [ByteArray.size_append]); have q0 : (⟨#[32, 45, 32]⟩ : ByteArray).size = 3 := rfl; have q1 : (⟨#[40]⟩ : ByteArray).size = 1 := rfl; have q2 : (⟨#[41, 120]⟩ : ByteArray).size = 2 := rfl; have q3 : (⟨#[43]⟩ : ByteArray).size = 1 := rfl; have q4 : (⟨#[44, 32, 103, 108, 117, 101, 32, 115, 101, 116]⟩ : ByteArray).size = 10 := rfl; have q5 : (⟨#[47]⟩ : ByteArray).size = 1 := rfl; omega
        first | (go_simp; done) | (go_simp; omega) | (go_simp; with_reducible rfl) | (go_simp; kernel_rfl)
      simp only [Act.put, List.setIfInBounds_toArray, List.set_cons_zero, List.set_cons_succ]
      refine wpAnyH_ready (rs := [15]) (by kernel_rfl) (by simp) (AllReadyH.cons rfl (fun K hK => ?_) AllReadyH.nil)
      go_simp
      go_wp2_with fail
      refine (HC7.out _).mono ?_
      rintro e w_3 ⟨rfl, hb_3⟩
      refine hK.out _ _ (hH2.keep hb_3) (fun hH3 => ?_)
      try simp only [Act.put, List.setIfInBounds_toArray, List.set_cons_zero, List.set_cons_succ]
      clear hK K
      refine take_lit (i := 16) (v := (.string ((((((((((((nm ++ ⟨#[40]⟩) ++ T1) ++ ⟨#[43]⟩) ++ T2) ++ ⟨#[41, 120]⟩) ++ T3) ++ ⟨#[44, 32, 103, 108, 117, 101, 32, 115, 101, 116]⟩) ++ ⟨#[32, 45, 32]⟩) ++ T4) ++ ⟨#[47]⟩) ++ T5) ++ T7))) (by kernel_rfl) (by kernel_rfl) (by kernel_rfl) (by kernel_rfl) (fun _ _ _ _ h => h) hH3 (fun oi hoi => ?_)
      simp only [List.getElem?_toArray, List.getElem?_cons_succ, List.getElem?_cons_zero, Option.some.injEq] at hoi
      subst hoi
      refine ⟨.inl ⟨by rfl, fun w hSw => ?_⟩, ?_⟩
      · skip
        have hz : ¬ 9223372036854775807 < (((((((((((nm ++ ⟨#[40]⟩) ++ T1) ++ ⟨#[43]⟩) ++ T2) ++ ⟨#[41, 120]⟩) ++ T3) ++ ⟨#[44, 32, 103, 108, 117, 101, 32, 115, 101, 116]⟩) ++ ⟨#[32, 45, 32]⟩) ++ T4) ++ ⟨#[47]⟩) ++ T5 : ByteArray).size + (T7 : ByteArray).size := by (try simp only [ByteArray.size_append]); have q0 : (⟨#[32, 45, 32]⟩ : ByteArray).size = 3 := rfl; have q1 : (⟨#[40]⟩ : ByteArray).size = 1 := rfl; have q2 : (⟨#[41, 120]⟩ : ByteArray).size = 2 := rfl; have q3 : (⟨#[43]⟩ : ByteArray).size = 1 := rfl; have q4 : (⟨#[44, 32, 103, 108, 117, 101, 32, 115, 101, 116]⟩ : ByteArray).size = 10 := rfl; have q5 : (⟨#[47]⟩ : ByteArray).size = 1 := rfl; omega
        first | (go_simp; done) | (go_simp; omega) | (go_simp; with_reducible rfl) | (go_simp; kernel_rfl)
      simp only [Act.put, List.setIfInBounds_toArray, List.set_cons_zero, List.set_cons_succ]
      refine take_lit (i := 17) (v := (.string ((((((((((((nm ++ ⟨#[40]⟩) ++ T1) ++ ⟨#[43]⟩) ++ T2) ++ ⟨#[41, 120]⟩) ++ T3) ++ ⟨#[44, 32, 103, 108, 117, 101, 32, 115, 101, 116]⟩) ++ ⟨#[32, 45, 32]⟩) ++ T4) ++ ⟨#[47]⟩) ++ T5) ++ T7))) (by kernel_rfl) (by kernel_rfl) (by kernel_rfl) (by kernel_rfl) (fun _ _ _ _ h => h) hH3 (fun oi hoi => ?_)
      simp only [List.getElem?_toArray, List.getElem?_cons_succ, List.getElem?_cons_zero, Option.some.injEq] at hoi
      subst hoi
      refine ⟨.inl ⟨by rfl, fun w hSw => ?_⟩, ?_⟩
      · skip
        first | (go_simp; done) | (go_simp; omega) | (go_simp; with_reducible rfl) | (go_simp; kernel_rfl)
      simp only [Act.put, List.setIfInBounds_toArray, List.set_cons_zero, List.set_cons_succ]
      refine wpAnyH_done (by kernel_rfl) ?_ _
      have k6 := hH3.at (j := 6) rfl
      by_cases hsh : x.shift = 0
      · have e2 : (x.shift != 0) = false := by simp [hsh]
        have HQ := Lib.hid hsh
        clear hsh
        have HH := Lib.hid hH3
        clear hH3
        go_wp2_with fail
        go_ret
        subst hg
        exact ⟨ret_t (HR20.out HS.out HQ.out), HH.out.2.2⟩
      · have e2 : (x.shift != 0) = true := by simp [hsh]
        have HQ := Lib.hid hsh
        clear hsh
        have HH := Lib.hid hH3
        clear hH3
        have hz9 : ((((((((((((nm ++ ⟨#[40]⟩) ++ T1) ++ ⟨#[43]⟩) ++ T2) ++ ⟨#[41, 120]⟩) ++ T3) ++ ⟨#[44, 32, 103, 108, 117, 101, 32, 115, 101, 116]⟩) ++ ⟨#[32, 45, 32]⟩) ++ T4) ++ ⟨#[47]⟩) ++ T5) ++ T7 : ByteArray).size ≤ 2000 := by (simp only [ByteArray.size_append]); have q0 : (⟨#[32, 45, 32]⟩ : ByteArray).size = 3 := rfl; have q1 : (⟨#[40]⟩ : ByteArray).size = 1 := rfl; have q2 : (⟨#[41, 120]⟩ : ByteArray).size = 2 := rfl; have q3 : (⟨#[43]⟩ : ByteArray).size = 1 := rfl; have q4 : (⟨#[44, 32, 103, 108, 117, 101, 32, 115, 101, 116]⟩ : ByteArray).size = 10 := rfl; have q5 : (⟨#[47]⟩ : ByteArray).size = 1 := rfl; omega
        generalize hT9 : (((((((((((nm ++ ⟨#[40]⟩) ++ T1) ++ ⟨#[43]⟩) ++ T2) ++ ⟨#[41, 120]⟩) ++ T3) ++ ⟨#[44, 32, 103, 108, 117, 101, 32, 115, 101, 116]⟩) ++ ⟨#[32, 45, 32]⟩) ++ T4) ++ ⟨#[47]⟩) ++ T5) ++ T7 = T9 at hz9 ⊢
        have hz10 : ¬ 9223372036854775807 < T9.size + (⟨#[44, 32, 115, 104, 105, 102, 116, 101, 100, 32]⟩ : ByteArray).size := by show ¬ 9223372036854775807 < _ + 10; omega
        have hz11 : ¬ 9223372036854775807 < (T9 ++ ⟨#[44, 32, 115, 104, 105, 102, 116, 101, 100, 32]⟩).size + T6.size := by rw [ByteArray.size_append]; show ¬ 9223372036854775807 < _ + 10 + _; omega
        go_wp2_with fail
        refine (HC6.out _).mono ?_
        rintro e w9 ⟨rfl, hb9⟩
        have HH9 := Lib.hid (HH.out.keep hb9)
        clear hb9
        go_wp2_with fail
        go_ret
        subst hT9
        subst hg
        exact ⟨ret_t (HR21.out HS.out HQ.out), HH9.out.2.2⟩
end Go.Proofs.YtmcekdjhkjhcdaaGreatDoor.Sw
end
section
namespace Go.Proofs.YtmcekdjhkjhcdaaGreatDoor.No
open Go.ChangeShapes Go.WideShapes Go.ChangeAt Go.RowKit
open Me Np
set_option linter.unusedVariables false
set_option linter.unusedSimpArgs false

/-- What the loop of Ends holds. -/
structure InvEr (ns : List Nd) (w : World) (a m i : Nat) (q : Int) (wr : World) : Prop where
  lt : i < m
  bd : 0 ≤ q ∧ q ≤ i
  pos : q = 0 → i = 0
  rest : endc (ns.drop (a + i)) q = some (m - i)
  low : Below w.heap.size w wr
set_option maxHeartbeats 1000000 in
set_option maxRecDepth 100000 in
theorem rends_any (A : Option Addr) (ns : List Nd) (c a m : Nat) (w : World) (hl : ns.length ≤ 9223372036854775806) (hseg : Seg w w.heap.size A (ns.flatMap ncs)) (hm : endc (ns.drop a) 0 = some m) (h6 : ∀ n, ns[a]? = some n → ¬ n.kind = 6) :
    Calls Tryz.prog 81 #[.slice A ns.length c, .int .i64 (a : Int)] w fun e w' => e = .returned (.int .i64 ((a + m : Nat) : Int)) ∧ Below w.heap.size w w' := by
  have hb0 := endc_bd hm
  rw [List.length_drop] at hb0
  have hb1 : a + m ≤ ns.length := by omega
  have hal : a < ns.length := by omega
  have HM := Lib.hid hm
  have HSEG := Lib.hid hseg
  obtain ⟨x0, hx0⟩ : ∃ x, ns[a]? = some x := ⟨_, List.getElem?_eq_getElem (by omega)⟩
  have h60 := h6 x0 hx0
  obtain ⟨b, off, rfl, hb, hnode⟩ := seg_node hseg hx0
  obtain ⟨x1, hx1, hd⟩ := get_drop (l := ns) (k := a) (by omega)
  rw [hx0] at hx1
  injection hx1 with hx1
  subst hx1
  have hrest := hm
  rw [hd] at hrest
  have HE := Lib.hid (endc_cons hrest)
  have HX0 := Lib.hid hx0
  have H60 := Lib.hid h60
  clear hseg hm hb0 h6 h60 hrest hd hx0
  generalize hlen : ns.length = len at *
  have HL := Lib.hid hlen
  clear hlen
  cases hO : opensB x0
  · have HO := Lib.hid hO
    clear hO
    go_enter Tryz.func81, Tryz.ntmps81
    go_wp2_with (first | (go_at_call 31; (with_reducible refine (ropens_any _ _).mono ?_); rintro e w' ⟨rfl, rfl⟩; simp only [HO.out]) | (with_reducible show wpList _ _ _ _ _ _; refine wpList_load_node rfl _ rfl _ _ rfl _ (by repeat (first | apply NodeAt.row | (apply Blk.new'; first | rfl | (simp; done)) | (apply Blk.node; apply Blk.new'; first | rfl | (simp; done)) | assumption | apply NodeAt.alloc)) ?_))
    go_ret
    refine ⟨ret_int ?_, andAlloc (Below.refl _ _) _⟩
    have h1 := HE.out
    have hcn : cnt x0 0 = 0 := by simp [cnt, HO.out, H60.out]
    rw [hcn] at h1
    rcases h1 with ⟨_, h1⟩ | ⟨h1, _⟩
    · omega
    · exact absurd rfl h1
  · have HO := Lib.hid hO
    have HO0 := Lib.hid hO
    clear hO
    go_enter Tryz.func81, Tryz.ntmps81
    go_wp2_with (first | (go_at_call 31; (with_reducible refine (ropens_any _ _).mono ?_); rintro e w' ⟨rfl, rfl⟩; simp only [HO.out]) | (with_reducible show wpList _ _ _ _ _ _; refine wpList_load_node rfl _ rfl _ _ rfl _ (by repeat (first | apply NodeAt.row | (apply Blk.new'; first | rfl | (simp; done)) | (apply Blk.node; apply Blk.new'; first | rfl | (simp; done)) | assumption | apply NodeAt.alloc)) ?_))
    clear hnode HE
    go_loopw [5, 6] (fun n v wr => ∃ (i : Nat) (q : Int), v = .int .i64 ((a : Int) + (i : Int)) ∧ n = .int .i64 q ∧ InvEr ns w a m i q wr) (fun _ v _ => a + m - (intOf v).toNat)
    case atStart =>
      have h1 := endc_bd HM.out
      exact ⟨0, 0, by simp, rfl, by omega, by simp, fun _ => rfl, by simpa using HM.out, andAlloc (Below.refl _ _) _⟩
    case round =>
      obtain ⟨i, q, rfl, rfl, hI⟩ := hrel
      obtain ⟨b0, b1⟩ := hI.bd
      have hi := hI.lt
      have hi2 : a + i < len := by omega
      have hi3 : 0 ≤ (a : Int) + i := by omega
      have hi4 : (a : Int) + i < len := by omega
      obtain ⟨x, hx, hd⟩ := get_drop (l := ns) (k := a + i) (by rw [HL.out]; omega)
      obtain ⟨b', off', he, _, hnode⟩ := seg_node HSEG.out hx
      injection he with he
      injection he with he1 he2
      subst he1; subst he2
      have hnr : NodeAt wr b (off + (a + i) * 19) x := hnode.below hI.low hb
      have hrest := hI.rest
      rw [hd] at hrest
      have HE := Lib.hid (endc_cons hrest)
      have HI := Lib.hid hI
      have hq0 : opensB x = true ∨ 1 ≤ q := by
        by_cases hq : q = 0
        · left
          have hi0 := hI.pos hq
          subst hi0
          rw [Nat.add_zero, HX0.out] at hx
          injection hx with hx
          rw [← hx]
          exact HO0.out
        · right; omega
      have htn : ((a : Int) + (i : Int)).toNat = a + i := by omega
      clear hx hd hnode hrest hI
      have hc0 : wr.cell? ⟨b, off + (a + i) * 19, none⟩ = some (.int .i64 x.kind) := hnr 0 _ rfl
      have hbw := hnr.lt
      cases hO : opensB x
      · have hq1 : 1 ≤ q := by rcases hq0 with h | h; (rw [h] at hO; cases hO); exact h
        by_cases k6 : x.kind = 6
        · have e6 : (x.kind == 6) = true := by simp [k6]
          have hcn : cnt x q = q - 1 := by simp [cnt, hO, k6]
          have HO := Lib.hid hO
          clear hO k6 hq0
          have HC := Lib.hid hcn
          clear hcn
          by_cases hz : q - 1 = 0
          · have ez : (q - 1 == 0) = true := by simp [hz]
            have HZ := Lib.hid hz
            clear hz
            go_wp2_with (first | (go_at_call 31; (with_reducible refine (ropens_any _ _).mono ?_); rintro e w' ⟨rfl, rfl⟩; simp only [HO.out]) | (with_reducible show wpList _ _ _ _ _ _; refine wpList_load_node rfl _ rfl _ _ rfl _ (by repeat (first | apply NodeAt.row | (apply Blk.new'; first | rfl | (simp; done)) | (apply Blk.node; apply Blk.new'; first | rfl | (simp; done)) | assumption | apply NodeAt.alloc)) ?_))
            try rw [Exit.noGoto_ret]
            go_ret
            refine ⟨ret_int ?_, andAlloc HI.out.low _⟩
            have h1 := HE.out
            rw [HC.out] at h1
            have h2 := HZ.out
            rcases h1 with ⟨_, h1⟩ | ⟨h1, _⟩
            · omega
            · exact absurd h2 h1
          · have ez : (q - 1 == 0) = false := by simp [hz]
            have HZ := Lib.hid hz
            clear hz
            go_wp2_with (first | (go_at_call 31; (with_reducible refine (ropens_any _ _).mono ?_); rintro e w' ⟨rfl, rfl⟩; simp only [HO.out]) | (with_reducible show wpList _ _ _ _ _ _; refine wpList_load_node rfl _ rfl _ _ rfl _ (by repeat (first | apply NodeAt.row | (apply Blk.new'; first | rfl | (simp; done)) | (apply Blk.node; apply Blk.new'; first | rfl | (simp; done)) | assumption | apply NodeAt.alloc)) ?_))
            have h1 := HE.out
            rw [HC.out] at h1
            rcases h1 with ⟨h1, _⟩ | ⟨_, h1, h2⟩
            · exact absurd h1 HZ.out
            go_roundw
            case rel => exact ⟨i + 1, q - 1, end_num, rfl, by omega, by have := HZ.out; omega, fun h => absurd h HZ.out, h2, andAlloc HI.out.low _⟩
            case measure => simp [intOf]; omega
        · have e6 : (x.kind == 6) = false := by simp [k6]
          have hcn : cnt x q = q := by simp [cnt, hO, k6]
          have HO := Lib.hid hO
          clear hO k6 hq0
          have HC := Lib.hid hcn
          clear hcn
          go_wp2_with (first | (go_at_call 31; (with_reducible refine (ropens_any _ _).mono ?_); rintro e w' ⟨rfl, rfl⟩; simp only [HO.out]) | (with_reducible show wpList _ _ _ _ _ _; refine wpList_load_node rfl _ rfl _ _ rfl _ (by repeat (first | apply NodeAt.row | (apply Blk.new'; first | rfl | (simp; done)) | (apply Blk.node; apply Blk.new'; first | rfl | (simp; done)) | assumption | apply NodeAt.alloc)) ?_))
          have h1 := HE.out
          rw [HC.out] at h1
          rcases h1 with ⟨h1, _⟩ | ⟨_, h1, h2⟩
          · omega
          go_roundw
          case rel => exact ⟨i + 1, q, end_num, rfl, by omega, by omega, fun h => by omega, h2, andAlloc HI.out.low _⟩
          case measure => simp [intOf]; omega
      · have k6 : ¬ x.kind = 6 := by
          intro h
          simp [opensB, h] at hO
        have e6 : (x.kind == 6) = false := by simp [k6]
        have hcn : cnt x q = q + 1 := by simp [cnt, hO]
        have HO := Lib.hid hO
        clear hO k6 hq0
        have HC := Lib.hid hcn
        clear hcn
        go_wp2_with (first | (go_at_call 31; (with_reducible refine (ropens_any _ _).mono ?_); rintro e w' ⟨rfl, rfl⟩; simp only [HO.out]) | (with_reducible show wpList _ _ _ _ _ _; refine wpList_load_node rfl _ rfl _ _ rfl _ (by repeat (first | apply NodeAt.row | (apply Blk.new'; first | rfl | (simp; done)) | (apply Blk.node; apply Blk.new'; first | rfl | (simp; done)) | assumption | apply NodeAt.alloc)) ?_))
        have h1 := HE.out
        rw [HC.out] at h1
        rcases h1 with ⟨h1, _⟩ | ⟨_, h1, h2⟩
        · omega
        go_roundw
        case rel => exact ⟨i + 1, q + 1, end_num, rfl, by omega, by omega, fun h => by omega, h2, andAlloc HI.out.low _⟩
        case measure => simp [intOf]; omega
set_option maxHeartbeats 1000000 in
set_option maxRecDepth 100000 in
theorem rstarts_any (A : Option Addr) (ns : List Nd) (c : Nat) (xs : List Nat) (w : World) (hl : ns.length ≤ 2000) (hseg : Seg w w.heap.size A (ns.flatMap ncs)) (hx : Its xs ns 0) (h6 : ∀ x ∈ xs, ∀ n, ns[x]? = some n → ¬ n.kind = 6) :
    Calls Tryz.prog 32 #[.slice A ns.length c] w (Made w xs) := by
  have HX := Lib.hid hx
  have HEN := Lib.hid fun (a m : Nat) w1 (h : Below w.heap.size w w1) hm hk => rends_any A ns c a m w1 (by omega) (Seg.belowW hseg h) hm hk
  have H6 := Lib.hid h6
  clear hseg hx h6
  have HL := Lib.hid (rfl : ns.length = ns.length)
  generalize hlen : ns.length = len at hl HEN HL ⊢
  clear HL
  have HL := Lib.hid hlen
  clear hlen
  go_enter Tryz.func32, Tryz.ntmps32
  go_wp2_with fail
  go_loopw [3, 4] (fun v i wr => ∃ (a : Nat) (ys zs : List Nat), i = .int .i64 a ∧ InvI ns w xs a v ys zs wr) (fun _ i _ => len - (intOf i).toNat)
  case atStart => exact ⟨0, [], xs, rfl, rfl, by simpa using HX.out, Nat.zero_le _, World.ownsRow_nil _ _ _ _, Below.refl _ _⟩
  case round =>
    obtain ⟨a, ys, zs, rfl, hI⟩ := hrel
    have hle := hI.le
    rw [HL.out] at hle
    have hyl : ys.length ≤ 2000 := by
      have h1 := Its.len HX.out
      have h2 := congrArg List.length hI.all
      rw [HL.out] at h1
      simp only [List.length_append] at h2
      omega
    have HI := Lib.hid hI
    clear hI
    by_cases hlt : a < len
    · have hz : ∃ m zs', zs = a :: zs' ∧ endc (ns.drop a) 0 = some m ∧ Its zs' ((ns.drop a).drop m) (a + m) := by
        have hr := HI.out.rest
        cases zs with
        | nil =>
          have hr : ns.drop a = [] := hr
          rw [List.drop_eq_nil_iff, HL.out] at hr
          omega
        | cons z zs' =>
          obtain ⟨rfl, m, h1, h2⟩ := hr
          exact ⟨m, zs', rfl, h1, h2⟩
      obtain ⟨m, zs', rfl, hm, hr⟩ := hz
      have hmb := endc_bd hm
      rw [List.length_drop, HL.out] at hmb
      have hma : a + m ≤ len := by omega
      have HM := Lib.hid hm
      have HR := Lib.hid hr
      have HB := Lib.hid hmb
      clear hm hr hmb
      go_wp2_with (at_builtin; refine wpList_push rfl _ _ 64 rfl w.heap.size 3 _ 1 8 Tryz.underlying64 info_int rfl (by decide) (by decide) _ _ _ rfl HI.out.own HI.out.low.size _ rfl rfl rfl (by simp) (by omega) ?_; intro v6 w6 hown6 hg6 hnn6)
      have hlow6 : Below w.heap.size w w6 := below_grown (Nat.le_refl _) (andAlloc HI.out.low _) hg6 (fun k hk => (HI.out.own.lt k hk).1)
      have HO6 := Lib.hid hown6
      clear hown6 hg6 hnn6
      refine (HEN.out a m w6 hlow6 HM.out (H6.out a (by rw [← HI.out.all]; simp))).mono ?_
      rintro e w7 ⟨rfl, hb7⟩
      go_wp2_with fail
      have hB := HB.out
      go_roundw
      case rel => exact ⟨a + m, ys ++ [a], zs', rfl, by simpa using HI.out.all, by simpa [List.drop_drop] using HR.out, by rw [HL.out]; exact hma, own_below (by simpa [nat64] using HO6.out) hb7, andThen hlow6 hb7⟩
      case measure => simp [intOf]; omega
    · obtain rfl : a = len := by omega
      have hz : zs = [] := by
        have hr := HI.out.rest
        rw [List.drop_of_length_le (by rw [HL.out]; exact Nat.le_refl _)] at hr
        cases zs with
        | nil => rfl
        | cons z zs' =>
          obtain ⟨_, m, h1, _⟩ := hr
          simp [endc] at h1
      subst hz
      go_wp2_with fail
      go_ret
      have h1 := HI.out.all
      rw [List.append_nil] at h1
      subst h1
      exact ⟨_, rfl, HI.out.own, HI.out.low⟩
end Go.Proofs.YtmcekdjhkjhcdaaGreatDoor.No
end
section
namespace Go.Proofs.YtmcekdjhkjhcdaaGreatDoor.No
open Go.ChangeShapes Go.WideShapes Go.ChangeAt Go.RowKit
open Me Np
set_option linter.unusedVariables false
set_option linter.unusedSimpArgs false

set_option maxHeartbeats 4000000 in
set_option maxRecDepth 100000 in
theorem rthree_any (A : Option Addr) (ns : List Nd) (c a m : Nat) (ss : List Nat) (n : Nd) (w : World) (hc : chk ns = 0) (hcap : ns.length ≤ c) (hseg : Seg w w.heap.size A (ns.flatMap ncs)) (hn : ns[a]? = some n) (hm : endc (ns.drop a) 0 = some m) (hd : D3 ss (ns.drop (a + 1)) 0 (m - 2)) (hm2 : 2 ≤ m) (h10 : n.kind = 10) :
    Calls Tryz.prog 88 #[.slice A ns.length c, .int .i64 (a : Int)] w (Made3 w (thr ss (ns.drop (a + 1)) 0)) := by
  have hl := (chk_run hc).1
  obtain ⟨b, off, rfl, hb', _⟩ := seg_node hseg hn
  have hmb := (endc_bd hm).2
  rw [List.length_drop] at hmb
  have hal : a < ns.length := (List.getElem?_eq_some_iff.1 hn).1
  have hml : a + m ≤ ns.length := by omega
  have HEN0 := Lib.hid fun w1 (h : Below w.heap.size w w1) => rends_any (some ⟨b, off, none⟩) ns c a m w1 (by omega) (Seg.belowW hseg h) hm (fun y hy => by rw [hn] at hy; injection hy with hy; rw [← hy, h10]; decide)
  have HEN := Lib.hid fun (i q : Nat) w1 (h : Below w.heap.size w w1) hm hk => rends_any (some ⟨b, off, none⟩) ns c i q w1 (by omega) (Seg.belowW hseg h) hm hk
  have HNO := Lib.hid fun (k : Nat) (x : Nd) w1 (h : Below w.heap.size w w1) (hk : ns[k]? = some x) => seg_node (hseg.below h) hk
  have HSEG := Lib.hid hseg
  have HD := Lib.hid hd
  clear hc hseg hn hm hd
  have HL := Lib.hid (rfl : ns.length = ns.length)
  generalize hlen : ns.length = len at hl HEN HEN0 HL hal hml hmb hcap ⊢
  clear HL
  have HL := Lib.hid hlen
  clear hlen
  generalize hF : thr ss (ns.drop (a + 1)) 0 = F
  have HF := Lib.hid hF
  clear hF
  go_enter Tryz.func88, Tryz.ntmps88
  go_wp2_with fail
  refine (HEN0.out _ (andAlloc (andAlloc (Below.refl _ _) _) _)).mono ?_
  rintro e w1 ⟨rfl, hb1⟩
  have hI0 : Inv3 ns w F (a + m - 1) 0 (a + 1) w1 := by
    have h1 : Blk w1 (w.heap.size + 1) 75 (tc3 fun _ => .slice none 0 0) := Blk.below (Blk.new' (by simp)) hb1 (by simp)
    have h2 : Blk w1 w.heap.size 75 (tc3 fun _ => .slice none 0 0) := Blk.below (Blk.alloc (Blk.new' rfl) _) hb1 (by simp; omega)
    have h3 : Below w.heap.size w w1 := andThen (andAlloc (andAlloc (Below.refl _ _) _) _) hb1
    exact ⟨by omega, ss, m - 2, fun _ => [], _, HD.out, by omega, fun j => by rw [List.nil_append, HF.out], ⟨h1, Own3.nil _ _, h3, h2⟩⟩
  have HI0 := Lib.hid hI0
  clear hI0 hb1
  have hlast : IntKind.i64.wrap ((a + m : Nat) - 1 : Int) = ((a + m - 1 : Nat) : Int) := by
    rw [IntWalk.i64_in _ (by omega)]
    omega
  go_wp2_with fail
  go_loopw [6, 7] (fun kv iv wr => ∃ k i : Nat, kv = .int .i64 (k : Int) ∧ iv = .int .i64 (i : Int) ∧ Inv3 ns w F (a + m - 1) k i wr) (fun _ iv _ => len - (intOf iv).toNat)
  case atStart => exact ⟨0, a + 1, rfl, by go_num, HI0.out⟩
  case round =>
    obtain ⟨k, i, rfl, rfl, hI⟩ := hrel
    obtain ⟨hk2, tt, r, L, vs, hD, hir, hall, hM⟩ := hI
    have HM := Lib.hid hM
    have HALL := Lib.hid hall
    clear hM hall HI0 hlast
    cases tt with
    | nil =>
      obtain ⟨rfl, rfl, _⟩ := hD
      obtain rfl : i = a + m - 1 := by omega
      have hF : ∀ j, L j = F j := fun j => by have := HALL.out j; simpa [thr] using this
      obtain rfl : L = F := funext hF
      have hblk := HM.out.blk
      have hres := HM.out.res
      have hlow := HM.out.low
      have hown := HM.out.own
      have HB := Lib.hid hblk
      have HRS := Lib.hid hres
      have HO := Lib.hid hown
      have HLW := Lib.hid hlow
      go_wp2_with (first | (refine wpList_load_row rfl 75 _ rfl _ rfl _ _ _ _ hblk Tryz.underlying75 rfl three_info ?_) | (refine wpList_store_row rfl 75 _ _ rfl _ _ rfl rfl _ _ hres three_info rfl (tc3_one _ hown) ?_))
      refine bodyPost_ret (v := .agg (tc3 vs)) (results_cell_row rfl _ _ w.heap.size 75 (tc3 vs) (0, 0) _ rfl (Blk.row HRS.out _) Tryz.underlying75 rfl three_info) rfl ⟨vs, rfl, ?_, below_setRow HLW.out _ _ (Nat.le_refl _)⟩
      exact HO.out.setRow (Nat.le_of_lt HRS.out.lt) _
    | cons q tt =>
      obtain ⟨x, l', r', hdx, h6, hD⟩ := hD
      obtain ⟨hx, hdr⟩ := drop_cons hdx
      obtain ⟨b2, off2, e2, _, hnode⟩ := HNO.out i x wr HM.out.low hx
      injection e2 with e2
      injection e2 with e3 e4
      subst e3; subst e4
      have c0 : wr.cell? ⟨b, off + i * 19, none⟩ = some (.int .i64 x.kind) := hnode 0 _ rfl
      have hil : i < len := by have := (List.getElem?_eq_some_iff.1 hx).1; have := HL.out; omega
      clear hnode
      rcases hD with ⟨rfl, h11, hk, rfl, hD⟩ | ⟨hq0, h11, hsm, hk, rfl, hq, hD⟩
      · have e11 : (x.kind == 11) = true := by simp [h11]
        have HD1 := Lib.hid hD
        have HDR := Lib.hid hdr
        have HDX := Lib.hid hdx
        clear hD hdr hdx hx
        go_wp2_with fail
        go_roundw
        case rel =>
          refine ⟨k + 1, i + 1, by go_num, by go_num, by omega, tt, r', L, vs, ?_, by omega, fun j => ?_, ?_⟩
          · rw [HDR.out]
            exact HD1.out
          · have := HALL.out j
            rw [HDX.out] at this
            rw [HDR.out]
            simpa [thr] using this
          · repeat (first | exact HM.out | apply Mem3.drew)
        case measure => simp [intOf]; omega
      · have e11 : (x.kind == 11) = false := by simp [h11]
        have HD1 := Lib.hid hD
        have HDX := Lib.hid hdx
        have hqb := endc_bd hq
        rw [List.length_drop, HL.out] at hqb
        have HQ := Lib.hid hq
        have hiq : i + q ≤ len := by omega
        have HX6 := Lib.hid (show ∀ y, ns[i]? = some y → ¬ y.kind = 6 from fun y hy => by rw [hx] at hy; injection hy with hy; rw [← hy]; exact h6)
        clear hD hx hdr hq hdx hqb
        go_wp2_with fail
        refine (HEN.out i q _ (by repeat (first | exact HM.out.low | refine below_drewN ?_ 1)) HQ.out HX6.out).mono ?_
        rintro e w2 ⟨rfl, hb2⟩
        have hM2 : Mem3 w vs L w2 := Mem3.below (by repeat (first | exact HM.out | apply Mem3.drew)) hb2
        have HM2 := Lib.hid hM2
        clear hM2 hb2 HM
        go_wp2_with fail
        have hk3 : k < 3 := by omega
        have hM3 := HM2.out.drew
        have hcc : w2.cell? ⟨w.heap.size + 1, k, none⟩ = some (vs k) := (HM2.out.blk.cell k).trans (tc3_at hk3)
        have hcf := HM2.out.blk.free k
        have hz2 : w.heap.size + 1 < w2.heap.size := HM2.out.blk.lt
        have hOW := Lib.hid (hM3.own.own k hk3)
        have hSG := Lib.hid (HSEG.out.below hM3.low)
        have HM3 := Lib.hid hM3
        clear hM3
        have hLk : (L k).length + q ≤ 4000 := by
          have h1 := congrArg List.length (HALL.out k)
          have h2 : (F k).length ≤ len := by
            rw [← HF.out]
            have h3 := thr_len (j := k) HD.out
            omega
          rw [List.length_append] at h1
          omega
        have htl : ((ns.drop i).take q).length = q := by
          rw [List.length_take, List.length_drop, HL.out]
          omega
        have HTL := Lib.hid htl
        have hif : (if c = i then some (⟨b, off, none⟩ : Addr) else some ⟨b, off + i * 19, none⟩) = some ⟨b, off + i * 19, none⟩ := if_neg (by omega)
        have HIF := Lib.hid hif
        have hcell : ∀ j u, (((ns.drop i).take q).flatMap ncs)[j]? = some u → w2.drew.cell? ⟨b, off + i * 19 + j, none⟩ = some u := by
          rw [flat_take ncs_length, flat_drop ncs_length]
          intro j u hu
          have := seg_cells (Seg.take (Seg.drop hSG.out (i * 19)) (q * 19)) j u hu
          have hadd : (⟨b, off + i * 19, none⟩ : Addr).add j = ⟨b, off + i * 19 + j, none⟩ := by unfold Addr.add; split <;> simp_all
          rwa [hadd] at this
        have HCELL := Lib.hid hcell
        clear htl hif hcell
        have hb2' : b < w2.heap.size := by omega
        have hi1 : (i : Int) + q ≤ len := by omega
        have hi2 : (i : Int) + q ≤ c := by omega
        have hi3 : (i : Int) ≤ i + q := by omega
        have hk3i : (k : Int) < 3 := by omega
        go_region_law (first
          | (refine step_append_at rfl (.tmp 35) (.tmp 39) rfl (w.heap.size + 2) ?_ (vs k) (L k).length ((L k).flatMap ncs) rfl hOW.out b (off + i * 19) (c - i) (((i : Int) + q).toNat - i) ((ns.drop i).take q) ?_ ?_ ?_ HCELL.out ?_ ?_; exact HM3.out.size2; (first | rfl | exact congrArg (fun p => Value.slice p (((i : Int) + q).toNat - i) (c - i)) HIF.out); (rw [HTL.out]; omega); exact .inr hb2'; (rw [HTL.out]; omega); intro v3 W3 hown3 hg3 hv3; obtain ⟨A3, c3, rfl⟩ := own_slice hown3; have HM4 := Lib.hid (HM3.out.grow hk3 hown3 hg3 hv3); have hB3 := HM3.out.blkGrown hk3 hg3; have hcc3 := (hB3.cell k).trans (tc3_at hk3); have hcf3 := hB3.free k; have hz3 := hB3.lt))
        have hlq : ((ns.drop i).take q).length = min q (ns.length - i) := by simp
        rw [hlq] at HM4
        clear hlq hcc hcf hcc3 hcf3 hz3 hB3 hg3 hv3 hown3 hOW hSG HCELL
        generalize W3.setCell ⟨w.heap.size + 1, k, none⟩ (.slice A3 ((L k).length + min q (ns.length - i)) c3) = W4 at HM4 ⊢
        generalize min q (ns.length - i) = qq at HM4 ⊢
        go_wp2_with fail
        go_roundw
        case rel =>
          refine ⟨k, i + q, by go_num, by go_num, by omega, tt, r', _, _, ?_, by omega, fun j => ?_, HM4.out⟩
          · have := HD1.out
            rwa [List.drop_drop] at this
          · have := HALL.out j
            obtain ⟨q, rfl⟩ : ∃ y, q = y + 1 := ⟨q - 1, by omega⟩
            simp only [thr, List.drop_drop] at this
            rw [← this]
            by_cases e : j = k
            · simp only [if_pos e, List.append_assoc]
              rw [e]
            · simp only [if_neg e, List.nil_append]
        case measure => simp [intOf]; omega
end Go.Proofs.YtmcekdjhkjhcdaaGreatDoor.No
end
section
namespace Go.Proofs.YtmcekdjhkjhcdaaGreatDoor.Sw
open Go.ChangeShapes Go.WideShapes Go.ChangeAt Go.RowKit
open Me Np Ss No
set_option linter.unusedVariables false
set_option linter.unusedSimpArgs false
theorem stand_no6 {l : List Nd} (hl : l.length ≤ 2000) : ∀ (ys : List Nat) (a : Nat), Stand l a ys → ∀ y ∈ ys, ∀ n, l[y]? = some n → ¬ n.kind = 6
  | [], a, h, y, hy, n, hn => by simp at hy
  | z :: ys, a, h, y, hy, n, hn => by
    obtain ⟨rfl, m0, hm0, _⟩ := h.its
    have hb := endc_bd hm0
    rw [List.length_drop] at hb
    obtain ⟨m, zs, x, he, hm, hm1, ham, hst, hci, hx, h6, h11⟩ := h.step hl (by omega)
    injection he with _ he
    subst he
    rcases List.mem_cons.1 hy with rfl | hy
    · rw [hx] at hn
      injection hn with hn
      subst hn
      exact h6
    · exact stand_no6 hl ys _ hst y hy n hn

theorem thr_chk_of {l : List Nd} {a m : Nat} {x : Nd} (hc : chk l = 0) (hx : l[a]? = some x) (hm : endc (l.drop a) 0 = some m) (hci : chk ((l.drop a).take m) = 0) (hle : a + m ≤ l.length) (h10 : x.kind = 10) (j : Nat) : chk (thr (ssD (l.drop (a + 1)) m) (l.drop (a + 1)) 0 j) = 0 := by
  have hl := (chk_run hc).1
  have hm1 := (endc_bd hm).1
  have h0 : ((l.drop a).take m)[0]? = some x := by
    rw [List.getElem?_take, if_pos (by omega), List.getElem?_drop]
    exact hx
  obtain ⟨h2, hd⟩ := ssD_is hc hx h10 hm
  obtain ⟨_, ss, hs⟩ := disc_steps hci h0 h10 (by rw [List.drop_zero]; exact endc_just hm)
  have happ : ((l.drop a).take m).drop 1 ++ (l.drop (a + 1)).drop (m - 1) = l.drop (a + 1) := by
    rw [List.drop_take, List.drop_drop, List.take_append_drop]
  have hs2 := D3.append ((l.drop (a + 1)).drop (m - 1)) hs
  rw [Nat.zero_add, happ] at hs2
  have he := D3.unique hd hs2
  have h1 := thr_append ((l.drop (a + 1)).drop (m - 1)) j hs
  rw [Nat.zero_add, happ] at h1
  rw [he, h1]
  exact disc_chk j hci h0 h10 hs (by omega)

set_option maxHeartbeats 8000000 in
set_option maxRecDepth 100000 in
theorem rline_1 (A : Option Addr) (ns : List Nd) (c a : Nat) (x : Nd) (w : World) (hseg : Seg w w.heap.size A (ns.flatMap ncs)) (hx : ns[a]? = some x) (hk : x.kind = 1) (hf0 : -9223372036854775807 ≤ x.font) (hf1 : x.font ≤ 9223372036854775807) (hc0 : 0 ≤ x.char) (hc1 : x.char < 256) :
    Calls Tryz.prog 33 #[.slice A ns.length c, .int .i64 (a : Int)] w fun e w' => e = .returned (.string (itT x.font ++ spK ++ byT x.char.toNat)) ∧ Below w.heap.size w w' := by
  obtain ⟨kc, hkc⟩ : ∃ kc : Nat, x.char = (kc : Int) := ⟨x.char.toNat, by omega⟩
  have HC2 := Lib.hid (fun (W : World) => rshown_any kc (by omega) W)
  rw [show x.char.toNat = kc by omega]
  have hz2 := byT_size kc
  generalize byT kc = T2 at *
  have HC1 := Lib.hid (fun (W : World) => rwhole_any x.font hf0 hf1 W)
  have hz1 := itT_size hf0 hf1
  generalize itT x.font = T1 at *
  obtain ⟨b, off, rfl, hb, hn⟩ := seg_node hseg hx
  have hal : (a : Int) < (ns.length : Int) := by have := (List.getElem?_eq_some_iff.1 hx).1; omega
  have e1 : (x.kind == 1) = true := by simp [hk]
  clear hx hseg
  generalize ns.length = ln at *
  go_enter Tryz.func33, Tryz.ntmps33
  go_upto_region 2 with (first | (refine wpList_load_node rfl _ rfl _ _ rfl _ hn ?_) | (refine wpList_alloc_node rfl rfl ?_) | (refine wpList_store_node rfl _ _ rfl _ _ _ rfl rfl _ (by repeat (first | (apply Blk.new'; first | rfl | (simp; done)) | assumption | apply Blk.alloc)) ?_))
  rw [setRow_new _ _ _ _ _ rfl]
  have hH0 : Hd w w.heap.size x (w.alloc (.cells (nc x) 36)) := ⟨(Blk.new w 36 (nc x)).node, by simp, andAlloc (Below.refl w.heap.size w) _⟩
  generalize w.alloc (.cells (nc x) 36) = W at hH0 ⊢
  generalize hg : w.heap.size = g0 at hH0 ⊢
  have k0 := hH0.at (j := 0) rfl
  clear hn hb
  go_upto_region 4 with fail
  clear k0
  refine wp_region_held_drew (S := Hd w g0 x) (by kernel_rfl) (hH0.drew) (fun hH => ?_)
  refine take_lit (i := 0) (v := (.pointer (some ⟨g0, 1, none⟩))) (by kernel_rfl) (by kernel_rfl) (by kernel_rfl) (by kernel_rfl) (fun _ _ _ _ h => h) hH (fun oi hoi => ?_)
  simp only [List.getElem?_toArray, List.getElem?_cons_succ, List.getElem?_cons_zero, Option.some.injEq] at hoi
  subst hoi
  refine ⟨.inl ⟨by rfl, fun w hSw => ?_⟩, ?_⟩
  · skip
    first | (go_simp; done) | (go_simp; omega) | (go_simp; with_reducible rfl) | (go_simp; kernel_rfl)
  simp only [Act.put, List.setIfInBounds_toArray, List.set_cons_zero, List.set_cons_succ]
  refine take_lit (i := 1) (v := (.int .i64 (x.font))) (by kernel_rfl) (by kernel_rfl) (by kernel_rfl) (by kernel_rfl) (fun _ _ _ _ h => h) hH (fun oi hoi => ?_)
  simp only [List.getElem?_toArray, List.getElem?_cons_succ, List.getElem?_cons_zero, Option.some.injEq] at hoi
  subst hoi
  refine ⟨.inl ⟨by rfl, fun w hSw => ?_⟩, ?_⟩
  · skip
    have z := hSw.at (j := 1) rfl
    first | (go_simp; done) | (go_simp; omega) | (go_simp; with_reducible rfl) | (go_simp; kernel_rfl)
  simp only [Act.put, List.setIfInBounds_toArray, List.set_cons_zero, List.set_cons_succ]
  refine take_lit (i := 4) (v := (.pointer (some ⟨g0, 2, none⟩))) (by kernel_rfl) (by kernel_rfl) (by kernel_rfl) (by kernel_rfl) (fun _ _ _ _ h => h) hH (fun oi hoi => ?_)
  simp only [List.getElem?_toArray, List.getElem?_cons_succ, List.getElem?_cons_zero, Option.some.injEq] at hoi
  subst hoi
  refine ⟨.inl ⟨by rfl, fun w hSw => ?_⟩, ?_⟩
  · skip
    first | (go_simp; done) | (go_simp; omega) | (go_simp; with_reducible rfl) | (go_simp; kernel_rfl)
  simp only [Act.put, List.setIfInBounds_toArray, List.set_cons_zero, List.set_cons_succ]
  refine take_lit (i := 5) (v := (.int .u8 ((kc : Int)))) (by kernel_rfl) (by kernel_rfl) (by kernel_rfl) (by kernel_rfl) (fun _ _ _ _ h => h) hH (fun oi hoi => ?_)
  simp only [List.getElem?_toArray, List.getElem?_cons_succ, List.getElem?_cons_zero, Option.some.injEq] at hoi
  subst hoi
  refine ⟨.inl ⟨by rfl, fun w hSw => ?_⟩, ?_⟩
  · skip
    have z := hSw.at (j := 2) (u := .int .u8 (kc : Int)) (by rw [← hkc]; rfl)
    first | (go_simp; done) | (go_simp; omega) | (go_simp; with_reducible rfl) | (go_simp; kernel_rfl)
  simp only [Act.put, List.setIfInBounds_toArray, List.set_cons_zero, List.set_cons_succ]
  refine wpAnyH_ready (rs := [2]) (by kernel_rfl) (by simp) (AllReadyH.cons rfl (fun K hK => ?_) AllReadyH.nil)
  go_simp
  go_wp2_with fail
  refine (HC1.out _).mono ?_
  rintro e w_1 ⟨rfl, hb_1⟩
  refine hK.out _ _ (hH.keep hb_1) (fun hH1 => ?_)
  try simp only [Act.put, List.setIfInBounds_toArray, List.set_cons_zero, List.set_cons_succ]
  clear hK K
  refine take_lit (i := 3) (v := (.string (T1 ++ ⟨#[32]⟩))) (by kernel_rfl) (by kernel_rfl) (by kernel_rfl) (by kernel_rfl) (fun _ _ _ _ h => h) hH1 (fun oi hoi => ?_)
  simp only [List.getElem?_toArray, List.getElem?_cons_succ, List.getElem?_cons_zero, Option.some.injEq] at hoi
  subst hoi
  refine ⟨.inl ⟨by rfl, fun w hSw => ?_⟩, ?_⟩
  · skip
    have hz : ¬ 9223372036854775807 < (T1 : ByteArray).size + (⟨#[32]⟩ : ByteArray).size := by (try simp only [ByteArray.size_append]); have q0 : (⟨#[32]⟩ : ByteArray).size = 1 := rfl; omega
    first | (go_simp; done) | (go_simp; omega) | (go_simp; with_reducible rfl) | (go_simp; kernel_rfl)
  simp only [Act.put, List.setIfInBounds_toArray, List.set_cons_zero, List.set_cons_succ]
  refine wpAnyH_ready (rs := [6]) (by kernel_rfl) (by simp) (AllReadyH.cons rfl (fun K hK => ?_) AllReadyH.nil)
  go_simp
  go_wp2_with fail
  refine (HC2.out _).mono ?_
  rintro e w_2 ⟨rfl, hb_2⟩
  refine hK.out _ _ (hH1.keep hb_2) (fun hH2 => ?_)
  try simp only [Act.put, List.setIfInBounds_toArray, List.set_cons_zero, List.set_cons_succ]
  clear hK K
  refine take_lit (i := 7) (v := (.string ((T1 ++ ⟨#[32]⟩) ++ T2))) (by kernel_rfl) (by kernel_rfl) (by kernel_rfl) (by kernel_rfl) (fun _ _ _ _ h => h) hH2 (fun oi hoi => ?_)
  simp only [List.getElem?_toArray, List.getElem?_cons_succ, List.getElem?_cons_zero, Option.some.injEq] at hoi
  subst hoi
  refine ⟨.inl ⟨by rfl, fun w hSw => ?_⟩, ?_⟩
  · skip
    have hz : ¬ 9223372036854775807 < (T1 ++ ⟨#[32]⟩ : ByteArray).size + (T2 : ByteArray).size := by (try simp only [ByteArray.size_append]); have q0 : (⟨#[32]⟩ : ByteArray).size = 1 := rfl; omega
    first | (go_simp; done) | (go_simp; omega) | (go_simp; with_reducible rfl) | (go_simp; kernel_rfl)
  simp only [Act.put, List.setIfInBounds_toArray, List.set_cons_zero, List.set_cons_succ]
  refine take_lit (i := 8) (v := (.string ((T1 ++ ⟨#[32]⟩) ++ T2))) (by kernel_rfl) (by kernel_rfl) (by kernel_rfl) (by kernel_rfl) (fun _ _ _ _ h => h) hH2 (fun oi hoi => ?_)
  simp only [List.getElem?_toArray, List.getElem?_cons_succ, List.getElem?_cons_zero, Option.some.injEq] at hoi
  subst hoi
  refine ⟨.inl ⟨by rfl, fun w hSw => ?_⟩, ?_⟩
  · skip
    first | (go_simp; done) | (go_simp; omega) | (go_simp; with_reducible rfl) | (go_simp; kernel_rfl)
  simp only [Act.put, List.setIfInBounds_toArray, List.set_cons_zero, List.set_cons_succ]
  refine wpAnyH_done (by kernel_rfl) ?_ _
  go_wp2_with fail
  go_ret
  subst hg
  exact ⟨rfl, hH2.2.2⟩
set_option maxHeartbeats 8000000 in
set_option maxRecDepth 100000 in
theorem rline_2 (A : Option Addr) (ns : List Nd) (c a : Nat) (x : Nd) (w : World) (hseg : Seg w w.heap.size A (ns.flatMap ncs)) (hx : ns[a]? = some x) (hk : x.kind = 2) (hf0 : -9223372036854775807 ≤ x.font) (hf1 : x.font ≤ 9223372036854775807) (hc0 : 0 ≤ x.char) (hc1 : x.char < 256) (htx : x.text.size ≤ 1000) :
    Calls Tryz.prog 33 #[.slice A ns.length c, .int .i64 (a : Int)] w fun e w' => e = .returned (.string (itT x.font ++ spK ++ byT x.char.toNat ++ ligK ++ byA x.text.data.toList ++ clK)) ∧ Below w.heap.size w w' := by
  obtain ⟨s, hs⟩ : ∃ s, x.text = s := ⟨_, rfl⟩
  have hst : s.size ≤ 1000 := by rw [← hs]; exact htx
  have HTX := Lib.hid (show (nc x).toList[18]? = some (.string s) by rw [← hs]; rfl)
  rw [hs]
  clear htx hs
  obtain ⟨kc, hkc⟩ : ∃ kc : Nat, x.char = (kc : Int) := ⟨x.char.toNat, by omega⟩
  have HC2 := Lib.hid (fun (W : World) => rshown_any kc (by omega) W)
  rw [show x.char.toNat = kc by omega]
  have hz2 := byT_size kc
  generalize byT kc = T2 at *
  have HC1 := Lib.hid (fun (W : World) => rwhole_any x.font hf0 hf1 W)
  have hz1 := itT_size hf0 hf1
  generalize itT x.font = T1 at *
  obtain ⟨b, off, rfl, hb, hn⟩ := seg_node hseg hx
  have hal : (a : Int) < (ns.length : Int) := by have := (List.getElem?_eq_some_iff.1 hx).1; omega
  have e1 : (x.kind == 1) = false := by simp [hk]
  have e2 : (x.kind == 2) = true := by simp [hk]
  clear hx hseg
  generalize ns.length = ln at *
  go_enter Tryz.func33, Tryz.ntmps33
  go_upto_region 2 with (first | (refine wpList_load_node rfl _ rfl _ _ rfl _ hn ?_) | (refine wpList_alloc_node rfl rfl ?_) | (refine wpList_store_node rfl _ _ rfl _ _ _ rfl rfl _ (by repeat (first | (apply Blk.new'; first | rfl | (simp; done)) | assumption | apply Blk.alloc)) ?_))
  rw [setRow_new _ _ _ _ _ rfl]
  have hH0 : Hd w w.heap.size x (w.alloc (.cells (nc x) 36)) := ⟨(Blk.new w 36 (nc x)).node, by simp, andAlloc (Below.refl w.heap.size w) _⟩
  generalize w.alloc (.cells (nc x) 36) = W at hH0 ⊢
  generalize hg : w.heap.size = g0 at hH0 ⊢
  have k0 := hH0.at (j := 0) rfl
  clear hn hb
  go_upto_region 6 with fail
  clear k0
  refine wp_region_held_drew (S := Hd w g0 x) (by kernel_rfl) (hH0.drew) (fun hH => ?_)
  refine take_lit (i := 0) (v := (.pointer (some ⟨g0, 1, none⟩))) (by kernel_rfl) (by kernel_rfl) (by kernel_rfl) (by kernel_rfl) (fun _ _ _ _ h => h) hH (fun oi hoi => ?_)
  simp only [List.getElem?_toArray, List.getElem?_cons_succ, List.getElem?_cons_zero, Option.some.injEq] at hoi
  subst hoi
  refine ⟨.inl ⟨by rfl, fun w hSw => ?_⟩, ?_⟩
  · skip
    first | (go_simp; done) | (go_simp; omega) | (go_simp; with_reducible rfl) | (go_simp; kernel_rfl)
  simp only [Act.put, List.setIfInBounds_toArray, List.set_cons_zero, List.set_cons_succ]
  refine take_lit (i := 1) (v := (.int .i64 (x.font))) (by kernel_rfl) (by kernel_rfl) (by kernel_rfl) (by kernel_rfl) (fun _ _ _ _ h => h) hH (fun oi hoi => ?_)
  simp only [List.getElem?_toArray, List.getElem?_cons_succ, List.getElem?_cons_zero, Option.some.injEq] at hoi
  subst hoi
  refine ⟨.inl ⟨by rfl, fun w hSw => ?_⟩, ?_⟩
  · skip
    have z := hSw.at (j := 1) rfl
    first | (go_simp; done) | (go_simp; omega) | (go_simp; with_reducible rfl) | (go_simp; kernel_rfl)
  simp only [Act.put, List.setIfInBounds_toArray, List.set_cons_zero, List.set_cons_succ]
  refine take_lit (i := 4) (v := (.pointer (some ⟨g0, 2, none⟩))) (by kernel_rfl) (by kernel_rfl) (by kernel_rfl) (by kernel_rfl) (fun _ _ _ _ h => h) hH (fun oi hoi => ?_)
  simp only [List.getElem?_toArray, List.getElem?_cons_succ, List.getElem?_cons_zero, Option.some.injEq] at hoi
  subst hoi
  refine ⟨.inl ⟨by rfl, fun w hSw => ?_⟩, ?_⟩
  · skip
    first | (go_simp; done) | (go_simp; omega) | (go_simp; with_reducible rfl) | (go_simp; kernel_rfl)
  simp only [Act.put, List.setIfInBounds_toArray, List.set_cons_zero, List.set_cons_succ]
  refine take_lit (i := 5) (v := (.int .u8 ((kc : Int)))) (by kernel_rfl) (by kernel_rfl) (by kernel_rfl) (by kernel_rfl) (fun _ _ _ _ h => h) hH (fun oi hoi => ?_)
  simp only [List.getElem?_toArray, List.getElem?_cons_succ, List.getElem?_cons_zero, Option.some.injEq] at hoi
  subst hoi
  refine ⟨.inl ⟨by rfl, fun w hSw => ?_⟩, ?_⟩
  · skip
    have z := hSw.at (j := 2) (u := .int .u8 (kc : Int)) (by rw [← hkc]; rfl)
    first | (go_simp; done) | (go_simp; omega) | (go_simp; with_reducible rfl) | (go_simp; kernel_rfl)
  simp only [Act.put, List.setIfInBounds_toArray, List.set_cons_zero, List.set_cons_succ]
  refine wpAnyH_ready (rs := [2]) (by kernel_rfl) (by simp) (AllReadyH.cons rfl (fun K hK => ?_) AllReadyH.nil)
  go_simp
  go_wp2_with fail
  refine (HC1.out _).mono ?_
  rintro e w_1 ⟨rfl, hb_1⟩
  refine hK.out _ _ (hH.keep hb_1) (fun hH1 => ?_)
  try simp only [Act.put, List.setIfInBounds_toArray, List.set_cons_zero, List.set_cons_succ]
  clear hK K
  refine take_lit (i := 3) (v := (.string (T1 ++ ⟨#[32]⟩))) (by kernel_rfl) (by kernel_rfl) (by kernel_rfl) (by kernel_rfl) (fun _ _ _ _ h => h) hH1 (fun oi hoi => ?_)
  simp only [List.getElem?_toArray, List.getElem?_cons_succ, List.getElem?_cons_zero, Option.some.injEq] at hoi
  subst hoi
  refine ⟨.inl ⟨by rfl, fun w hSw => ?_⟩, ?_⟩
  · skip
    have hz : ¬ 9223372036854775807 < (T1 : ByteArray).size + (⟨#[32]⟩ : ByteArray).size := by (try simp only [ByteArray.size_append]); have q0 : (⟨#[32]⟩ : ByteArray).size = 1 := rfl; omega
    first | (go_simp; done) | (go_simp; omega) | (go_simp; with_reducible rfl) | (go_simp; kernel_rfl)
  simp only [Act.put, List.setIfInBounds_toArray, List.set_cons_zero, List.set_cons_succ]
  refine wpAnyH_ready (rs := [6]) (by kernel_rfl) (by simp) (AllReadyH.cons rfl (fun K hK => ?_) AllReadyH.nil)
  go_simp
  go_wp2_with fail
  refine (HC2.out _).mono ?_
  rintro e w_2 ⟨rfl, hb_2⟩
  refine hK.out _ _ (hH1.keep hb_2) (fun hH2 => ?_)
  try simp only [Act.put, List.setIfInBounds_toArray, List.set_cons_zero, List.set_cons_succ]
  clear hK K
  refine take_lit (i := 7) (v := (.string ((T1 ++ ⟨#[32]⟩) ++ T2))) (by kernel_rfl) (by kernel_rfl) (by kernel_rfl) (by kernel_rfl) (fun _ _ _ _ h => h) hH2 (fun oi hoi => ?_)
  simp only [List.getElem?_toArray, List.getElem?_cons_succ, List.getElem?_cons_zero, Option.some.injEq] at hoi
  subst hoi
  refine ⟨.inl ⟨by rfl, fun w hSw => ?_⟩, ?_⟩
  · skip
    have hz : ¬ 9223372036854775807 < (T1 ++ ⟨#[32]⟩ : ByteArray).size + (T2 : ByteArray).size := by (try simp only [ByteArray.size_append]); have q0 : (⟨#[32]⟩ : ByteArray).size = 1 := rfl; omega
    first | (go_simp; done) | (go_simp; omega) | (go_simp; with_reducible rfl) | (go_simp; kernel_rfl)
  simp only [Act.put, List.setIfInBounds_toArray, List.set_cons_zero, List.set_cons_succ]
  refine take_lit (i := 8) (v := (.string (((T1 ++ ⟨#[32]⟩) ++ T2) ++ ⟨#[32, 40, 108, 105, 103, 97, 116, 117, 114, 101, 32]⟩))) (by kernel_rfl) (by kernel_rfl) (by kernel_rfl) (by kernel_rfl) (fun _ _ _ _ h => h) hH2 (fun oi hoi => ?_)
  simp only [List.getElem?_toArray, List.getElem?_cons_succ, List.getElem?_cons_zero, Option.some.injEq] at hoi
  subst hoi
  refine ⟨.inl ⟨by rfl, fun w hSw => ?_⟩, ?_⟩
  · skip
    have hz : ¬ 9223372036854775807 < ((T1 ++ ⟨#[32]⟩) ++ T2 : ByteArray).size + (⟨#[32, 40, 108, 105, 103, 97, 116, 117, 114, 101, 32]⟩ : ByteArray).size := by (try simp only [ByteArray.size_append]); have q0 : (⟨#[32, 40, 108, 105, 103, 97, 116, 117, 114, 101, 32]⟩ : ByteArray).size = 11 := rfl; have q1 : (⟨#[32]⟩ : ByteArray).size = 1 := rfl; omega
    first | (go_simp; done) | (go_simp; omega) | (go_simp; with_reducible rfl) | (go_simp; kernel_rfl)
  simp only [Act.put, List.setIfInBounds_toArray, List.set_cons_zero, List.set_cons_succ]
  refine take_lit (i := 9) (v := (.string (((T1 ++ ⟨#[32]⟩) ++ T2) ++ ⟨#[32, 40, 108, 105, 103, 97, 116, 117, 114, 101, 32]⟩))) (by kernel_rfl) (by kernel_rfl) (by kernel_rfl) (by kernel_rfl) (fun _ _ _ _ h => h) hH2 (fun oi hoi => ?_)
  simp only [List.getElem?_toArray, List.getElem?_cons_succ, List.getElem?_cons_zero, Option.some.injEq] at hoi
  subst hoi
  refine ⟨.inl ⟨by rfl, fun w hSw => ?_⟩, ?_⟩
  · skip
    first | (go_simp; done) | (go_simp; omega) | (go_simp; with_reducible rfl) | (go_simp; kernel_rfl)
  simp only [Act.put, List.setIfInBounds_toArray, List.set_cons_zero, List.set_cons_succ]
  refine wpAnyH_done (by kernel_rfl) ?_ _
  clear hH hH1
  generalize hT9 : T1 ++ ⟨#[32]⟩ ++ T2 ++ ⟨#[32, 40, 108, 105, 103, 97, 116, 117, 114, 101, 32]⟩ = T9 at *
  have hz9 : T9.size ≤ 100 := by rw [← hT9]; simp only [ByteArray.size_append]; show _ + 1 + _ + 11 ≤ _; omega
  have HT9 := Lib.hid hT9
  clear hT9
  have HH := Lib.hid hH2
  have k18 := HH.out.at HTX.out
  clear hH2
  go_wp2_with fail
  go_loopw [6, 7] (fun v6 v7 wr => ∃ i : Nat, i ≤ s.size ∧ v7 = .int .i64 (i : Int) ∧ v6 = .string (T9 ++ byA (s.data.toList.take i)) ∧ Hd w g0 x wr) (fun _ v7 _ => s.size - (intOf v7).toNat)
  case atStart => exact ⟨0, by omega, rfl, congrArg Value.string (show T9 = T9 ++ ⟨#[]⟩ from ByteArray.append_empty.symm), HH.out⟩
  case round =>
    obtain ⟨i, hi, rfl, rfl, hH⟩ := hrel
    have k18 := hH.at HTX.out
    have HH3 := Lib.hid hH
    clear hH
    by_cases hlt : i < s.size
    · have hii : (i : Int) < (s.size : Int) := by omega
      have HBY := Lib.hid (fun w => rshown_any s[i].toNat (UInt8.toNat_lt _) w)
      have hi3 : i < s.data.toList.length := by rw [Array.length_toList]; exact hlt
      have HNX := Lib.hid (show T9 ++ byA (s.data.toList.take i) ++ byT s[i].toNat = T9 ++ byA (s.data.toList.take (i + 1)) by
        rw [List.take_add_one, List.getElem?_eq_getElem hi3, byA_append, ByteArray.append_assoc]
        show _ = T9 ++ (_ ++ (byT s[i].toNat ++ ⟨#[]⟩))
        rw [show (byT s[i].toNat ++ ⟨#[]⟩ : ByteArray) = byT s[i].toNat from ByteArray.append_empty])
      have h1 := byA_size (s.data.toList.take i)
      have h2 := byT_size s[i].toNat
      have h3 : (s.data.toList.take i).length ≤ i := by rw [List.length_take]; omega
      have h4 : (T9 ++ byA (s.data.toList.take i)).size ≤ 100 + 4 * i := by rw [ByteArray.size_append]; omega
      generalize T9 ++ byA (s.data.toList.take i) = T at *
      generalize byT s[i].toNat = U at *
      have hz : ¬ 9223372036854775807 < T.size + U.size := by omega
      go_wp2_with fail
      refine (HBY.out _).mono ?_
      rintro e w2 ⟨rfl, hb2⟩
      have HB2 := Lib.hid (HH3.out.keep hb2)
      clear hb2
      go_wp2_with fail
      go_roundw
      case rel => exact ⟨i + 1, by omega, by go_num, by rw [HNX.out], HB2.out⟩
      case measure => simp [intOf]; omega
    · obtain rfl : i = s.size := by omega
      have h1 := byA_size s.data.toList
      rw [List.take_of_length_le (by rw [Array.length_toList]; exact Nat.le_refl _)]
      rw [Array.length_toList] at h1
      have h3 : s.data.size ≤ 1000 := hst
      have hz : ¬ 9223372036854775807 < (T9 ++ byA s.data.toList).size + (⟨#[41]⟩ : ByteArray).size := by rw [ByteArray.size_append]; show ¬ 9223372036854775807 < _ + _ + 1; omega
      clear h1 h3
      go_wp2_with fail
      go_ret
      subst hg
      have hT9 := HT9.out
      subst hT9
      exact ⟨rfl, HH3.out.2.2⟩
set_option maxHeartbeats 8000000 in
set_option maxRecDepth 100000 in
theorem rline_30 (A : Option Addr) (ns : List Nd) (c a : Nat) (x : Nd) (w : World) (hseg : Seg w w.heap.size A (ns.flatMap ncs)) (hx : ns[a]? = some x) (hk : x.kind = 3) (hs : x.sub = 0) :
    Calls Tryz.prog 33 #[.slice A ns.length c, .int .i64 (a : Int)] w fun e w' => e = .returned (.string (rulK ++ starT x.ht false ++ pluK ++ starT x.dp false ++ cxK ++ starT x.wd false)) ∧ Below w.heap.size w w' := by
  have HC1 := Lib.hid (fun (W : World) => rstar_any x.ht false W)
  have hz1 := starT_size x.ht false
  generalize starT x.ht false = T1 at *
  have HC2 := Lib.hid (fun (W : World) => rstar_any x.dp false W)
  have hz2 := starT_size x.dp false
  generalize starT x.dp false = T2 at *
  have HC3 := Lib.hid (fun (W : World) => rstar_any x.wd false W)
  have hz3 := starT_size x.wd false
  generalize starT x.wd false = T3 at *
  obtain ⟨b, off, rfl, hb, hn⟩ := seg_node hseg hx
  have hal : (a : Int) < (ns.length : Int) := by have := (List.getElem?_eq_some_iff.1 hx).1; omega
  have e1 : (x.kind == 1) = false := by simp [hk]
  have e2 : (x.kind == 2) = false := by simp [hk]
  have e3 : (x.kind == 3) = true := by simp [hk]
  clear hx hseg
  generalize ns.length = ln at *
  go_enter Tryz.func33, Tryz.ntmps33
  go_upto_region 2 with (first | (refine wpList_load_node rfl _ rfl _ _ rfl _ hn ?_) | (refine wpList_alloc_node rfl rfl ?_) | (refine wpList_store_node rfl _ _ rfl _ _ _ rfl rfl _ (by repeat (first | (apply Blk.new'; first | rfl | (simp; done)) | assumption | apply Blk.alloc)) ?_))
  rw [setRow_new _ _ _ _ _ rfl]
  have hH0 : Hd w w.heap.size x (w.alloc (.cells (nc x) 36)) := ⟨(Blk.new w 36 (nc x)).node, by simp, andAlloc (Below.refl w.heap.size w) _⟩
  generalize w.alloc (.cells (nc x) 36) = W at hH0 ⊢
  generalize hg : w.heap.size = g0 at hH0 ⊢
  have k0 := hH0.at (j := 0) rfl
  clear hn hb
  go_upto_region 13 with fail
  clear k0
  refine wp_region_held_drew (S := Hd w g0 x) (by kernel_rfl) (hH0.drew) (fun hH => ?_)
  refine take_lit (i := 0) (v := (.pointer (some ⟨g0, 4, none⟩))) (by kernel_rfl) (by kernel_rfl) (by kernel_rfl) (by kernel_rfl) (fun _ _ _ _ h => h) hH (fun oi hoi => ?_)
  simp only [List.getElem?_toArray, List.getElem?_cons_succ, List.getElem?_cons_zero, Option.some.injEq] at hoi
  subst hoi
  refine ⟨.inl ⟨by rfl, fun w hSw => ?_⟩, ?_⟩
  · skip
    first | (go_simp; done) | (go_simp; omega) | (go_simp; with_reducible rfl) | (go_simp; kernel_rfl)
  simp only [Act.put, List.setIfInBounds_toArray, List.set_cons_zero, List.set_cons_succ]
  refine take_lit (i := 1) (v := (.int .i64 (x.ht))) (by kernel_rfl) (by kernel_rfl) (by kernel_rfl) (by kernel_rfl) (fun _ _ _ _ h => h) hH (fun oi hoi => ?_)
  simp only [List.getElem?_toArray, List.getElem?_cons_succ, List.getElem?_cons_zero, Option.some.injEq] at hoi
  subst hoi
  refine ⟨.inl ⟨by rfl, fun w hSw => ?_⟩, ?_⟩
  · skip
    have z := hSw.at (j := 4) rfl
    first | (go_simp; done) | (go_simp; omega) | (go_simp; with_reducible rfl) | (go_simp; kernel_rfl)
  simp only [Act.put, List.setIfInBounds_toArray, List.set_cons_zero, List.set_cons_succ]
  refine take_lit (i := 2) (v := (.pointer (some ⟨g0, 17, none⟩))) (by kernel_rfl) (by kernel_rfl) (by kernel_rfl) (by kernel_rfl) (fun _ _ _ _ h => h) hH (fun oi hoi => ?_)
  simp only [List.getElem?_toArray, List.getElem?_cons_succ, List.getElem?_cons_zero, Option.some.injEq] at hoi
  subst hoi
  refine ⟨.inl ⟨by rfl, fun w hSw => ?_⟩, ?_⟩
  · skip
    first | (go_simp; done) | (go_simp; omega) | (go_simp; with_reducible rfl) | (go_simp; kernel_rfl)
  simp only [Act.put, List.setIfInBounds_toArray, List.set_cons_zero, List.set_cons_succ]
  refine take_lit (i := 3) (v := (.int .i64 (0))) (by kernel_rfl) (by kernel_rfl) (by kernel_rfl) (by kernel_rfl) (fun _ _ _ _ h => h) hH (fun oi hoi => ?_)
  simp only [List.getElem?_toArray, List.getElem?_cons_succ, List.getElem?_cons_zero, Option.some.injEq] at hoi
  subst hoi
  refine ⟨.inl ⟨by rfl, fun w hSw => ?_⟩, ?_⟩
  · skip
    have z := hSw.at (j := 17) (u := .int .i64 0) (by rw [← hs]; rfl)
    first | (go_simp; done) | (go_simp; omega) | (go_simp; with_reducible rfl) | (go_simp; kernel_rfl)
  simp only [Act.put, List.setIfInBounds_toArray, List.set_cons_zero, List.set_cons_succ]
  refine take_lit (i := 4) (v := (.bool false)) (by kernel_rfl) (by kernel_rfl) (by kernel_rfl) (by kernel_rfl) (fun _ _ _ _ h => h) hH (fun oi hoi => ?_)
  simp only [List.getElem?_toArray, List.getElem?_cons_succ, List.getElem?_cons_zero, Option.some.injEq] at hoi
  subst hoi
  refine ⟨.inl ⟨by rfl, fun w hSw => ?_⟩, ?_⟩
  · skip
    first | (go_simp; done) | (go_simp; omega) | (go_simp; with_reducible rfl) | (go_simp; kernel_rfl)
  simp only [Act.put, List.setIfInBounds_toArray, List.set_cons_zero, List.set_cons_succ]
  refine take_lit (i := 8) (v := (.pointer (some ⟨g0, 5, none⟩))) (by kernel_rfl) (by kernel_rfl) (by kernel_rfl) (by kernel_rfl) (fun _ _ _ _ h => h) hH (fun oi hoi => ?_)
  simp only [List.getElem?_toArray, List.getElem?_cons_succ, List.getElem?_cons_zero, Option.some.injEq] at hoi
  subst hoi
  refine ⟨.inl ⟨by rfl, fun w hSw => ?_⟩, ?_⟩
  · skip
    first | (go_simp; done) | (go_simp; omega) | (go_simp; with_reducible rfl) | (go_simp; kernel_rfl)
  simp only [Act.put, List.setIfInBounds_toArray, List.set_cons_zero, List.set_cons_succ]
  refine take_lit (i := 9) (v := (.int .i64 (x.dp))) (by kernel_rfl) (by kernel_rfl) (by kernel_rfl) (by kernel_rfl) (fun _ _ _ _ h => h) hH (fun oi hoi => ?_)
  simp only [List.getElem?_toArray, List.getElem?_cons_succ, List.getElem?_cons_zero, Option.some.injEq] at hoi
  subst hoi
  refine ⟨.inl ⟨by rfl, fun w hSw => ?_⟩, ?_⟩
  · skip
    have z := hSw.at (j := 5) rfl
    first | (go_simp; done) | (go_simp; omega) | (go_simp; with_reducible rfl) | (go_simp; kernel_rfl)
  simp only [Act.put, List.setIfInBounds_toArray, List.set_cons_zero, List.set_cons_succ]
  refine take_lit (i := 10) (v := (.pointer (some ⟨g0, 17, none⟩))) (by kernel_rfl) (by kernel_rfl) (by kernel_rfl) (by kernel_rfl) (fun _ _ _ _ h => h) hH (fun oi hoi => ?_)
  simp only [List.getElem?_toArray, List.getElem?_cons_succ, List.getElem?_cons_zero, Option.some.injEq] at hoi
  subst hoi
  refine ⟨.inl ⟨by rfl, fun w hSw => ?_⟩, ?_⟩
  · skip
    first | (go_simp; done) | (go_simp; omega) | (go_simp; with_reducible rfl) | (go_simp; kernel_rfl)
  simp only [Act.put, List.setIfInBounds_toArray, List.set_cons_zero, List.set_cons_succ]
  refine take_lit (i := 11) (v := (.int .i64 (0))) (by kernel_rfl) (by kernel_rfl) (by kernel_rfl) (by kernel_rfl) (fun _ _ _ _ h => h) hH (fun oi hoi => ?_)
  simp only [List.getElem?_toArray, List.getElem?_cons_succ, List.getElem?_cons_zero, Option.some.injEq] at hoi
  subst hoi
  refine ⟨.inl ⟨by rfl, fun w hSw => ?_⟩, ?_⟩
  · skip
    have z := hSw.at (j := 17) (u := .int .i64 0) (by rw [← hs]; rfl)
    first | (go_simp; done) | (go_simp; omega) | (go_simp; with_reducible rfl) | (go_simp; kernel_rfl)
  simp only [Act.put, List.setIfInBounds_toArray, List.set_cons_zero, List.set_cons_succ]
  refine take_lit (i := 12) (v := (.bool false)) (by kernel_rfl) (by kernel_rfl) (by kernel_rfl) (by kernel_rfl) (fun _ _ _ _ h => h) hH (fun oi hoi => ?_)
  simp only [List.getElem?_toArray, List.getElem?_cons_succ, List.getElem?_cons_zero, Option.some.injEq] at hoi
  subst hoi
  refine ⟨.inl ⟨by rfl, fun w hSw => ?_⟩, ?_⟩
  · skip
    first | (go_simp; done) | (go_simp; omega) | (go_simp; with_reducible rfl) | (go_simp; kernel_rfl)
  simp only [Act.put, List.setIfInBounds_toArray, List.set_cons_zero, List.set_cons_succ]
  refine take_lit (i := 16) (v := (.pointer (some ⟨g0, 3, none⟩))) (by kernel_rfl) (by kernel_rfl) (by kernel_rfl) (by kernel_rfl) (fun _ _ _ _ h => h) hH (fun oi hoi => ?_)
  simp only [List.getElem?_toArray, List.getElem?_cons_succ, List.getElem?_cons_zero, Option.some.injEq] at hoi
  subst hoi
  refine ⟨.inl ⟨by rfl, fun w hSw => ?_⟩, ?_⟩
  · skip
    first | (go_simp; done) | (go_simp; omega) | (go_simp; with_reducible rfl) | (go_simp; kernel_rfl)
  simp only [Act.put, List.setIfInBounds_toArray, List.set_cons_zero, List.set_cons_succ]
  refine take_lit (i := 17) (v := (.int .i64 (x.wd))) (by kernel_rfl) (by kernel_rfl) (by kernel_rfl) (by kernel_rfl) (fun _ _ _ _ h => h) hH (fun oi hoi => ?_)
  simp only [List.getElem?_toArray, List.getElem?_cons_succ, List.getElem?_cons_zero, Option.some.injEq] at hoi
  subst hoi
  refine ⟨.inl ⟨by rfl, fun w hSw => ?_⟩, ?_⟩
  · skip
    have z := hSw.at (j := 3) rfl
    first | (go_simp; done) | (go_simp; omega) | (go_simp; with_reducible rfl) | (go_simp; kernel_rfl)
  simp only [Act.put, List.setIfInBounds_toArray, List.set_cons_zero, List.set_cons_succ]
  refine take_lit (i := 18) (v := (.pointer (some ⟨g0, 17, none⟩))) (by kernel_rfl) (by kernel_rfl) (by kernel_rfl) (by kernel_rfl) (fun _ _ _ _ h => h) hH (fun oi hoi => ?_)
  simp only [List.getElem?_toArray, List.getElem?_cons_succ, List.getElem?_cons_zero, Option.some.injEq] at hoi
  subst hoi
  refine ⟨.inl ⟨by rfl, fun w hSw => ?_⟩, ?_⟩
  · skip
    first | (go_simp; done) | (go_simp; omega) | (go_simp; with_reducible rfl) | (go_simp; kernel_rfl)
  simp only [Act.put, List.setIfInBounds_toArray, List.set_cons_zero, List.set_cons_succ]
  refine take_lit (i := 19) (v := (.int .i64 (0))) (by kernel_rfl) (by kernel_rfl) (by kernel_rfl) (by kernel_rfl) (fun _ _ _ _ h => h) hH (fun oi hoi => ?_)
  simp only [List.getElem?_toArray, List.getElem?_cons_succ, List.getElem?_cons_zero, Option.some.injEq] at hoi
  subst hoi
  refine ⟨.inl ⟨by rfl, fun w hSw => ?_⟩, ?_⟩
  · skip
    have z := hSw.at (j := 17) (u := .int .i64 0) (by rw [← hs]; rfl)
    first | (go_simp; done) | (go_simp; omega) | (go_simp; with_reducible rfl) | (go_simp; kernel_rfl)
  simp only [Act.put, List.setIfInBounds_toArray, List.set_cons_zero, List.set_cons_succ]
  refine take_lit (i := 20) (v := (.int .i64 (0))) (by kernel_rfl) (by kernel_rfl) (by kernel_rfl) (by kernel_rfl) (fun _ _ _ _ h => h) hH (fun oi hoi => ?_)
  simp only [List.getElem?_toArray, List.getElem?_cons_succ, List.getElem?_cons_zero, Option.some.injEq] at hoi
  subst hoi
  refine ⟨.inl ⟨by rfl, fun w hSw => ?_⟩, ?_⟩
  · skip
    first | (go_simp; done) | (go_simp; omega) | (go_simp; with_reducible rfl) | (go_simp; kernel_rfl)
  simp only [Act.put, List.setIfInBounds_toArray, List.set_cons_zero, List.set_cons_succ]
  refine take_lit (i := 21) (v := (.bool false)) (by kernel_rfl) (by kernel_rfl) (by kernel_rfl) (by kernel_rfl) (fun _ _ _ _ h => h) hH (fun oi hoi => ?_)
  simp only [List.getElem?_toArray, List.getElem?_cons_succ, List.getElem?_cons_zero, Option.some.injEq] at hoi
  subst hoi
  refine ⟨.inl ⟨by rfl, fun w hSw => ?_⟩, ?_⟩
  · skip
    first | (go_simp; done) | (go_simp; omega) | (go_simp; with_reducible rfl) | (go_simp; kernel_rfl)
  simp only [Act.put, List.setIfInBounds_toArray, List.set_cons_zero, List.set_cons_succ]
  refine wpAnyH_ready (rs := [5]) (by kernel_rfl) (by simp) (AllReadyH.cons rfl (fun K hK => ?_) AllReadyH.nil)
  go_simp
  go_wp2_with fail
  refine (HC1.out _).mono ?_
  rintro e w_1 ⟨rfl, hb_1⟩
  refine hK.out _ _ (hH.keep hb_1) (fun hH1 => ?_)
  try simp only [Act.put, List.setIfInBounds_toArray, List.set_cons_zero, List.set_cons_succ]
  clear hK K
  refine take_lit (i := 6) (v := (.string (⟨#[114, 117, 108, 101, 40]⟩ ++ T1))) (by kernel_rfl) (by kernel_rfl) (by kernel_rfl) (by kernel_rfl) (fun _ _ _ _ h => h) hH1 (fun oi hoi => ?_)
  simp only [List.getElem?_toArray, List.getElem?_cons_succ, List.getElem?_cons_zero, Option.some.injEq] at hoi
  subst hoi
  refine ⟨.inl ⟨by rfl, fun w hSw => ?_⟩, ?_⟩
  · skip
    have hz : ¬ 9223372036854775807 < (⟨#[114, 117, 108, 101, 40]⟩ : ByteArray).size + (T1 : ByteArray).size := by (try simp only [ByteArray.size_append]); have q0 : (⟨#[114, 117, 108, 101, 40]⟩ : ByteArray).size = 5 := rfl; omega
    first | (go_simp; done) | (go_simp; omega) | (go_simp; with_reducible rfl) | (go_simp; kernel_rfl)
  simp only [Act.put, List.setIfInBounds_toArray, List.set_cons_zero, List.set_cons_succ]
  refine take_lit (i := 7) (v := (.string ((⟨#[114, 117, 108, 101, 40]⟩ ++ T1) ++ ⟨#[43]⟩))) (by kernel_rfl) (by kernel_rfl) (by kernel_rfl) (by kernel_rfl) (fun _ _ _ _ h => h) hH1 (fun oi hoi => ?_)
  simp only [List.getElem?_toArray, List.getElem?_cons_succ, List.getElem?_cons_zero, Option.some.injEq] at hoi
  subst hoi
  refine ⟨.inl ⟨by rfl, fun w hSw => ?_⟩, ?_⟩
  · skip
    have hz : ¬ 9223372036854775807 < (⟨#[114, 117, 108, 101, 40]⟩ ++ T1 : ByteArray).size + (⟨#[43]⟩ : ByteArray).size := by (try simp only [ByteArray.size_append]); have q0 : (⟨#[114, 117, 108, 101, 40]⟩ : ByteArray).size = 5 := rfl; have q1 : (⟨#[43]⟩ : ByteArray).size = 1 := rfl; omega
    first | (go_simp; done) | (go_simp; omega) | (go_simp; with_reducible rfl) | (go_simp; kernel_rfl)
  simp only [Act.put, List.setIfInBounds_toArray, List.set_cons_zero, List.set_cons_succ]
  refine wpAnyH_ready (rs := [13]) (by kernel_rfl) (by simp) (AllReadyH.cons rfl (fun K hK => ?_) AllReadyH.nil)
  go_simp
  go_wp2_with fail
  refine (HC2.out _).mono ?_
  rintro e w_2 ⟨rfl, hb_2⟩
  refine hK.out _ _ (hH1.keep hb_2) (fun hH2 => ?_)
  try simp only [Act.put, List.setIfInBounds_toArray, List.set_cons_zero, List.set_cons_succ]
  clear hK K
  refine take_lit (i := 14) (v := (.string (((⟨#[114, 117, 108, 101, 40]⟩ ++ T1) ++ ⟨#[43]⟩) ++ T2))) (by kernel_rfl) (by kernel_rfl) (by kernel_rfl) (by kernel_rfl) (fun _ _ _ _ h => h) hH2 (fun oi hoi => ?_)
  simp only [List.getElem?_toArray, List.getElem?_cons_succ, List.getElem?_cons_zero, Option.some.injEq] at hoi
  subst hoi
  refine ⟨.inl ⟨by rfl, fun w hSw => ?_⟩, ?_⟩
  · skip
    have hz : ¬ 9223372036854775807 < ((⟨#[114, 117, 108, 101, 40]⟩ ++ T1) ++ ⟨#[43]⟩ : ByteArray).size + (T2 : ByteArray).size := by (try simp only [ByteArray.size_append]); have q0 : (⟨#[114, 117, 108, 101, 40]⟩ : ByteArray).size = 5 := rfl; have q1 : (⟨#[43]⟩ : ByteArray).size = 1 := rfl; omega
    first | (go_simp; done) | (go_simp; omega) | (go_simp; with_reducible rfl) | (go_simp; kernel_rfl)
  simp only [Act.put, List.setIfInBounds_toArray, List.set_cons_zero, List.set_cons_succ]
  refine take_lit (i := 15) (v := (.string ((((⟨#[114, 117, 108, 101, 40]⟩ ++ T1) ++ ⟨#[43]⟩) ++ T2) ++ ⟨#[41, 120]⟩))) (by kernel_rfl) (by kernel_rfl) (by kernel_rfl) (by kernel_rfl) (fun _ _ _ _ h => h) hH2 (fun oi hoi => ?_)
  simp only [List.getElem?_toArray, List.getElem?_cons_succ, List.getElem?_cons_zero, Option.some.injEq] at hoi
  subst hoi
  refine ⟨.inl ⟨by rfl, fun w hSw => ?_⟩, ?_⟩
  · skip
    have hz : ¬ 9223372036854775807 < (((⟨#[114, 117, 108, 101, 40]⟩ ++ T1) ++ ⟨#[43]⟩) ++ T2 : ByteArray).size + (⟨#[41, 120]⟩ : ByteArray).size := by (try simp only [ByteArray.size_append]); have q0 : (⟨#[114, 117, 108, 101, 40]⟩ : ByteArray).size = 5 := rfl; have q1 : (⟨#[41, 120]⟩ : ByteArray).size = 2 := rfl; have q2 : (⟨#[43]⟩ : ByteArray).size = 1 := rfl; omega
    first | (go_simp; done) | (go_simp; omega) | (go_simp; with_reducible rfl) | (go_simp; kernel_rfl)
  simp only [Act.put, List.setIfInBounds_toArray, List.set_cons_zero, List.set_cons_succ]
  refine wpAnyH_ready (rs := [22]) (by kernel_rfl) (by simp) (AllReadyH.cons rfl (fun K hK => ?_) AllReadyH.nil)
  go_simp
  go_wp2_with fail
  refine (HC3.out _).mono ?_
  rintro e w_3 ⟨rfl, hb_3⟩
  refine hK.out _ _ (hH2.keep hb_3) (fun hH3 => ?_)
  try simp only [Act.put, List.setIfInBounds_toArray, List.set_cons_zero, List.set_cons_succ]
  clear hK K
  refine take_lit (i := 23) (v := (.string (((((⟨#[114, 117, 108, 101, 40]⟩ ++ T1) ++ ⟨#[43]⟩) ++ T2) ++ ⟨#[41, 120]⟩) ++ T3))) (by kernel_rfl) (by kernel_rfl) (by kernel_rfl) (by kernel_rfl) (fun _ _ _ _ h => h) hH3 (fun oi hoi => ?_)
  simp only [List.getElem?_toArray, List.getElem?_cons_succ, List.getElem?_cons_zero, Option.some.injEq] at hoi
  subst hoi
  refine ⟨.inl ⟨by rfl, fun w hSw => ?_⟩, ?_⟩
  · skip
    have hz : ¬ 9223372036854775807 < ((((⟨#[114, 117, 108, 101, 40]⟩ ++ T1) ++ ⟨#[43]⟩) ++ T2) ++ ⟨#[41, 120]⟩ : ByteArray).size + (T3 : ByteArray).size := by (try simp only [ByteArray.size_append]); have q0 : (⟨#[114, 117, 108, 101, 40]⟩ : ByteArray).size = 5 := rfl; have q1 : (⟨#[41, 120]⟩ : ByteArray).size = 2 := rfl; have q2 : (⟨#[43]⟩ : ByteArray).size = 1 := rfl; omega
    first | (go_simp; done) | (go_simp; omega) | (go_simp; with_reducible rfl) | (go_simp; kernel_rfl)
  simp only [Act.put, List.setIfInBounds_toArray, List.set_cons_zero, List.set_cons_succ]
  refine take_lit (i := 24) (v := (.string (((((⟨#[114, 117, 108, 101, 40]⟩ ++ T1) ++ ⟨#[43]⟩) ++ T2) ++ ⟨#[41, 120]⟩) ++ T3))) (by kernel_rfl) (by kernel_rfl) (by kernel_rfl) (by kernel_rfl) (fun _ _ _ _ h => h) hH3 (fun oi hoi => ?_)
  simp only [List.getElem?_toArray, List.getElem?_cons_succ, List.getElem?_cons_zero, Option.some.injEq] at hoi
  subst hoi
  refine ⟨.inl ⟨by rfl, fun w hSw => ?_⟩, ?_⟩
  · skip
    first | (go_simp; done) | (go_simp; omega) | (go_simp; with_reducible rfl) | (go_simp; kernel_rfl)
  simp only [Act.put, List.setIfInBounds_toArray, List.set_cons_zero, List.set_cons_succ]
  refine wpAnyH_done (by kernel_rfl) ?_ _
  go_wp2_with fail
  go_ret
  subst hg
  exact ⟨rfl, hH3.2.2⟩
set_option maxHeartbeats 8000000 in
set_option maxRecDepth 100000 in
theorem rline_31 (A : Option Addr) (ns : List Nd) (c a : Nat) (x : Nd) (w : World) (hseg : Seg w w.heap.size A (ns.flatMap ncs)) (hx : ns[a]? = some x) (hk : x.kind = 3) (hs : x.sub = 1) :
    Calls Tryz.prog 33 #[.slice A ns.length c, .int .i64 (a : Int)] w fun e w' => e = .returned (.string (rulK ++ starT x.ht false ++ pluK ++ starT x.dp false ++ cxK ++ starT x.wd true)) ∧ Below w.heap.size w w' := by
  have HC1 := Lib.hid (fun (W : World) => rstar_any x.ht false W)
  have hz1 := starT_size x.ht false
  generalize starT x.ht false = T1 at *
  have HC2 := Lib.hid (fun (W : World) => rstar_any x.dp false W)
  have hz2 := starT_size x.dp false
  generalize starT x.dp false = T2 at *
  have HC3 := Lib.hid (fun (W : World) => rstar_any x.wd true W)
  have hz3 := starT_size x.wd true
  generalize starT x.wd true = T3 at *
  obtain ⟨b, off, rfl, hb, hn⟩ := seg_node hseg hx
  have hal : (a : Int) < (ns.length : Int) := by have := (List.getElem?_eq_some_iff.1 hx).1; omega
  have e1 : (x.kind == 1) = false := by simp [hk]
  have e2 : (x.kind == 2) = false := by simp [hk]
  have e3 : (x.kind == 3) = true := by simp [hk]
  clear hx hseg
  generalize ns.length = ln at *
  go_enter Tryz.func33, Tryz.ntmps33
  go_upto_region 2 with (first | (refine wpList_load_node rfl _ rfl _ _ rfl _ hn ?_) | (refine wpList_alloc_node rfl rfl ?_) | (refine wpList_store_node rfl _ _ rfl _ _ _ rfl rfl _ (by repeat (first | (apply Blk.new'; first | rfl | (simp; done)) | assumption | apply Blk.alloc)) ?_))
  rw [setRow_new _ _ _ _ _ rfl]
  have hH0 : Hd w w.heap.size x (w.alloc (.cells (nc x) 36)) := ⟨(Blk.new w 36 (nc x)).node, by simp, andAlloc (Below.refl w.heap.size w) _⟩
  generalize w.alloc (.cells (nc x) 36) = W at hH0 ⊢
  generalize hg : w.heap.size = g0 at hH0 ⊢
  have k0 := hH0.at (j := 0) rfl
  clear hn hb
  go_upto_region 13 with fail
  clear k0
  refine wp_region_held_drew (S := Hd w g0 x) (by kernel_rfl) (hH0.drew) (fun hH => ?_)
  refine take_lit (i := 0) (v := (.pointer (some ⟨g0, 4, none⟩))) (by kernel_rfl) (by kernel_rfl) (by kernel_rfl) (by kernel_rfl) (fun _ _ _ _ h => h) hH (fun oi hoi => ?_)
  simp only [List.getElem?_toArray, List.getElem?_cons_succ, List.getElem?_cons_zero, Option.some.injEq] at hoi
  subst hoi
  refine ⟨.inl ⟨by rfl, fun w hSw => ?_⟩, ?_⟩
  · skip
    first | (go_simp; done) | (go_simp; omega) | (go_simp; with_reducible rfl) | (go_simp; kernel_rfl)
  simp only [Act.put, List.setIfInBounds_toArray, List.set_cons_zero, List.set_cons_succ]
  refine take_lit (i := 1) (v := (.int .i64 (x.ht))) (by kernel_rfl) (by kernel_rfl) (by kernel_rfl) (by kernel_rfl) (fun _ _ _ _ h => h) hH (fun oi hoi => ?_)
  simp only [List.getElem?_toArray, List.getElem?_cons_succ, List.getElem?_cons_zero, Option.some.injEq] at hoi
  subst hoi
  refine ⟨.inl ⟨by rfl, fun w hSw => ?_⟩, ?_⟩
  · skip
    have z := hSw.at (j := 4) rfl
    first | (go_simp; done) | (go_simp; omega) | (go_simp; with_reducible rfl) | (go_simp; kernel_rfl)
  simp only [Act.put, List.setIfInBounds_toArray, List.set_cons_zero, List.set_cons_succ]
  refine take_lit (i := 2) (v := (.pointer (some ⟨g0, 17, none⟩))) (by kernel_rfl) (by kernel_rfl) (by kernel_rfl) (by kernel_rfl) (fun _ _ _ _ h => h) hH (fun oi hoi => ?_)
  simp only [List.getElem?_toArray, List.getElem?_cons_succ, List.getElem?_cons_zero, Option.some.injEq] at hoi
  subst hoi
  refine ⟨.inl ⟨by rfl, fun w hSw => ?_⟩, ?_⟩
  · skip
    first | (go_simp; done) | (go_simp; omega) | (go_simp; with_reducible rfl) | (go_simp; kernel_rfl)
  simp only [Act.put, List.setIfInBounds_toArray, List.set_cons_zero, List.set_cons_succ]
  refine take_lit (i := 3) (v := (.int .i64 (1))) (by kernel_rfl) (by kernel_rfl) (by kernel_rfl) (by kernel_rfl) (fun _ _ _ _ h => h) hH (fun oi hoi => ?_)
  simp only [List.getElem?_toArray, List.getElem?_cons_succ, List.getElem?_cons_zero, Option.some.injEq] at hoi
  subst hoi
  refine ⟨.inl ⟨by rfl, fun w hSw => ?_⟩, ?_⟩
  · skip
    have z := hSw.at (j := 17) (u := .int .i64 1) (by rw [← hs]; rfl)
    first | (go_simp; done) | (go_simp; omega) | (go_simp; with_reducible rfl) | (go_simp; kernel_rfl)
  simp only [Act.put, List.setIfInBounds_toArray, List.set_cons_zero, List.set_cons_succ]
  refine take_lit (i := 4) (v := (.bool false)) (by kernel_rfl) (by kernel_rfl) (by kernel_rfl) (by kernel_rfl) (fun _ _ _ _ h => h) hH (fun oi hoi => ?_)
  simp only [List.getElem?_toArray, List.getElem?_cons_succ, List.getElem?_cons_zero, Option.some.injEq] at hoi
  subst hoi
  refine ⟨.inl ⟨by rfl, fun w hSw => ?_⟩, ?_⟩
  · skip
    first | (go_simp; done) | (go_simp; omega) | (go_simp; with_reducible rfl) | (go_simp; kernel_rfl)
  simp only [Act.put, List.setIfInBounds_toArray, List.set_cons_zero, List.set_cons_succ]
  refine take_lit (i := 8) (v := (.pointer (some ⟨g0, 5, none⟩))) (by kernel_rfl) (by kernel_rfl) (by kernel_rfl) (by kernel_rfl) (fun _ _ _ _ h => h) hH (fun oi hoi => ?_)
  simp only [List.getElem?_toArray, List.getElem?_cons_succ, List.getElem?_cons_zero, Option.some.injEq] at hoi
  subst hoi
  refine ⟨.inl ⟨by rfl, fun w hSw => ?_⟩, ?_⟩
  · skip
    first | (go_simp; done) | (go_simp; omega) | (go_simp; with_reducible rfl) | (go_simp; kernel_rfl)
  simp only [Act.put, List.setIfInBounds_toArray, List.set_cons_zero, List.set_cons_succ]
  refine take_lit (i := 9) (v := (.int .i64 (x.dp))) (by kernel_rfl) (by kernel_rfl) (by kernel_rfl) (by kernel_rfl) (fun _ _ _ _ h => h) hH (fun oi hoi => ?_)
  simp only [List.getElem?_toArray, List.getElem?_cons_succ, List.getElem?_cons_zero, Option.some.injEq] at hoi
  subst hoi
  refine ⟨.inl ⟨by rfl, fun w hSw => ?_⟩, ?_⟩
  · skip
    have z := hSw.at (j := 5) rfl
    first | (go_simp; done) | (go_simp; omega) | (go_simp; with_reducible rfl) | (go_simp; kernel_rfl)
  simp only [Act.put, List.setIfInBounds_toArray, List.set_cons_zero, List.set_cons_succ]
  refine take_lit (i := 10) (v := (.pointer (some ⟨g0, 17, none⟩))) (by kernel_rfl) (by kernel_rfl) (by kernel_rfl) (by kernel_rfl) (fun _ _ _ _ h => h) hH (fun oi hoi => ?_)
  simp only [List.getElem?_toArray, List.getElem?_cons_succ, List.getElem?_cons_zero, Option.some.injEq] at hoi
  subst hoi
  refine ⟨.inl ⟨by rfl, fun w hSw => ?_⟩, ?_⟩
  · skip
    first | (go_simp; done) | (go_simp; omega) | (go_simp; with_reducible rfl) | (go_simp; kernel_rfl)
  simp only [Act.put, List.setIfInBounds_toArray, List.set_cons_zero, List.set_cons_succ]
  refine take_lit (i := 11) (v := (.int .i64 (1))) (by kernel_rfl) (by kernel_rfl) (by kernel_rfl) (by kernel_rfl) (fun _ _ _ _ h => h) hH (fun oi hoi => ?_)
  simp only [List.getElem?_toArray, List.getElem?_cons_succ, List.getElem?_cons_zero, Option.some.injEq] at hoi
  subst hoi
  refine ⟨.inl ⟨by rfl, fun w hSw => ?_⟩, ?_⟩
  · skip
    have z := hSw.at (j := 17) (u := .int .i64 1) (by rw [← hs]; rfl)
    first | (go_simp; done) | (go_simp; omega) | (go_simp; with_reducible rfl) | (go_simp; kernel_rfl)
  simp only [Act.put, List.setIfInBounds_toArray, List.set_cons_zero, List.set_cons_succ]
  refine take_lit (i := 12) (v := (.bool false)) (by kernel_rfl) (by kernel_rfl) (by kernel_rfl) (by kernel_rfl) (fun _ _ _ _ h => h) hH (fun oi hoi => ?_)
  simp only [List.getElem?_toArray, List.getElem?_cons_succ, List.getElem?_cons_zero, Option.some.injEq] at hoi
  subst hoi
  refine ⟨.inl ⟨by rfl, fun w hSw => ?_⟩, ?_⟩
  · skip
    first | (go_simp; done) | (go_simp; omega) | (go_simp; with_reducible rfl) | (go_simp; kernel_rfl)
  simp only [Act.put, List.setIfInBounds_toArray, List.set_cons_zero, List.set_cons_succ]
  refine take_lit (i := 16) (v := (.pointer (some ⟨g0, 3, none⟩))) (by kernel_rfl) (by kernel_rfl) (by kernel_rfl) (by kernel_rfl) (fun _ _ _ _ h => h) hH (fun oi hoi => ?_)
  simp only [List.getElem?_toArray, List.getElem?_cons_succ, List.getElem?_cons_zero, Option.some.injEq] at hoi
  subst hoi
  refine ⟨.inl ⟨by rfl, fun w hSw => ?_⟩, ?_⟩
  · skip
    first | (go_simp; done) | (go_simp; omega) | (go_simp; with_reducible rfl) | (go_simp; kernel_rfl)
  simp only [Act.put, List.setIfInBounds_toArray, List.set_cons_zero, List.set_cons_succ]
  refine take_lit (i := 17) (v := (.int .i64 (x.wd))) (by kernel_rfl) (by kernel_rfl) (by kernel_rfl) (by kernel_rfl) (fun _ _ _ _ h => h) hH (fun oi hoi => ?_)
  simp only [List.getElem?_toArray, List.getElem?_cons_succ, List.getElem?_cons_zero, Option.some.injEq] at hoi
  subst hoi
  refine ⟨.inl ⟨by rfl, fun w hSw => ?_⟩, ?_⟩
  · skip
    have z := hSw.at (j := 3) rfl
    first | (go_simp; done) | (go_simp; omega) | (go_simp; with_reducible rfl) | (go_simp; kernel_rfl)
  simp only [Act.put, List.setIfInBounds_toArray, List.set_cons_zero, List.set_cons_succ]
  refine take_lit (i := 18) (v := (.pointer (some ⟨g0, 17, none⟩))) (by kernel_rfl) (by kernel_rfl) (by kernel_rfl) (by kernel_rfl) (fun _ _ _ _ h => h) hH (fun oi hoi => ?_)
  simp only [List.getElem?_toArray, List.getElem?_cons_succ, List.getElem?_cons_zero, Option.some.injEq] at hoi
  subst hoi
  refine ⟨.inl ⟨by rfl, fun w hSw => ?_⟩, ?_⟩
  · skip
    first | (go_simp; done) | (go_simp; omega) | (go_simp; with_reducible rfl) | (go_simp; kernel_rfl)
  simp only [Act.put, List.setIfInBounds_toArray, List.set_cons_zero, List.set_cons_succ]
  refine take_lit (i := 19) (v := (.int .i64 (1))) (by kernel_rfl) (by kernel_rfl) (by kernel_rfl) (by kernel_rfl) (fun _ _ _ _ h => h) hH (fun oi hoi => ?_)
  simp only [List.getElem?_toArray, List.getElem?_cons_succ, List.getElem?_cons_zero, Option.some.injEq] at hoi
  subst hoi
  refine ⟨.inl ⟨by rfl, fun w hSw => ?_⟩, ?_⟩
  · skip
    have z := hSw.at (j := 17) (u := .int .i64 1) (by rw [← hs]; rfl)
    first | (go_simp; done) | (go_simp; omega) | (go_simp; with_reducible rfl) | (go_simp; kernel_rfl)
  simp only [Act.put, List.setIfInBounds_toArray, List.set_cons_zero, List.set_cons_succ]
  refine take_lit (i := 20) (v := (.int .i64 (1))) (by kernel_rfl) (by kernel_rfl) (by kernel_rfl) (by kernel_rfl) (fun _ _ _ _ h => h) hH (fun oi hoi => ?_)
  simp only [List.getElem?_toArray, List.getElem?_cons_succ, List.getElem?_cons_zero, Option.some.injEq] at hoi
  subst hoi
  refine ⟨.inl ⟨by rfl, fun w hSw => ?_⟩, ?_⟩
  · skip
    first | (go_simp; done) | (go_simp; omega) | (go_simp; with_reducible rfl) | (go_simp; kernel_rfl)
  simp only [Act.put, List.setIfInBounds_toArray, List.set_cons_zero, List.set_cons_succ]
  refine take_lit (i := 21) (v := (.bool true)) (by kernel_rfl) (by kernel_rfl) (by kernel_rfl) (by kernel_rfl) (fun _ _ _ _ h => h) hH (fun oi hoi => ?_)
  simp only [List.getElem?_toArray, List.getElem?_cons_succ, List.getElem?_cons_zero, Option.some.injEq] at hoi
  subst hoi
  refine ⟨.inl ⟨by rfl, fun w hSw => ?_⟩, ?_⟩
  · skip
    first | (go_simp; done) | (go_simp; omega) | (go_simp; with_reducible rfl) | (go_simp; kernel_rfl)
  simp only [Act.put, List.setIfInBounds_toArray, List.set_cons_zero, List.set_cons_succ]
  refine wpAnyH_ready (rs := [5]) (by kernel_rfl) (by simp) (AllReadyH.cons rfl (fun K hK => ?_) AllReadyH.nil)
  go_simp
  go_wp2_with fail
  refine (HC1.out _).mono ?_
  rintro e w_1 ⟨rfl, hb_1⟩
  refine hK.out _ _ (hH.keep hb_1) (fun hH1 => ?_)
  try simp only [Act.put, List.setIfInBounds_toArray, List.set_cons_zero, List.set_cons_succ]
  clear hK K
  refine take_lit (i := 6) (v := (.string (⟨#[114, 117, 108, 101, 40]⟩ ++ T1))) (by kernel_rfl) (by kernel_rfl) (by kernel_rfl) (by kernel_rfl) (fun _ _ _ _ h => h) hH1 (fun oi hoi => ?_)
  simp only [List.getElem?_toArray, List.getElem?_cons_succ, List.getElem?_cons_zero, Option.some.injEq] at hoi
  subst hoi
  refine ⟨.inl ⟨by rfl, fun w hSw => ?_⟩, ?_⟩
  · skip
    have hz : ¬ 9223372036854775807 < (⟨#[114, 117, 108, 101, 40]⟩ : ByteArray).size + (T1 : ByteArray).size := by (try simp only [ByteArray.size_append]); have q0 : (⟨#[114, 117, 108, 101, 40]⟩ : ByteArray).size = 5 := rfl; omega
    first | (go_simp; done) | (go_simp; omega) | (go_simp; with_reducible rfl) | (go_simp; kernel_rfl)
  simp only [Act.put, List.setIfInBounds_toArray, List.set_cons_zero, List.set_cons_succ]
  refine take_lit (i := 7) (v := (.string ((⟨#[114, 117, 108, 101, 40]⟩ ++ T1) ++ ⟨#[43]⟩))) (by kernel_rfl) (by kernel_rfl) (by kernel_rfl) (by kernel_rfl) (fun _ _ _ _ h => h) hH1 (fun oi hoi => ?_)
  simp only [List.getElem?_toArray, List.getElem?_cons_succ, List.getElem?_cons_zero, Option.some.injEq] at hoi
  subst hoi
  refine ⟨.inl ⟨by rfl, fun w hSw => ?_⟩, ?_⟩
  · skip
    have hz : ¬ 9223372036854775807 < (⟨#[114, 117, 108, 101, 40]⟩ ++ T1 : ByteArray).size + (⟨#[43]⟩ : ByteArray).size := by (try simp only [ByteArray.size_append]); have q0 : (⟨#[114, 117, 108, 101, 40]⟩ : ByteArray).size = 5 := rfl; have q1 : (⟨#[43]⟩ : ByteArray).size = 1 := rfl; omega
    first | (go_simp; done) | (go_simp; omega) | (go_simp; with_reducible rfl) | (go_simp; kernel_rfl)
  simp only [Act.put, List.setIfInBounds_toArray, List.set_cons_zero, List.set_cons_succ]
  refine wpAnyH_ready (rs := [13]) (by kernel_rfl) (by simp) (AllReadyH.cons rfl (fun K hK => ?_) AllReadyH.nil)
  go_simp
  go_wp2_with fail
  refine (HC2.out _).mono ?_
  rintro e w_2 ⟨rfl, hb_2⟩
  refine hK.out _ _ (hH1.keep hb_2) (fun hH2 => ?_)
  try simp only [Act.put, List.setIfInBounds_toArray, List.set_cons_zero, List.set_cons_succ]
  clear hK K
  refine take_lit (i := 14) (v := (.string (((⟨#[114, 117, 108, 101, 40]⟩ ++ T1) ++ ⟨#[43]⟩) ++ T2))) (by kernel_rfl) (by kernel_rfl) (by kernel_rfl) (by kernel_rfl) (fun _ _ _ _ h => h) hH2 (fun oi hoi => ?_)
  simp only [List.getElem?_toArray, List.getElem?_cons_succ, List.getElem?_cons_zero, Option.some.injEq] at hoi
  subst hoi
  refine ⟨.inl ⟨by rfl, fun w hSw => ?_⟩, ?_⟩
  · skip
    have hz : ¬ 9223372036854775807 < ((⟨#[114, 117, 108, 101, 40]⟩ ++ T1) ++ ⟨#[43]⟩ : ByteArray).size + (T2 : ByteArray).size := by (try simp only [ByteArray.size_append]); have q0 : (⟨#[114, 117, 108, 101, 40]⟩ : ByteArray).size = 5 := rfl; have q1 : (⟨#[43]⟩ : ByteArray).size = 1 := rfl; omega
    first | (go_simp; done) | (go_simp; omega) | (go_simp; with_reducible rfl) | (go_simp; kernel_rfl)
  simp only [Act.put, List.setIfInBounds_toArray, List.set_cons_zero, List.set_cons_succ]
  refine take_lit (i := 15) (v := (.string ((((⟨#[114, 117, 108, 101, 40]⟩ ++ T1) ++ ⟨#[43]⟩) ++ T2) ++ ⟨#[41, 120]⟩))) (by kernel_rfl) (by kernel_rfl) (by kernel_rfl) (by kernel_rfl) (fun _ _ _ _ h => h) hH2 (fun oi hoi => ?_)
  simp only [List.getElem?_toArray, List.getElem?_cons_succ, List.getElem?_cons_zero, Option.some.injEq] at hoi
  subst hoi
  refine ⟨.inl ⟨by rfl, fun w hSw => ?_⟩, ?_⟩
  · skip
    have hz : ¬ 9223372036854775807 < (((⟨#[114, 117, 108, 101, 40]⟩ ++ T1) ++ ⟨#[43]⟩) ++ T2 : ByteArray).size + (⟨#[41, 120]⟩ : ByteArray).size := by (try simp only [ByteArray.size_append]); have q0 : (⟨#[114, 117, 108, 101, 40]⟩ : ByteArray).size = 5 := rfl; have q1 : (⟨#[41, 120]⟩ : ByteArray).size = 2 := rfl; have q2 : (⟨#[43]⟩ : ByteArray).size = 1 := rfl; omega
    first | (go_simp; done) | (go_simp; omega) | (go_simp; with_reducible rfl) | (go_simp; kernel_rfl)
  simp only [Act.put, List.setIfInBounds_toArray, List.set_cons_zero, List.set_cons_succ]
  refine wpAnyH_ready (rs := [22]) (by kernel_rfl) (by simp) (AllReadyH.cons rfl (fun K hK => ?_) AllReadyH.nil)
  go_simp
  go_wp2_with fail
  refine (HC3.out _).mono ?_
  rintro e w_3 ⟨rfl, hb_3⟩
  refine hK.out _ _ (hH2.keep hb_3) (fun hH3 => ?_)
  try simp only [Act.put, List.setIfInBounds_toArray, List.set_cons_zero, List.set_cons_succ]
  clear hK K
  refine take_lit (i := 23) (v := (.string (((((⟨#[114, 117, 108, 101, 40]⟩ ++ T1) ++ ⟨#[43]⟩) ++ T2) ++ ⟨#[41, 120]⟩) ++ T3))) (by kernel_rfl) (by kernel_rfl) (by kernel_rfl) (by kernel_rfl) (fun _ _ _ _ h => h) hH3 (fun oi hoi => ?_)
  simp only [List.getElem?_toArray, List.getElem?_cons_succ, List.getElem?_cons_zero, Option.some.injEq] at hoi
  subst hoi
  refine ⟨.inl ⟨by rfl, fun w hSw => ?_⟩, ?_⟩
  · skip
    have hz : ¬ 9223372036854775807 < ((((⟨#[114, 117, 108, 101, 40]⟩ ++ T1) ++ ⟨#[43]⟩) ++ T2) ++ ⟨#[41, 120]⟩ : ByteArray).size + (T3 : ByteArray).size := by (try simp only [ByteArray.size_append]); have q0 : (⟨#[114, 117, 108, 101, 40]⟩ : ByteArray).size = 5 := rfl; have q1 : (⟨#[41, 120]⟩ : ByteArray).size = 2 := rfl; have q2 : (⟨#[43]⟩ : ByteArray).size = 1 := rfl; omega
    first | (go_simp; done) | (go_simp; omega) | (go_simp; with_reducible rfl) | (go_simp; kernel_rfl)
  simp only [Act.put, List.setIfInBounds_toArray, List.set_cons_zero, List.set_cons_succ]
  refine take_lit (i := 24) (v := (.string (((((⟨#[114, 117, 108, 101, 40]⟩ ++ T1) ++ ⟨#[43]⟩) ++ T2) ++ ⟨#[41, 120]⟩) ++ T3))) (by kernel_rfl) (by kernel_rfl) (by kernel_rfl) (by kernel_rfl) (fun _ _ _ _ h => h) hH3 (fun oi hoi => ?_)
  simp only [List.getElem?_toArray, List.getElem?_cons_succ, List.getElem?_cons_zero, Option.some.injEq] at hoi
  subst hoi
  refine ⟨.inl ⟨by rfl, fun w hSw => ?_⟩, ?_⟩
  · skip
    first | (go_simp; done) | (go_simp; omega) | (go_simp; with_reducible rfl) | (go_simp; kernel_rfl)
  simp only [Act.put, List.setIfInBounds_toArray, List.set_cons_zero, List.set_cons_succ]
  refine wpAnyH_done (by kernel_rfl) ?_ _
  go_wp2_with fail
  go_ret
  subst hg
  exact ⟨rfl, hH3.2.2⟩
set_option maxHeartbeats 8000000 in
set_option maxRecDepth 100000 in
theorem rline_32 (A : Option Addr) (ns : List Nd) (c a : Nat) (x : Nd) (w : World) (hseg : Seg w w.heap.size A (ns.flatMap ncs)) (hx : ns[a]? = some x) (hk : x.kind = 3) (hs : x.sub = 2) :
    Calls Tryz.prog 33 #[.slice A ns.length c, .int .i64 (a : Int)] w fun e w' => e = .returned (.string (rulK ++ starT x.ht true ++ pluK ++ starT x.dp true ++ cxK ++ starT x.wd false)) ∧ Below w.heap.size w w' := by
  have HC1 := Lib.hid (fun (W : World) => rstar_any x.ht true W)
  have hz1 := starT_size x.ht true
  generalize starT x.ht true = T1 at *
  have HC2 := Lib.hid (fun (W : World) => rstar_any x.dp true W)
  have hz2 := starT_size x.dp true
  generalize starT x.dp true = T2 at *
  have HC3 := Lib.hid (fun (W : World) => rstar_any x.wd false W)
  have hz3 := starT_size x.wd false
  generalize starT x.wd false = T3 at *
  obtain ⟨b, off, rfl, hb, hn⟩ := seg_node hseg hx
  have hal : (a : Int) < (ns.length : Int) := by have := (List.getElem?_eq_some_iff.1 hx).1; omega
  have e1 : (x.kind == 1) = false := by simp [hk]
  have e2 : (x.kind == 2) = false := by simp [hk]
  have e3 : (x.kind == 3) = true := by simp [hk]
  clear hx hseg
  generalize ns.length = ln at *
  go_enter Tryz.func33, Tryz.ntmps33
  go_upto_region 2 with (first | (refine wpList_load_node rfl _ rfl _ _ rfl _ hn ?_) | (refine wpList_alloc_node rfl rfl ?_) | (refine wpList_store_node rfl _ _ rfl _ _ _ rfl rfl _ (by repeat (first | (apply Blk.new'; first | rfl | (simp; done)) | assumption | apply Blk.alloc)) ?_))
  rw [setRow_new _ _ _ _ _ rfl]
  have hH0 : Hd w w.heap.size x (w.alloc (.cells (nc x) 36)) := ⟨(Blk.new w 36 (nc x)).node, by simp, andAlloc (Below.refl w.heap.size w) _⟩
  generalize w.alloc (.cells (nc x) 36) = W at hH0 ⊢
  generalize hg : w.heap.size = g0 at hH0 ⊢
  have k0 := hH0.at (j := 0) rfl
  clear hn hb
  go_upto_region 13 with fail
  clear k0
  refine wp_region_held_drew (S := Hd w g0 x) (by kernel_rfl) (hH0.drew) (fun hH => ?_)
  refine take_lit (i := 0) (v := (.pointer (some ⟨g0, 4, none⟩))) (by kernel_rfl) (by kernel_rfl) (by kernel_rfl) (by kernel_rfl) (fun _ _ _ _ h => h) hH (fun oi hoi => ?_)
  simp only [List.getElem?_toArray, List.getElem?_cons_succ, List.getElem?_cons_zero, Option.some.injEq] at hoi
  subst hoi
  refine ⟨.inl ⟨by rfl, fun w hSw => ?_⟩, ?_⟩
  · skip
    first | (go_simp; done) | (go_simp; omega) | (go_simp; with_reducible rfl) | (go_simp; kernel_rfl)
  simp only [Act.put, List.setIfInBounds_toArray, List.set_cons_zero, List.set_cons_succ]
  refine take_lit (i := 1) (v := (.int .i64 (x.ht))) (by kernel_rfl) (by kernel_rfl) (by kernel_rfl) (by kernel_rfl) (fun _ _ _ _ h => h) hH (fun oi hoi => ?_)
  simp only [List.getElem?_toArray, List.getElem?_cons_succ, List.getElem?_cons_zero, Option.some.injEq] at hoi
  subst hoi
  refine ⟨.inl ⟨by rfl, fun w hSw => ?_⟩, ?_⟩
  · skip
    have z := hSw.at (j := 4) rfl
    first | (go_simp; done) | (go_simp; omega) | (go_simp; with_reducible rfl) | (go_simp; kernel_rfl)
  simp only [Act.put, List.setIfInBounds_toArray, List.set_cons_zero, List.set_cons_succ]
  refine take_lit (i := 2) (v := (.pointer (some ⟨g0, 17, none⟩))) (by kernel_rfl) (by kernel_rfl) (by kernel_rfl) (by kernel_rfl) (fun _ _ _ _ h => h) hH (fun oi hoi => ?_)
  simp only [List.getElem?_toArray, List.getElem?_cons_succ, List.getElem?_cons_zero, Option.some.injEq] at hoi
  subst hoi
  refine ⟨.inl ⟨by rfl, fun w hSw => ?_⟩, ?_⟩
  · skip
    first | (go_simp; done) | (go_simp; omega) | (go_simp; with_reducible rfl) | (go_simp; kernel_rfl)
  simp only [Act.put, List.setIfInBounds_toArray, List.set_cons_zero, List.set_cons_succ]
  refine take_lit (i := 3) (v := (.int .i64 (2))) (by kernel_rfl) (by kernel_rfl) (by kernel_rfl) (by kernel_rfl) (fun _ _ _ _ h => h) hH (fun oi hoi => ?_)
  simp only [List.getElem?_toArray, List.getElem?_cons_succ, List.getElem?_cons_zero, Option.some.injEq] at hoi
  subst hoi
  refine ⟨.inl ⟨by rfl, fun w hSw => ?_⟩, ?_⟩
  · skip
    have z := hSw.at (j := 17) (u := .int .i64 2) (by rw [← hs]; rfl)
    first | (go_simp; done) | (go_simp; omega) | (go_simp; with_reducible rfl) | (go_simp; kernel_rfl)
  simp only [Act.put, List.setIfInBounds_toArray, List.set_cons_zero, List.set_cons_succ]
  refine take_lit (i := 4) (v := (.bool true)) (by kernel_rfl) (by kernel_rfl) (by kernel_rfl) (by kernel_rfl) (fun _ _ _ _ h => h) hH (fun oi hoi => ?_)
  simp only [List.getElem?_toArray, List.getElem?_cons_succ, List.getElem?_cons_zero, Option.some.injEq] at hoi
  subst hoi
  refine ⟨.inl ⟨by rfl, fun w hSw => ?_⟩, ?_⟩
  · skip
    first | (go_simp; done) | (go_simp; omega) | (go_simp; with_reducible rfl) | (go_simp; kernel_rfl)
  simp only [Act.put, List.setIfInBounds_toArray, List.set_cons_zero, List.set_cons_succ]
  refine take_lit (i := 8) (v := (.pointer (some ⟨g0, 5, none⟩))) (by kernel_rfl) (by kernel_rfl) (by kernel_rfl) (by kernel_rfl) (fun _ _ _ _ h => h) hH (fun oi hoi => ?_)
  simp only [List.getElem?_toArray, List.getElem?_cons_succ, List.getElem?_cons_zero, Option.some.injEq] at hoi
  subst hoi
  refine ⟨.inl ⟨by rfl, fun w hSw => ?_⟩, ?_⟩
  · skip
    first | (go_simp; done) | (go_simp; omega) | (go_simp; with_reducible rfl) | (go_simp; kernel_rfl)
  simp only [Act.put, List.setIfInBounds_toArray, List.set_cons_zero, List.set_cons_succ]
  refine take_lit (i := 9) (v := (.int .i64 (x.dp))) (by kernel_rfl) (by kernel_rfl) (by kernel_rfl) (by kernel_rfl) (fun _ _ _ _ h => h) hH (fun oi hoi => ?_)
  simp only [List.getElem?_toArray, List.getElem?_cons_succ, List.getElem?_cons_zero, Option.some.injEq] at hoi
  subst hoi
  refine ⟨.inl ⟨by rfl, fun w hSw => ?_⟩, ?_⟩
  · skip
    have z := hSw.at (j := 5) rfl
    first | (go_simp; done) | (go_simp; omega) | (go_simp; with_reducible rfl) | (go_simp; kernel_rfl)
  simp only [Act.put, List.setIfInBounds_toArray, List.set_cons_zero, List.set_cons_succ]
  refine take_lit (i := 10) (v := (.pointer (some ⟨g0, 17, none⟩))) (by kernel_rfl) (by kernel_rfl) (by kernel_rfl) (by kernel_rfl) (fun _ _ _ _ h => h) hH (fun oi hoi => ?_)
  simp only [List.getElem?_toArray, List.getElem?_cons_succ, List.getElem?_cons_zero, Option.some.injEq] at hoi
  subst hoi
  refine ⟨.inl ⟨by rfl, fun w hSw => ?_⟩, ?_⟩
  · skip
    first | (go_simp; done) | (go_simp; omega) | (go_simp; with_reducible rfl) | (go_simp; kernel_rfl)
  simp only [Act.put, List.setIfInBounds_toArray, List.set_cons_zero, List.set_cons_succ]
  refine take_lit (i := 11) (v := (.int .i64 (2))) (by kernel_rfl) (by kernel_rfl) (by kernel_rfl) (by kernel_rfl) (fun _ _ _ _ h => h) hH (fun oi hoi => ?_)
  simp only [List.getElem?_toArray, List.getElem?_cons_succ, List.getElem?_cons_zero, Option.some.injEq] at hoi
  subst hoi
  refine ⟨.inl ⟨by rfl, fun w hSw => ?_⟩, ?_⟩
  · skip
    have z := hSw.at (j := 17) (u := .int .i64 2) (by rw [← hs]; rfl)
    first | (go_simp; done) | (go_simp; omega) | (go_simp; with_reducible rfl) | (go_simp; kernel_rfl)
  simp only [Act.put, List.setIfInBounds_toArray, List.set_cons_zero, List.set_cons_succ]
  refine take_lit (i := 12) (v := (.bool true)) (by kernel_rfl) (by kernel_rfl) (by kernel_rfl) (by kernel_rfl) (fun _ _ _ _ h => h) hH (fun oi hoi => ?_)
  simp only [List.getElem?_toArray, List.getElem?_cons_succ, List.getElem?_cons_zero, Option.some.injEq] at hoi
  subst hoi
  refine ⟨.inl ⟨by rfl, fun w hSw => ?_⟩, ?_⟩
  · skip
    first | (go_simp; done) | (go_simp; omega) | (go_simp; with_reducible rfl) | (go_simp; kernel_rfl)
  simp only [Act.put, List.setIfInBounds_toArray, List.set_cons_zero, List.set_cons_succ]
  refine take_lit (i := 16) (v := (.pointer (some ⟨g0, 3, none⟩))) (by kernel_rfl) (by kernel_rfl) (by kernel_rfl) (by kernel_rfl) (fun _ _ _ _ h => h) hH (fun oi hoi => ?_)
  simp only [List.getElem?_toArray, List.getElem?_cons_succ, List.getElem?_cons_zero, Option.some.injEq] at hoi
  subst hoi
  refine ⟨.inl ⟨by rfl, fun w hSw => ?_⟩, ?_⟩
  · skip
    first | (go_simp; done) | (go_simp; omega) | (go_simp; with_reducible rfl) | (go_simp; kernel_rfl)
  simp only [Act.put, List.setIfInBounds_toArray, List.set_cons_zero, List.set_cons_succ]
  refine take_lit (i := 17) (v := (.int .i64 (x.wd))) (by kernel_rfl) (by kernel_rfl) (by kernel_rfl) (by kernel_rfl) (fun _ _ _ _ h => h) hH (fun oi hoi => ?_)
  simp only [List.getElem?_toArray, List.getElem?_cons_succ, List.getElem?_cons_zero, Option.some.injEq] at hoi
  subst hoi
  refine ⟨.inl ⟨by rfl, fun w hSw => ?_⟩, ?_⟩
  · skip
    have z := hSw.at (j := 3) rfl
    first | (go_simp; done) | (go_simp; omega) | (go_simp; with_reducible rfl) | (go_simp; kernel_rfl)
  simp only [Act.put, List.setIfInBounds_toArray, List.set_cons_zero, List.set_cons_succ]
  refine take_lit (i := 18) (v := (.pointer (some ⟨g0, 17, none⟩))) (by kernel_rfl) (by kernel_rfl) (by kernel_rfl) (by kernel_rfl) (fun _ _ _ _ h => h) hH (fun oi hoi => ?_)
  simp only [List.getElem?_toArray, List.getElem?_cons_succ, List.getElem?_cons_zero, Option.some.injEq] at hoi
  subst hoi
  refine ⟨.inl ⟨by rfl, fun w hSw => ?_⟩, ?_⟩
  · skip
    first | (go_simp; done) | (go_simp; omega) | (go_simp; with_reducible rfl) | (go_simp; kernel_rfl)
  simp only [Act.put, List.setIfInBounds_toArray, List.set_cons_zero, List.set_cons_succ]
  refine take_lit (i := 19) (v := (.int .i64 (2))) (by kernel_rfl) (by kernel_rfl) (by kernel_rfl) (by kernel_rfl) (fun _ _ _ _ h => h) hH (fun oi hoi => ?_)
  simp only [List.getElem?_toArray, List.getElem?_cons_succ, List.getElem?_cons_zero, Option.some.injEq] at hoi
  subst hoi
  refine ⟨.inl ⟨by rfl, fun w hSw => ?_⟩, ?_⟩
  · skip
    have z := hSw.at (j := 17) (u := .int .i64 2) (by rw [← hs]; rfl)
    first | (go_simp; done) | (go_simp; omega) | (go_simp; with_reducible rfl) | (go_simp; kernel_rfl)
  simp only [Act.put, List.setIfInBounds_toArray, List.set_cons_zero, List.set_cons_succ]
  refine take_lit (i := 20) (v := (.int .i64 (0))) (by kernel_rfl) (by kernel_rfl) (by kernel_rfl) (by kernel_rfl) (fun _ _ _ _ h => h) hH (fun oi hoi => ?_)
  simp only [List.getElem?_toArray, List.getElem?_cons_succ, List.getElem?_cons_zero, Option.some.injEq] at hoi
  subst hoi
  refine ⟨.inl ⟨by rfl, fun w hSw => ?_⟩, ?_⟩
  · skip
    first | (go_simp; done) | (go_simp; omega) | (go_simp; with_reducible rfl) | (go_simp; kernel_rfl)
  simp only [Act.put, List.setIfInBounds_toArray, List.set_cons_zero, List.set_cons_succ]
  refine take_lit (i := 21) (v := (.bool false)) (by kernel_rfl) (by kernel_rfl) (by kernel_rfl) (by kernel_rfl) (fun _ _ _ _ h => h) hH (fun oi hoi => ?_)
  simp only [List.getElem?_toArray, List.getElem?_cons_succ, List.getElem?_cons_zero, Option.some.injEq] at hoi
  subst hoi
  refine ⟨.inl ⟨by rfl, fun w hSw => ?_⟩, ?_⟩
  · skip
    first | (go_simp; done) | (go_simp; omega) | (go_simp; with_reducible rfl) | (go_simp; kernel_rfl)
  simp only [Act.put, List.setIfInBounds_toArray, List.set_cons_zero, List.set_cons_succ]
  refine wpAnyH_ready (rs := [5]) (by kernel_rfl) (by simp) (AllReadyH.cons rfl (fun K hK => ?_) AllReadyH.nil)
  go_simp
  go_wp2_with fail
  refine (HC1.out _).mono ?_
  rintro e w_1 ⟨rfl, hb_1⟩
  refine hK.out _ _ (hH.keep hb_1) (fun hH1 => ?_)
  try simp only [Act.put, List.setIfInBounds_toArray, List.set_cons_zero, List.set_cons_succ]
  clear hK K
  refine take_lit (i := 6) (v := (.string (⟨#[114, 117, 108, 101, 40]⟩ ++ T1))) (by kernel_rfl) (by kernel_rfl) (by kernel_rfl) (by kernel_rfl) (fun _ _ _ _ h => h) hH1 (fun oi hoi => ?_)
  simp only [List.getElem?_toArray, List.getElem?_cons_succ, List.getElem?_cons_zero, Option.some.injEq] at hoi
  subst hoi
  refine ⟨.inl ⟨by rfl, fun w hSw => ?_⟩, ?_⟩
  · skip
    have hz : ¬ 9223372036854775807 < (⟨#[114, 117, 108, 101, 40]⟩ : ByteArray).size + (T1 : ByteArray).size := by (try simp only [ByteArray.size_append]); have q0 : (⟨#[114, 117, 108, 101, 40]⟩ : ByteArray).size = 5 := rfl; omega
    first | (go_simp; done) | (go_simp; omega) | (go_simp; with_reducible rfl) | (go_simp; kernel_rfl)
  simp only [Act.put, List.setIfInBounds_toArray, List.set_cons_zero, List.set_cons_succ]
  refine take_lit (i := 7) (v := (.string ((⟨#[114, 117, 108, 101, 40]⟩ ++ T1) ++ ⟨#[43]⟩))) (by kernel_rfl) (by kernel_rfl) (by kernel_rfl) (by kernel_rfl) (fun _ _ _ _ h => h) hH1 (fun oi hoi => ?_)
  simp only [List.getElem?_toArray, List.getElem?_cons_succ, List.getElem?_cons_zero, Option.some.injEq] at hoi
  subst hoi
  refine ⟨.inl ⟨by rfl, fun w hSw => ?_⟩, ?_⟩
  · skip
    have hz : ¬ 9223372036854775807 < (⟨#[114, 117, 108, 101, 40]⟩ ++ T1 : ByteArray).size + (⟨#[43]⟩ : ByteArray).size := by (try simp only [ByteArray.size_append]); have q0 : (⟨#[114, 117, 108, 101, 40]⟩ : ByteArray).size = 5 := rfl; have q1 : (⟨#[43]⟩ : ByteArray).size = 1 := rfl; omega
    first | (go_simp; done) | (go_simp; omega) | (go_simp; with_reducible rfl) | (go_simp; kernel_rfl)
  simp only [Act.put, List.setIfInBounds_toArray, List.set_cons_zero, List.set_cons_succ]
  refine wpAnyH_ready (rs := [13]) (by kernel_rfl) (by simp) (AllReadyH.cons rfl (fun K hK => ?_) AllReadyH.nil)
  go_simp
  go_wp2_with fail
  refine (HC2.out _).mono ?_
  rintro e w_2 ⟨rfl, hb_2⟩
  refine hK.out _ _ (hH1.keep hb_2) (fun hH2 => ?_)
  try simp only [Act.put, List.setIfInBounds_toArray, List.set_cons_zero, List.set_cons_succ]
  clear hK K
  refine take_lit (i := 14) (v := (.string (((⟨#[114, 117, 108, 101, 40]⟩ ++ T1) ++ ⟨#[43]⟩) ++ T2))) (by kernel_rfl) (by kernel_rfl) (by kernel_rfl) (by kernel_rfl) (fun _ _ _ _ h => h) hH2 (fun oi hoi => ?_)
  simp only [List.getElem?_toArray, List.getElem?_cons_succ, List.getElem?_cons_zero, Option.some.injEq] at hoi
  subst hoi
  refine ⟨.inl ⟨by rfl, fun w hSw => ?_⟩, ?_⟩
  · skip
    have hz : ¬ 9223372036854775807 < ((⟨#[114, 117, 108, 101, 40]⟩ ++ T1) ++ ⟨#[43]⟩ : ByteArray).size + (T2 : ByteArray).size := by (try simp only [ByteArray.size_append]); have q0 : (⟨#[114, 117, 108, 101, 40]⟩ : ByteArray).size = 5 := rfl; have q1 : (⟨#[43]⟩ : ByteArray).size = 1 := rfl; omega
    first | (go_simp; done) | (go_simp; omega) | (go_simp; with_reducible rfl) | (go_simp; kernel_rfl)
  simp only [Act.put, List.setIfInBounds_toArray, List.set_cons_zero, List.set_cons_succ]
  refine take_lit (i := 15) (v := (.string ((((⟨#[114, 117, 108, 101, 40]⟩ ++ T1) ++ ⟨#[43]⟩) ++ T2) ++ ⟨#[41, 120]⟩))) (by kernel_rfl) (by kernel_rfl) (by kernel_rfl) (by kernel_rfl) (fun _ _ _ _ h => h) hH2 (fun oi hoi => ?_)
  simp only [List.getElem?_toArray, List.getElem?_cons_succ, List.getElem?_cons_zero, Option.some.injEq] at hoi
  subst hoi
  refine ⟨.inl ⟨by rfl, fun w hSw => ?_⟩, ?_⟩
  · skip
    have hz : ¬ 9223372036854775807 < (((⟨#[114, 117, 108, 101, 40]⟩ ++ T1) ++ ⟨#[43]⟩) ++ T2 : ByteArray).size + (⟨#[41, 120]⟩ : ByteArray).size := by (try simp only [ByteArray.size_append]); have q0 : (⟨#[114, 117, 108, 101, 40]⟩ : ByteArray).size = 5 := rfl; have q1 : (⟨#[41, 120]⟩ : ByteArray).size = 2 := rfl; have q2 : (⟨#[43]⟩ : ByteArray).size = 1 := rfl; omega
    first | (go_simp; done) | (go_simp; omega) | (go_simp; with_reducible rfl) | (go_simp; kernel_rfl)
  simp only [Act.put, List.setIfInBounds_toArray, List.set_cons_zero, List.set_cons_succ]
  refine wpAnyH_ready (rs := [22]) (by kernel_rfl) (by simp) (AllReadyH.cons rfl (fun K hK => ?_) AllReadyH.nil)
  go_simp
  go_wp2_with fail
  refine (HC3.out _).mono ?_
  rintro e w_3 ⟨rfl, hb_3⟩
  refine hK.out _ _ (hH2.keep hb_3) (fun hH3 => ?_)
  try simp only [Act.put, List.setIfInBounds_toArray, List.set_cons_zero, List.set_cons_succ]
  clear hK K
  refine take_lit (i := 23) (v := (.string (((((⟨#[114, 117, 108, 101, 40]⟩ ++ T1) ++ ⟨#[43]⟩) ++ T2) ++ ⟨#[41, 120]⟩) ++ T3))) (by kernel_rfl) (by kernel_rfl) (by kernel_rfl) (by kernel_rfl) (fun _ _ _ _ h => h) hH3 (fun oi hoi => ?_)
  simp only [List.getElem?_toArray, List.getElem?_cons_succ, List.getElem?_cons_zero, Option.some.injEq] at hoi
  subst hoi
  refine ⟨.inl ⟨by rfl, fun w hSw => ?_⟩, ?_⟩
  · skip
    have hz : ¬ 9223372036854775807 < ((((⟨#[114, 117, 108, 101, 40]⟩ ++ T1) ++ ⟨#[43]⟩) ++ T2) ++ ⟨#[41, 120]⟩ : ByteArray).size + (T3 : ByteArray).size := by (try simp only [ByteArray.size_append]); have q0 : (⟨#[114, 117, 108, 101, 40]⟩ : ByteArray).size = 5 := rfl; have q1 : (⟨#[41, 120]⟩ : ByteArray).size = 2 := rfl; have q2 : (⟨#[43]⟩ : ByteArray).size = 1 := rfl; omega
    first | (go_simp; done) | (go_simp; omega) | (go_simp; with_reducible rfl) | (go_simp; kernel_rfl)
  simp only [Act.put, List.setIfInBounds_toArray, List.set_cons_zero, List.set_cons_succ]
  refine take_lit (i := 24) (v := (.string (((((⟨#[114, 117, 108, 101, 40]⟩ ++ T1) ++ ⟨#[43]⟩) ++ T2) ++ ⟨#[41, 120]⟩) ++ T3))) (by kernel_rfl) (by kernel_rfl) (by kernel_rfl) (by kernel_rfl) (fun _ _ _ _ h => h) hH3 (fun oi hoi => ?_)
  simp only [List.getElem?_toArray, List.getElem?_cons_succ, List.getElem?_cons_zero, Option.some.injEq] at hoi
  subst hoi
  refine ⟨.inl ⟨by rfl, fun w hSw => ?_⟩, ?_⟩
  · skip
    first | (go_simp; done) | (go_simp; omega) | (go_simp; with_reducible rfl) | (go_simp; kernel_rfl)
  simp only [Act.put, List.setIfInBounds_toArray, List.set_cons_zero, List.set_cons_succ]
  refine wpAnyH_done (by kernel_rfl) ?_ _
  go_wp2_with fail
  go_ret
  subst hg
  exact ⟨rfl, hH3.2.2⟩
set_option maxHeartbeats 8000000 in
set_option maxRecDepth 100000 in
theorem rline_33 (A : Option Addr) (ns : List Nd) (c a : Nat) (x : Nd) (w : World) (hseg : Seg w w.heap.size A (ns.flatMap ncs)) (hx : ns[a]? = some x) (hk : x.kind = 3) (hs : x.sub = 3) :
    Calls Tryz.prog 33 #[.slice A ns.length c, .int .i64 (a : Int)] w fun e w' => e = .returned (.string (rulK ++ starT x.ht true ++ pluK ++ starT x.dp true ++ cxK ++ starT x.wd true)) ∧ Below w.heap.size w w' := by
  have HC1 := Lib.hid (fun (W : World) => rstar_any x.ht true W)
  have hz1 := starT_size x.ht true
  generalize starT x.ht true = T1 at *
  have HC2 := Lib.hid (fun (W : World) => rstar_any x.dp true W)
  have hz2 := starT_size x.dp true
  generalize starT x.dp true = T2 at *
  have HC3 := Lib.hid (fun (W : World) => rstar_any x.wd true W)
  have hz3 := starT_size x.wd true
  generalize starT x.wd true = T3 at *
  obtain ⟨b, off, rfl, hb, hn⟩ := seg_node hseg hx
  have hal : (a : Int) < (ns.length : Int) := by have := (List.getElem?_eq_some_iff.1 hx).1; omega
  have e1 : (x.kind == 1) = false := by simp [hk]
  have e2 : (x.kind == 2) = false := by simp [hk]
  have e3 : (x.kind == 3) = true := by simp [hk]
  clear hx hseg
  generalize ns.length = ln at *
  go_enter Tryz.func33, Tryz.ntmps33
  go_upto_region 2 with (first | (refine wpList_load_node rfl _ rfl _ _ rfl _ hn ?_) | (refine wpList_alloc_node rfl rfl ?_) | (refine wpList_store_node rfl _ _ rfl _ _ _ rfl rfl _ (by repeat (first | (apply Blk.new'; first | rfl | (simp; done)) | assumption | apply Blk.alloc)) ?_))
  rw [setRow_new _ _ _ _ _ rfl]
  have hH0 : Hd w w.heap.size x (w.alloc (.cells (nc x) 36)) := ⟨(Blk.new w 36 (nc x)).node, by simp, andAlloc (Below.refl w.heap.size w) _⟩
  generalize w.alloc (.cells (nc x) 36) = W at hH0 ⊢
  generalize hg : w.heap.size = g0 at hH0 ⊢
  have k0 := hH0.at (j := 0) rfl
  clear hn hb
  go_upto_region 13 with fail
  clear k0
  refine wp_region_held_drew (S := Hd w g0 x) (by kernel_rfl) (hH0.drew) (fun hH => ?_)
  refine take_lit (i := 0) (v := (.pointer (some ⟨g0, 4, none⟩))) (by kernel_rfl) (by kernel_rfl) (by kernel_rfl) (by kernel_rfl) (fun _ _ _ _ h => h) hH (fun oi hoi => ?_)
  simp only [List.getElem?_toArray, List.getElem?_cons_succ, List.getElem?_cons_zero, Option.some.injEq] at hoi
  subst hoi
  refine ⟨.inl ⟨by rfl, fun w hSw => ?_⟩, ?_⟩
  · skip
    first | (go_simp; done) | (go_simp; omega) | (go_simp; with_reducible rfl) | (go_simp; kernel_rfl)
  simp only [Act.put, List.setIfInBounds_toArray, List.set_cons_zero, List.set_cons_succ]
  refine take_lit (i := 1) (v := (.int .i64 (x.ht))) (by kernel_rfl) (by kernel_rfl) (by kernel_rfl) (by kernel_rfl) (fun _ _ _ _ h => h) hH (fun oi hoi => ?_)
  simp only [List.getElem?_toArray, List.getElem?_cons_succ, List.getElem?_cons_zero, Option.some.injEq] at hoi
  subst hoi
  refine ⟨.inl ⟨by rfl, fun w hSw => ?_⟩, ?_⟩
  · skip
    have z := hSw.at (j := 4) rfl
    first | (go_simp; done) | (go_simp; omega) | (go_simp; with_reducible rfl) | (go_simp; kernel_rfl)
  simp only [Act.put, List.setIfInBounds_toArray, List.set_cons_zero, List.set_cons_succ]
  refine take_lit (i := 2) (v := (.pointer (some ⟨g0, 17, none⟩))) (by kernel_rfl) (by kernel_rfl) (by kernel_rfl) (by kernel_rfl) (fun _ _ _ _ h => h) hH (fun oi hoi => ?_)
  simp only [List.getElem?_toArray, List.getElem?_cons_succ, List.getElem?_cons_zero, Option.some.injEq] at hoi
  subst hoi
  refine ⟨.inl ⟨by rfl, fun w hSw => ?_⟩, ?_⟩
  · skip
    first | (go_simp; done) | (go_simp; omega) | (go_simp; with_reducible rfl) | (go_simp; kernel_rfl)
  simp only [Act.put, List.setIfInBounds_toArray, List.set_cons_zero, List.set_cons_succ]
  refine take_lit (i := 3) (v := (.int .i64 (3))) (by kernel_rfl) (by kernel_rfl) (by kernel_rfl) (by kernel_rfl) (fun _ _ _ _ h => h) hH (fun oi hoi => ?_)
  simp only [List.getElem?_toArray, List.getElem?_cons_succ, List.getElem?_cons_zero, Option.some.injEq] at hoi
  subst hoi
  refine ⟨.inl ⟨by rfl, fun w hSw => ?_⟩, ?_⟩
  · skip
    have z := hSw.at (j := 17) (u := .int .i64 3) (by rw [← hs]; rfl)
    first | (go_simp; done) | (go_simp; omega) | (go_simp; with_reducible rfl) | (go_simp; kernel_rfl)
  simp only [Act.put, List.setIfInBounds_toArray, List.set_cons_zero, List.set_cons_succ]
  refine take_lit (i := 4) (v := (.bool true)) (by kernel_rfl) (by kernel_rfl) (by kernel_rfl) (by kernel_rfl) (fun _ _ _ _ h => h) hH (fun oi hoi => ?_)
  simp only [List.getElem?_toArray, List.getElem?_cons_succ, List.getElem?_cons_zero, Option.some.injEq] at hoi
  subst hoi
  refine ⟨.inl ⟨by rfl, fun w hSw => ?_⟩, ?_⟩
  · skip
    first | (go_simp; done) | (go_simp; omega) | (go_simp; with_reducible rfl) | (go_simp; kernel_rfl)
  simp only [Act.put, List.setIfInBounds_toArray, List.set_cons_zero, List.set_cons_succ]
  refine take_lit (i := 8) (v := (.pointer (some ⟨g0, 5, none⟩))) (by kernel_rfl) (by kernel_rfl) (by kernel_rfl) (by kernel_rfl) (fun _ _ _ _ h => h) hH (fun oi hoi => ?_)
  simp only [List.getElem?_toArray, List.getElem?_cons_succ, List.getElem?_cons_zero, Option.some.injEq] at hoi
  subst hoi
  refine ⟨.inl ⟨by rfl, fun w hSw => ?_⟩, ?_⟩
  · skip
    first | (go_simp; done) | (go_simp; omega) | (go_simp; with_reducible rfl) | (go_simp; kernel_rfl)
  simp only [Act.put, List.setIfInBounds_toArray, List.set_cons_zero, List.set_cons_succ]
  refine take_lit (i := 9) (v := (.int .i64 (x.dp))) (by kernel_rfl) (by kernel_rfl) (by kernel_rfl) (by kernel_rfl) (fun _ _ _ _ h => h) hH (fun oi hoi => ?_)
  simp only [List.getElem?_toArray, List.getElem?_cons_succ, List.getElem?_cons_zero, Option.some.injEq] at hoi
  subst hoi
  refine ⟨.inl ⟨by rfl, fun w hSw => ?_⟩, ?_⟩
  · skip
    have z := hSw.at (j := 5) rfl
    first | (go_simp; done) | (go_simp; omega) | (go_simp; with_reducible rfl) | (go_simp; kernel_rfl)
  simp only [Act.put, List.setIfInBounds_toArray, List.set_cons_zero, List.set_cons_succ]
  refine take_lit (i := 10) (v := (.pointer (some ⟨g0, 17, none⟩))) (by kernel_rfl) (by kernel_rfl) (by kernel_rfl) (by kernel_rfl) (fun _ _ _ _ h => h) hH (fun oi hoi => ?_)
  simp only [List.getElem?_toArray, List.getElem?_cons_succ, List.getElem?_cons_zero, Option.some.injEq] at hoi
  subst hoi
  refine ⟨.inl ⟨by rfl, fun w hSw => ?_⟩, ?_⟩
  · skip
    first | (go_simp; done) | (go_simp; omega) | (go_simp; with_reducible rfl) | (go_simp; kernel_rfl)
  simp only [Act.put, List.setIfInBounds_toArray, List.set_cons_zero, List.set_cons_succ]
  refine take_lit (i := 11) (v := (.int .i64 (3))) (by kernel_rfl) (by kernel_rfl) (by kernel_rfl) (by kernel_rfl) (fun _ _ _ _ h => h) hH (fun oi hoi => ?_)
  simp only [List.getElem?_toArray, List.getElem?_cons_succ, List.getElem?_cons_zero, Option.some.injEq] at hoi
  subst hoi
  refine ⟨.inl ⟨by rfl, fun w hSw => ?_⟩, ?_⟩
  · skip
    have z := hSw.at (j := 17) (u := .int .i64 3) (by rw [← hs]; rfl)
    first | (go_simp; done) | (go_simp; omega) | (go_simp; with_reducible rfl) | (go_simp; kernel_rfl)
  simp only [Act.put, List.setIfInBounds_toArray, List.set_cons_zero, List.set_cons_succ]
  refine take_lit (i := 12) (v := (.bool true)) (by kernel_rfl) (by kernel_rfl) (by kernel_rfl) (by kernel_rfl) (fun _ _ _ _ h => h) hH (fun oi hoi => ?_)
  simp only [List.getElem?_toArray, List.getElem?_cons_succ, List.getElem?_cons_zero, Option.some.injEq] at hoi
  subst hoi
  refine ⟨.inl ⟨by rfl, fun w hSw => ?_⟩, ?_⟩
  · skip
    first | (go_simp; done) | (go_simp; omega) | (go_simp; with_reducible rfl) | (go_simp; kernel_rfl)
  simp only [Act.put, List.setIfInBounds_toArray, List.set_cons_zero, List.set_cons_succ]
  refine take_lit (i := 16) (v := (.pointer (some ⟨g0, 3, none⟩))) (by kernel_rfl) (by kernel_rfl) (by kernel_rfl) (by kernel_rfl) (fun _ _ _ _ h => h) hH (fun oi hoi => ?_)
  simp only [List.getElem?_toArray, List.getElem?_cons_succ, List.getElem?_cons_zero, Option.some.injEq] at hoi
  subst hoi
  refine ⟨.inl ⟨by rfl, fun w hSw => ?_⟩, ?_⟩
  · skip
    first | (go_simp; done) | (go_simp; omega) | (go_simp; with_reducible rfl) | (go_simp; kernel_rfl)
  simp only [Act.put, List.setIfInBounds_toArray, List.set_cons_zero, List.set_cons_succ]
  refine take_lit (i := 17) (v := (.int .i64 (x.wd))) (by kernel_rfl) (by kernel_rfl) (by kernel_rfl) (by kernel_rfl) (fun _ _ _ _ h => h) hH (fun oi hoi => ?_)
  simp only [List.getElem?_toArray, List.getElem?_cons_succ, List.getElem?_cons_zero, Option.some.injEq] at hoi
  subst hoi
  refine ⟨.inl ⟨by rfl, fun w hSw => ?_⟩, ?_⟩
  · skip
    have z := hSw.at (j := 3) rfl
    first | (go_simp; done) | (go_simp; omega) | (go_simp; with_reducible rfl) | (go_simp; kernel_rfl)
  simp only [Act.put, List.setIfInBounds_toArray, List.set_cons_zero, List.set_cons_succ]
  refine take_lit (i := 18) (v := (.pointer (some ⟨g0, 17, none⟩))) (by kernel_rfl) (by kernel_rfl) (by kernel_rfl) (by kernel_rfl) (fun _ _ _ _ h => h) hH (fun oi hoi => ?_)
  simp only [List.getElem?_toArray, List.getElem?_cons_succ, List.getElem?_cons_zero, Option.some.injEq] at hoi
  subst hoi
  refine ⟨.inl ⟨by rfl, fun w hSw => ?_⟩, ?_⟩
  · skip
    first | (go_simp; done) | (go_simp; omega) | (go_simp; with_reducible rfl) | (go_simp; kernel_rfl)
  simp only [Act.put, List.setIfInBounds_toArray, List.set_cons_zero, List.set_cons_succ]
  refine take_lit (i := 19) (v := (.int .i64 (3))) (by kernel_rfl) (by kernel_rfl) (by kernel_rfl) (by kernel_rfl) (fun _ _ _ _ h => h) hH (fun oi hoi => ?_)
  simp only [List.getElem?_toArray, List.getElem?_cons_succ, List.getElem?_cons_zero, Option.some.injEq] at hoi
  subst hoi
  refine ⟨.inl ⟨by rfl, fun w hSw => ?_⟩, ?_⟩
  · skip
    have z := hSw.at (j := 17) (u := .int .i64 3) (by rw [← hs]; rfl)
    first | (go_simp; done) | (go_simp; omega) | (go_simp; with_reducible rfl) | (go_simp; kernel_rfl)
  simp only [Act.put, List.setIfInBounds_toArray, List.set_cons_zero, List.set_cons_succ]
  refine take_lit (i := 20) (v := (.int .i64 (1))) (by kernel_rfl) (by kernel_rfl) (by kernel_rfl) (by kernel_rfl) (fun _ _ _ _ h => h) hH (fun oi hoi => ?_)
  simp only [List.getElem?_toArray, List.getElem?_cons_succ, List.getElem?_cons_zero, Option.some.injEq] at hoi
  subst hoi
  refine ⟨.inl ⟨by rfl, fun w hSw => ?_⟩, ?_⟩
  · skip
    first | (go_simp; done) | (go_simp; omega) | (go_simp; with_reducible rfl) | (go_simp; kernel_rfl)
  simp only [Act.put, List.setIfInBounds_toArray, List.set_cons_zero, List.set_cons_succ]
  refine take_lit (i := 21) (v := (.bool true)) (by kernel_rfl) (by kernel_rfl) (by kernel_rfl) (by kernel_rfl) (fun _ _ _ _ h => h) hH (fun oi hoi => ?_)
  simp only [List.getElem?_toArray, List.getElem?_cons_succ, List.getElem?_cons_zero, Option.some.injEq] at hoi
  subst hoi
  refine ⟨.inl ⟨by rfl, fun w hSw => ?_⟩, ?_⟩
  · skip
    first | (go_simp; done) | (go_simp; omega) | (go_simp; with_reducible rfl) | (go_simp; kernel_rfl)
  simp only [Act.put, List.setIfInBounds_toArray, List.set_cons_zero, List.set_cons_succ]
  refine wpAnyH_ready (rs := [5]) (by kernel_rfl) (by simp) (AllReadyH.cons rfl (fun K hK => ?_) AllReadyH.nil)
  go_simp
  go_wp2_with fail
  refine (HC1.out _).mono ?_
  rintro e w_1 ⟨rfl, hb_1⟩
  refine hK.out _ _ (hH.keep hb_1) (fun hH1 => ?_)
  try simp only [Act.put, List.setIfInBounds_toArray, List.set_cons_zero, List.set_cons_succ]
  clear hK K
  refine take_lit (i := 6) (v := (.string (⟨#[114, 117, 108, 101, 40]⟩ ++ T1))) (by kernel_rfl) (by kernel_rfl) (by kernel_rfl) (by kernel_rfl) (fun _ _ _ _ h => h) hH1 (fun oi hoi => ?_)
  simp only [List.getElem?_toArray, List.getElem?_cons_succ, List.getElem?_cons_zero, Option.some.injEq] at hoi
  subst hoi
  refine ⟨.inl ⟨by rfl, fun w hSw => ?_⟩, ?_⟩
  · skip
    have hz : ¬ 9223372036854775807 < (⟨#[114, 117, 108, 101, 40]⟩ : ByteArray).size + (T1 : ByteArray).size := by (try simp only [ByteArray.size_append]); have q0 : (⟨#[114, 117, 108, 101, 40]⟩ : ByteArray).size = 5 := rfl; omega
    first | (go_simp; done) | (go_simp; omega) | (go_simp; with_reducible rfl) | (go_simp; kernel_rfl)
  simp only [Act.put, List.setIfInBounds_toArray, List.set_cons_zero, List.set_cons_succ]
  refine take_lit (i := 7) (v := (.string ((⟨#[114, 117, 108, 101, 40]⟩ ++ T1) ++ ⟨#[43]⟩))) (by kernel_rfl) (by kernel_rfl) (by kernel_rfl) (by kernel_rfl) (fun _ _ _ _ h => h) hH1 (fun oi hoi => ?_)
  simp only [List.getElem?_toArray, List.getElem?_cons_succ, List.getElem?_cons_zero, Option.some.injEq] at hoi
  subst hoi
  refine ⟨.inl ⟨by rfl, fun w hSw => ?_⟩, ?_⟩
  · skip
    have hz : ¬ 9223372036854775807 < (⟨#[114, 117, 108, 101, 40]⟩ ++ T1 : ByteArray).size + (⟨#[43]⟩ : ByteArray).size := by (try simp only [ByteArray.size_append]); have q0 : (⟨#[114, 117, 108, 101, 40]⟩ : ByteArray).size = 5 := rfl; have q1 : (⟨#[43]⟩ : ByteArray).size = 1 := rfl; omega
    first | (go_simp; done) | (go_simp; omega) | (go_simp; with_reducible rfl) | (go_simp; kernel_rfl)
  simp only [Act.put, List.setIfInBounds_toArray, List.set_cons_zero, List.set_cons_succ]
  refine wpAnyH_ready (rs := [13]) (by kernel_rfl) (by simp) (AllReadyH.cons rfl (fun K hK => ?_) AllReadyH.nil)
  go_simp
  go_wp2_with fail
  refine (HC2.out _).mono ?_
  rintro e w_2 ⟨rfl, hb_2⟩
  refine hK.out _ _ (hH1.keep hb_2) (fun hH2 => ?_)
  try simp only [Act.put, List.setIfInBounds_toArray, List.set_cons_zero, List.set_cons_succ]
  clear hK K
  refine take_lit (i := 14) (v := (.string (((⟨#[114, 117, 108, 101, 40]⟩ ++ T1) ++ ⟨#[43]⟩) ++ T2))) (by kernel_rfl) (by kernel_rfl) (by kernel_rfl) (by kernel_rfl) (fun _ _ _ _ h => h) hH2 (fun oi hoi => ?_)
  simp only [List.getElem?_toArray, List.getElem?_cons_succ, List.getElem?_cons_zero, Option.some.injEq] at hoi
  subst hoi
  refine ⟨.inl ⟨by rfl, fun w hSw => ?_⟩, ?_⟩
  · skip
    have hz : ¬ 9223372036854775807 < ((⟨#[114, 117, 108, 101, 40]⟩ ++ T1) ++ ⟨#[43]⟩ : ByteArray).size + (T2 : ByteArray).size := by (try simp only [ByteArray.size_append]); have q0 : (⟨#[114, 117, 108, 101, 40]⟩ : ByteArray).size = 5 := rfl; have q1 : (⟨#[43]⟩ : ByteArray).size = 1 := rfl; omega
    first | (go_simp; done) | (go_simp; omega) | (go_simp; with_reducible rfl) | (go_simp; kernel_rfl)
  simp only [Act.put, List.setIfInBounds_toArray, List.set_cons_zero, List.set_cons_succ]
  refine take_lit (i := 15) (v := (.string ((((⟨#[114, 117, 108, 101, 40]⟩ ++ T1) ++ ⟨#[43]⟩) ++ T2) ++ ⟨#[41, 120]⟩))) (by kernel_rfl) (by kernel_rfl) (by kernel_rfl) (by kernel_rfl) (fun _ _ _ _ h => h) hH2 (fun oi hoi => ?_)
  simp only [List.getElem?_toArray, List.getElem?_cons_succ, List.getElem?_cons_zero, Option.some.injEq] at hoi
  subst hoi
  refine ⟨.inl ⟨by rfl, fun w hSw => ?_⟩, ?_⟩
  · skip
    have hz : ¬ 9223372036854775807 < (((⟨#[114, 117, 108, 101, 40]⟩ ++ T1) ++ ⟨#[43]⟩) ++ T2 : ByteArray).size + (⟨#[41, 120]⟩ : ByteArray).size := by (try simp only [ByteArray.size_append]); have q0 : (⟨#[114, 117, 108, 101, 40]⟩ : ByteArray).size = 5 := rfl; have q1 : (⟨#[41, 120]⟩ : ByteArray).size = 2 := rfl; have q2 : (⟨#[43]⟩ : ByteArray).size = 1 := rfl; omega
    first | (go_simp; done) | (go_simp; omega) | (go_simp; with_reducible rfl) | (go_simp; kernel_rfl)
  simp only [Act.put, List.setIfInBounds_toArray, List.set_cons_zero, List.set_cons_succ]
  refine wpAnyH_ready (rs := [22]) (by kernel_rfl) (by simp) (AllReadyH.cons rfl (fun K hK => ?_) AllReadyH.nil)
  go_simp
  go_wp2_with fail
  refine (HC3.out _).mono ?_
  rintro e w_3 ⟨rfl, hb_3⟩
  refine hK.out _ _ (hH2.keep hb_3) (fun hH3 => ?_)
  try simp only [Act.put, List.setIfInBounds_toArray, List.set_cons_zero, List.set_cons_succ]
  clear hK K
  refine take_lit (i := 23) (v := (.string (((((⟨#[114, 117, 108, 101, 40]⟩ ++ T1) ++ ⟨#[43]⟩) ++ T2) ++ ⟨#[41, 120]⟩) ++ T3))) (by kernel_rfl) (by kernel_rfl) (by kernel_rfl) (by kernel_rfl) (fun _ _ _ _ h => h) hH3 (fun oi hoi => ?_)
  simp only [List.getElem?_toArray, List.getElem?_cons_succ, List.getElem?_cons_zero, Option.some.injEq] at hoi
  subst hoi
  refine ⟨.inl ⟨by rfl, fun w hSw => ?_⟩, ?_⟩
  · skip
    have hz : ¬ 9223372036854775807 < ((((⟨#[114, 117, 108, 101, 40]⟩ ++ T1) ++ ⟨#[43]⟩) ++ T2) ++ ⟨#[41, 120]⟩ : ByteArray).size + (T3 : ByteArray).size := by (try simp only [ByteArray.size_append]); have q0 : (⟨#[114, 117, 108, 101, 40]⟩ : ByteArray).size = 5 := rfl; have q1 : (⟨#[41, 120]⟩ : ByteArray).size = 2 := rfl; have q2 : (⟨#[43]⟩ : ByteArray).size = 1 := rfl; omega
    first | (go_simp; done) | (go_simp; omega) | (go_simp; with_reducible rfl) | (go_simp; kernel_rfl)
  simp only [Act.put, List.setIfInBounds_toArray, List.set_cons_zero, List.set_cons_succ]
  refine take_lit (i := 24) (v := (.string (((((⟨#[114, 117, 108, 101, 40]⟩ ++ T1) ++ ⟨#[43]⟩) ++ T2) ++ ⟨#[41, 120]⟩) ++ T3))) (by kernel_rfl) (by kernel_rfl) (by kernel_rfl) (by kernel_rfl) (fun _ _ _ _ h => h) hH3 (fun oi hoi => ?_)
  simp only [List.getElem?_toArray, List.getElem?_cons_succ, List.getElem?_cons_zero, Option.some.injEq] at hoi
  subst hoi
  refine ⟨.inl ⟨by rfl, fun w hSw => ?_⟩, ?_⟩
  · skip
    first | (go_simp; done) | (go_simp; omega) | (go_simp; with_reducible rfl) | (go_simp; kernel_rfl)
  simp only [Act.put, List.setIfInBounds_toArray, List.set_cons_zero, List.set_cons_succ]
  refine wpAnyH_done (by kernel_rfl) ?_ _
  go_wp2_with fail
  go_ret
  subst hg
  exact ⟨rfl, hH3.2.2⟩
set_option maxHeartbeats 8000000 in
set_option maxRecDepth 100000 in
theorem rline_4 (A : Option Addr) (ns : List Nd) (c a : Nat) (x : Nd) (w : World) (hseg : Seg w w.heap.size A (ns.flatMap ncs)) (hx : ns[a]? = some x) (hk : x.kind = 4) (hg4 : gBox x = true) :
    Calls Tryz.prog 33 #[.slice A ns.length c, .int .i64 (a : Int)] w fun e w' => e = .returned (.string (boxT hbK x)) ∧ Below w.heap.size w w' := by
  have HC1 := Lib.hid (fun (W : World) => rbox_any ⟨#[104, 98, 111, 120]⟩ x W rfl hg4)
  change Calls _ _ _ _ fun e w' => e = .returned (.string (boxT ⟨#[104, 98, 111, 120]⟩ x)) ∧ _
  generalize boxT ⟨#[104, 98, 111, 120]⟩ x = T1 at *
  obtain ⟨b, off, rfl, hb, hn⟩ := seg_node hseg hx
  have hal : (a : Int) < (ns.length : Int) := by have := (List.getElem?_eq_some_iff.1 hx).1; omega
  have e1 : (x.kind == 1) = false := by simp [hk]
  have e2 : (x.kind == 2) = false := by simp [hk]
  have e3 : (x.kind == 3) = false := by simp [hk]
  have e4 : (x.kind == 4) = true := by simp [hk]
  clear hx hseg
  generalize ns.length = ln at *
  go_enter Tryz.func33, Tryz.ntmps33
  go_upto_region 2 with (first | (refine wpList_load_node rfl _ rfl _ _ rfl _ hn ?_) | (refine wpList_alloc_node rfl rfl ?_) | (refine wpList_store_node rfl _ _ rfl _ _ _ rfl rfl _ (by repeat (first | (apply Blk.new'; first | rfl | (simp; done)) | assumption | apply Blk.alloc)) ?_))
  rw [setRow_new _ _ _ _ _ rfl]
  have hH0 : Hd w w.heap.size x (w.alloc (.cells (nc x) 36)) := ⟨(Blk.new w 36 (nc x)).node, by simp, andAlloc (Below.refl w.heap.size w) _⟩
  generalize w.alloc (.cells (nc x) 36) = W at hH0 ⊢
  generalize hg : w.heap.size = g0 at hH0 ⊢
  have k0 := hH0.at (j := 0) rfl
  clear hn hb
  have hn0 := hH0.1
  go_wp2_with (refine wpList_load_node rfl _ rfl _ _ rfl _ hn0 ?_)
  refine (HC1.out _).mono ?_
  rintro e w1 ⟨rfl, hb1⟩
  have HH1 := Lib.hid (hH0.keep hb1)
  clear hb1 hn0
  go_wp2_with fail
  go_ret
  subst hg
  exact ⟨rfl, HH1.out.2.2⟩
set_option maxHeartbeats 8000000 in
set_option maxRecDepth 100000 in
theorem rline_5 (A : Option Addr) (ns : List Nd) (c a : Nat) (x : Nd) (w : World) (hseg : Seg w w.heap.size A (ns.flatMap ncs)) (hx : ns[a]? = some x) (hk : x.kind = 5) (hg4 : gBox x = true) :
    Calls Tryz.prog 33 #[.slice A ns.length c, .int .i64 (a : Int)] w fun e w' => e = .returned (.string (boxT vbK x)) ∧ Below w.heap.size w w' := by
  have HC1 := Lib.hid (fun (W : World) => rbox_any ⟨#[118, 98, 111, 120]⟩ x W rfl hg4)
  change Calls _ _ _ _ fun e w' => e = .returned (.string (boxT ⟨#[118, 98, 111, 120]⟩ x)) ∧ _
  generalize boxT ⟨#[118, 98, 111, 120]⟩ x = T1 at *
  obtain ⟨b, off, rfl, hb, hn⟩ := seg_node hseg hx
  have hal : (a : Int) < (ns.length : Int) := by have := (List.getElem?_eq_some_iff.1 hx).1; omega
  have e1 : (x.kind == 1) = false := by simp [hk]
  have e2 : (x.kind == 2) = false := by simp [hk]
  have e3 : (x.kind == 3) = false := by simp [hk]
  have e4 : (x.kind == 4) = false := by simp [hk]
  have e5 : (x.kind == 5) = true := by simp [hk]
  clear hx hseg
  generalize ns.length = ln at *
  go_enter Tryz.func33, Tryz.ntmps33
  go_upto_region 2 with (first | (refine wpList_load_node rfl _ rfl _ _ rfl _ hn ?_) | (refine wpList_alloc_node rfl rfl ?_) | (refine wpList_store_node rfl _ _ rfl _ _ _ rfl rfl _ (by repeat (first | (apply Blk.new'; first | rfl | (simp; done)) | assumption | apply Blk.alloc)) ?_))
  rw [setRow_new _ _ _ _ _ rfl]
  have hH0 : Hd w w.heap.size x (w.alloc (.cells (nc x) 36)) := ⟨(Blk.new w 36 (nc x)).node, by simp, andAlloc (Below.refl w.heap.size w) _⟩
  generalize w.alloc (.cells (nc x) 36) = W at hH0 ⊢
  generalize hg : w.heap.size = g0 at hH0 ⊢
  have k0 := hH0.at (j := 0) rfl
  clear hn hb
  have hn0 := hH0.1
  go_wp2_with (refine wpList_load_node rfl _ rfl _ _ rfl _ hn0 ?_)
  refine (HC1.out _).mono ?_
  rintro e w1 ⟨rfl, hb1⟩
  have HH1 := Lib.hid (hH0.keep hb1)
  clear hb1 hn0
  go_wp2_with fail
  go_ret
  subst hg
  exact ⟨rfl, HH1.out.2.2⟩
set_option maxHeartbeats 8000000 in
set_option maxRecDepth 100000 in
theorem rline_7 (A : Option Addr) (ns : List Nd) (c a : Nat) (x : Nd) (w : World) (hseg : Seg w w.heap.size A (ns.flatMap ncs)) (hx : ns[a]? = some x) (hk : x.kind = 7) (hgl : Gl.glueB x.gn x.gs x.gh x.ga x.gb = true) :
    Calls Tryz.prog 33 #[.slice A ns.length c, .int .i64 (a : Int)] w fun e w' => e = .returned (.string (gluK ++ Gl.shT x.gn x.gs x.gh x.ga x.gb)) ∧ Below w.heap.size w w' := by
  have HC1 := Lib.hid (fun (W : World) => rglt_any x.gn x.gs x.gh x.ga x.gb W hgl)
  have hz1 := shT_size x.gn x.gs x.gh x.ga x.gb
  generalize Gl.shT x.gn x.gs x.gh x.ga x.gb = T1 at *
  have hq : ¬ 9223372036854775807 < (⟨#[103, 108, 117, 101, 32]⟩ : ByteArray).size + T1.size := by show ¬ 9223372036854775807 < 5 + _; omega
  clear hgl
  obtain ⟨b, off, rfl, hb, hn⟩ := seg_node hseg hx
  have hal : (a : Int) < (ns.length : Int) := by have := (List.getElem?_eq_some_iff.1 hx).1; omega
  have e1 : (x.kind == 1) = false := by simp [hk]
  have e2 : (x.kind == 2) = false := by simp [hk]
  have e3 : (x.kind == 3) = false := by simp [hk]
  have e4 : (x.kind == 4) = false := by simp [hk]
  have e5 : (x.kind == 5) = false := by simp [hk]
  have e7 : (x.kind == 7) = true := by simp [hk]
  clear hx hseg
  generalize ns.length = ln at *
  go_enter Tryz.func33, Tryz.ntmps33
  go_upto_region 2 with (first | (refine wpList_load_node rfl _ rfl _ _ rfl _ hn ?_) | (refine wpList_alloc_node rfl rfl ?_) | (refine wpList_store_node rfl _ _ rfl _ _ _ rfl rfl _ (by repeat (first | (apply Blk.new'; first | rfl | (simp; done)) | assumption | apply Blk.alloc)) ?_))
  rw [setRow_new _ _ _ _ _ rfl]
  have hH0 : Hd w w.heap.size x (w.alloc (.cells (nc x) 36)) := ⟨(Blk.new w 36 (nc x)).node, by simp, andAlloc (Below.refl w.heap.size w) _⟩
  generalize w.alloc (.cells (nc x) 36) = W at hH0 ⊢
  generalize hg : w.heap.size = g0 at hH0 ⊢
  have k0 := hH0.at (j := 0) rfl
  clear hn hb
  have k7 := hH0.at (j := 7) rfl; have k8 := hH0.at (j := 8) rfl; have k9 := hH0.at (j := 9) rfl; have k10 := hH0.at (j := 10) rfl; have k11 := hH0.at (j := 11) rfl
  go_wp2_with fail
  refine (HC1.out _).mono ?_
  rintro e w1 ⟨rfl, hb1⟩
  have HH1 := Lib.hid (hH0.keep hb1)
  clear hb1
  go_wp2_with fail
  go_ret
  subst hg
  exact ⟨rfl, HH1.out.2.2⟩
set_option maxHeartbeats 8000000 in
set_option maxRecDepth 100000 in
theorem rline_80 (A : Option Addr) (ns : List Nd) (c a : Nat) (x : Nd) (w : World) (hseg : Seg w w.heap.size A (ns.flatMap ncs)) (hx : ns[a]? = some x) (hk : x.kind = 8) (hs : ¬ x.sub = 2) :
    Calls Tryz.prog 33 #[.slice A ns.length c, .int .i64 (a : Int)] w fun e w' => e = .returned (.string (krnK ++ prS x.wd)) ∧ Below w.heap.size w w' := by
  have HC1 := Lib.hid (fun (W : World) => refPrint x.wd W)
  have hz1 := Gl.prS_size x.wd
  generalize prS x.wd = T1 at *
  have q1 : (x.sub == 2) = false := by simp [hs]
  have hq : ¬ 9223372036854775807 < (⟨#[107, 101, 114, 110, 32]⟩ : ByteArray).size + T1.size := by show ¬ 9223372036854775807 < 5 + _; omega
  have hq2 : ¬ 9223372036854775807 < ((⟨#[107, 101, 114, 110, 32]⟩ : ByteArray) ++ T1).size + (⟨#[32, 40, 102, 111, 114, 32, 97, 99, 99, 101, 110, 116, 41]⟩ : ByteArray).size := by rw [ByteArray.size_append]; show ¬ 9223372036854775807 < 5 + _ + 13; omega
  clear hs
  obtain ⟨b, off, rfl, hb, hn⟩ := seg_node hseg hx
  have hal : (a : Int) < (ns.length : Int) := by have := (List.getElem?_eq_some_iff.1 hx).1; omega
  have e1 : (x.kind == 1) = false := by simp [hk]
  have e2 : (x.kind == 2) = false := by simp [hk]
  have e3 : (x.kind == 3) = false := by simp [hk]
  have e4 : (x.kind == 4) = false := by simp [hk]
  have e5 : (x.kind == 5) = false := by simp [hk]
  have e7 : (x.kind == 7) = false := by simp [hk]
  have e8 : (x.kind == 8) = true := by simp [hk]
  clear hx hseg
  generalize ns.length = ln at *
  go_enter Tryz.func33, Tryz.ntmps33
  go_upto_region 2 with (first | (refine wpList_load_node rfl _ rfl _ _ rfl _ hn ?_) | (refine wpList_alloc_node rfl rfl ?_) | (refine wpList_store_node rfl _ _ rfl _ _ _ rfl rfl _ (by repeat (first | (apply Blk.new'; first | rfl | (simp; done)) | assumption | apply Blk.alloc)) ?_))
  rw [setRow_new _ _ _ _ _ rfl]
  have hH0 : Hd w w.heap.size x (w.alloc (.cells (nc x) 36)) := ⟨(Blk.new w 36 (nc x)).node, by simp, andAlloc (Below.refl w.heap.size w) _⟩
  generalize w.alloc (.cells (nc x) 36) = W at hH0 ⊢
  generalize hg : w.heap.size = g0 at hH0 ⊢
  have k0 := hH0.at (j := 0) rfl
  clear hn hb
  have k3 := hH0.at (j := 3) rfl
  have k17 := hH0.at (j := 17) rfl
  go_wp2_with fail
  refine (HC1.out _).mono ?_
  rintro e w1 ⟨rfl, hb1⟩
  have HH1 := Lib.hid (hH0.keep hb1)
  clear hb1
  go_wp2_with fail
  go_ret
  subst hg
  exact ⟨rfl, HH1.out.2.2⟩
set_option maxHeartbeats 8000000 in
set_option maxRecDepth 100000 in
theorem rline_81 (A : Option Addr) (ns : List Nd) (c a : Nat) (x : Nd) (w : World) (hseg : Seg w w.heap.size A (ns.flatMap ncs)) (hx : ns[a]? = some x) (hk : x.kind = 8) (hs : x.sub = 2) :
    Calls Tryz.prog 33 #[.slice A ns.length c, .int .i64 (a : Int)] w fun e w' => e = .returned (.string (krnK ++ prS x.wd ++ accK)) ∧ Below w.heap.size w w' := by
  have HC1 := Lib.hid (fun (W : World) => refPrint x.wd W)
  have hz1 := Gl.prS_size x.wd
  generalize prS x.wd = T1 at *
  have q1 : (x.sub == 2) = true := by simp [hs]
  have hq : ¬ 9223372036854775807 < (⟨#[107, 101, 114, 110, 32]⟩ : ByteArray).size + T1.size := by show ¬ 9223372036854775807 < 5 + _; omega
  have hq2 : ¬ 9223372036854775807 < ((⟨#[107, 101, 114, 110, 32]⟩ : ByteArray) ++ T1).size + (⟨#[32, 40, 102, 111, 114, 32, 97, 99, 99, 101, 110, 116, 41]⟩ : ByteArray).size := by rw [ByteArray.size_append]; show ¬ 9223372036854775807 < 5 + _ + 13; omega
  clear hs
  obtain ⟨b, off, rfl, hb, hn⟩ := seg_node hseg hx
  have hal : (a : Int) < (ns.length : Int) := by have := (List.getElem?_eq_some_iff.1 hx).1; omega
  have e1 : (x.kind == 1) = false := by simp [hk]
  have e2 : (x.kind == 2) = false := by simp [hk]
  have e3 : (x.kind == 3) = false := by simp [hk]
  have e4 : (x.kind == 4) = false := by simp [hk]
  have e5 : (x.kind == 5) = false := by simp [hk]
  have e7 : (x.kind == 7) = false := by simp [hk]
  have e8 : (x.kind == 8) = true := by simp [hk]
  clear hx hseg
  generalize ns.length = ln at *
  go_enter Tryz.func33, Tryz.ntmps33
  go_upto_region 2 with (first | (refine wpList_load_node rfl _ rfl _ _ rfl _ hn ?_) | (refine wpList_alloc_node rfl rfl ?_) | (refine wpList_store_node rfl _ _ rfl _ _ _ rfl rfl _ (by repeat (first | (apply Blk.new'; first | rfl | (simp; done)) | assumption | apply Blk.alloc)) ?_))
  rw [setRow_new _ _ _ _ _ rfl]
  have hH0 : Hd w w.heap.size x (w.alloc (.cells (nc x) 36)) := ⟨(Blk.new w 36 (nc x)).node, by simp, andAlloc (Below.refl w.heap.size w) _⟩
  generalize w.alloc (.cells (nc x) 36) = W at hH0 ⊢
  generalize hg : w.heap.size = g0 at hH0 ⊢
  have k0 := hH0.at (j := 0) rfl
  clear hn hb
  have k3 := hH0.at (j := 3) rfl
  have k17 := hH0.at (j := 17) rfl
  go_wp2_with fail
  refine (HC1.out _).mono ?_
  rintro e w1 ⟨rfl, hb1⟩
  have HH1 := Lib.hid (hH0.keep hb1)
  clear hb1
  go_wp2_with fail
  go_ret
  subst hg
  exact ⟨rfl, HH1.out.2.2⟩
set_option maxHeartbeats 8000000 in
set_option maxRecDepth 100000 in
theorem rline_9 (A : Option Addr) (ns : List Nd) (c a : Nat) (x : Nd) (w : World) (hseg : Seg w w.heap.size A (ns.flatMap ncs)) (hx : ns[a]? = some x) (hk : x.kind = 9) (hp0 : -9223372036854775807 ≤ x.pen) (hp1 : x.pen ≤ 9223372036854775807) :
    Calls Tryz.prog 33 #[.slice A ns.length c, .int .i64 (a : Int)] w fun e w' => e = .returned (.string (penK ++ itT x.pen)) ∧ Below w.heap.size w w' := by
  have HC1 := Lib.hid (fun (W : World) => rwhole_any x.pen hp0 hp1 W)
  have hz1 := itT_size hp0 hp1
  generalize itT x.pen = T1 at *
  have hq : ¬ 9223372036854775807 < (⟨#[112, 101, 110, 97, 108, 116, 121, 32]⟩ : ByteArray).size + T1.size := by show ¬ 9223372036854775807 < 8 + _; omega
  obtain ⟨b, off, rfl, hb, hn⟩ := seg_node hseg hx
  have hal : (a : Int) < (ns.length : Int) := by have := (List.getElem?_eq_some_iff.1 hx).1; omega
  have e1 : (x.kind == 1) = false := by simp [hk]
  have e2 : (x.kind == 2) = false := by simp [hk]
  have e3 : (x.kind == 3) = false := by simp [hk]
  have e4 : (x.kind == 4) = false := by simp [hk]
  have e5 : (x.kind == 5) = false := by simp [hk]
  have e7 : (x.kind == 7) = false := by simp [hk]
  have e8 : (x.kind == 8) = false := by simp [hk]
  have e9 : (x.kind == 9) = true := by simp [hk]
  clear hx hseg
  generalize ns.length = ln at *
  go_enter Tryz.func33, Tryz.ntmps33
  go_upto_region 2 with (first | (refine wpList_load_node rfl _ rfl _ _ rfl _ hn ?_) | (refine wpList_alloc_node rfl rfl ?_) | (refine wpList_store_node rfl _ _ rfl _ _ _ rfl rfl _ (by repeat (first | (apply Blk.new'; first | rfl | (simp; done)) | assumption | apply Blk.alloc)) ?_))
  rw [setRow_new _ _ _ _ _ rfl]
  have hH0 : Hd w w.heap.size x (w.alloc (.cells (nc x) 36)) := ⟨(Blk.new w 36 (nc x)).node, by simp, andAlloc (Below.refl w.heap.size w) _⟩
  generalize w.alloc (.cells (nc x) 36) = W at hH0 ⊢
  generalize hg : w.heap.size = g0 at hH0 ⊢
  have k0 := hH0.at (j := 0) rfl
  clear hn hb
  have k16 := hH0.at (j := 16) rfl
  go_wp2_with fail
  refine (HC1.out _).mono ?_
  rintro e w1 ⟨rfl, hb1⟩
  have HH1 := Lib.hid (hH0.keep hb1)
  clear hb1
  go_wp2_with fail
  go_ret
  subst hg
  exact ⟨rfl, HH1.out.2.2⟩
set_option maxHeartbeats 8000000 in
set_option maxRecDepth 100000 in
theorem rline_10 (A : Option Addr) (ns : List Nd) (c a m : Nat) (x : Nd) (w : World) (hc : chk ns = 0) (hcap : ns.length ≤ c) (hseg : Seg w w.heap.size A (ns.flatMap ncs)) (hx : ns[a]? = some x) (hm : endc (ns.drop a) 0 = some m) (hci : chk ((ns.drop a).take m) = 0) (ham : a + m ≤ ns.length) (hk : x.kind = 10) :
    Calls Tryz.prog 33 #[.slice A ns.length c, .int .i64 (a : Int)] w fun e w' => e = .returned (.string (dscK ++ numT (thK ns a m x))) ∧ Below w.heap.size w w' := by
  have hP := parts_of hc hx hm hci ham
  obtain ⟨h2, hd⟩ := ssD_is hc hx hk hm
  have hkk : thK ns a m x = (Pk.itsD (thr (ssD (ns.drop (a + 1)) m) (ns.drop (a + 1)) 0 2)).length := by unfold thK; rw [if_pos hk]
  obtain ⟨xs, hxs, _⟩ := thr_its (ss := ssD (ns.drop (a + 1)) m) 2 0 hd
  have hl3 := thr_len (j := 2) hd
  have hl := (chk_run hc).1
  have hct := thr_chk_of hc hx hm hci ham hk 2
  have hno := stand_no6 (chk_run hct).1 xs 0 (stand0 hct hxs)
  rw [Pk.itsD_of hxs] at hkk
  have HT := Lib.hid (fun w2 (hb : Below w.heap.size w w2) => rthree_any A ns c a m _ x w2 hc hcap (Seg.belowW hseg hb) hx hm hd h2 hk)
  have HI := Lib.hid (fun A2 c2 w2 (hs : Seg w2 w2.heap.size A2 ((thr (ssD (ns.drop (a + 1)) m) (ns.drop (a + 1)) 0 2).flatMap ncs)) => rstarts_any A2 (thr (ssD (ns.drop (a + 1)) m) (ns.drop (a + 1)) 0 2) c2 xs w2 (by omega) hs hxs hno)
  have hx3 := hP.three
  rw [hkk] at hx3 ⊢
  have hit : itT (xs.length : Int) = numT xs.length := by unfold itT; rw [if_neg (by omega)]; rfl
  have HIT := Lib.hid (fun (w' : World) => show Calls Tryz.prog 82 #[.int .i64 (xs.length : Int)] w' fun e w'' => e = .returned (.string (numT xs.length)) ∧ Below w'.heap.size w' w'' from by rw [← hit]; exact rwhole_any _ (by omega) (by omega) w')
  have hz0 := numT_size (n := xs.length) (by omega)
  generalize numT xs.length = T at *
  have hz : ¬ 9223372036854775807 < (⟨#[100, 105, 115, 99, 114, 101, 116, 105, 111, 110, 97, 114, 121, 32, 114, 101, 112, 108, 97, 99, 105, 110, 103, 32]⟩ : ByteArray).size + T.size := by show ¬ 9223372036854775807 < 24 + _; omega
  obtain ⟨b, off, rfl, hb, hn⟩ := seg_node hseg hx
  have hal : (a : Int) < (ns.length : Int) := by have := (List.getElem?_eq_some_iff.1 hx).1; omega
  have e1 : (x.kind == 1) = false := by simp [hk]
  have e2 : (x.kind == 2) = false := by simp [hk]
  have e3 : (x.kind == 3) = false := by simp [hk]
  have e4 : (x.kind == 4) = false := by simp [hk]
  have e5 : (x.kind == 5) = false := by simp [hk]
  have e7 : (x.kind == 7) = false := by simp [hk]
  have e8 : (x.kind == 8) = false := by simp [hk]
  have e9 : (x.kind == 9) = false := by simp [hk]
  have e10 : (x.kind == 10) = true := by simp [hk]
  clear hm hci ham hd hxs hP hkk hit hc hct hno
  generalize thr (ssD (ns.drop (a + 1)) m) (ns.drop (a + 1)) 0 = F at *
  clear hx hseg
  generalize ns.length = ln at *
  go_enter Tryz.func33, Tryz.ntmps33
  go_upto_region 2 with (first | (refine wpList_load_node rfl _ rfl _ _ rfl _ hn ?_) | (refine wpList_alloc_node rfl rfl ?_) | (refine wpList_store_node rfl _ _ rfl _ _ _ rfl rfl _ (by repeat (first | (apply Blk.new'; first | rfl | (simp; done)) | assumption | apply Blk.alloc)) ?_))
  rw [setRow_new _ _ _ _ _ rfl]
  have hH0 : Hd w w.heap.size x (w.alloc (.cells (nc x) 36)) := ⟨(Blk.new w 36 (nc x)).node, by simp, andAlloc (Below.refl w.heap.size w) _⟩
  generalize w.alloc (.cells (nc x) 36) = W at hH0 ⊢
  generalize hg : w.heap.size = g0 at hH0 ⊢
  have k0 := hH0.at (j := 0) rfl
  clear hn hb
  go_wp2_with fail
  refine (HT.out _ hH0.2.2).mono ?_
  rintro e w1 ⟨vs, rfl, ho, hb1⟩
  obtain ⟨A2, c2, h2, hc2, _, hs2⟩ := Seg.of_own (ho.own 2 (by omega))
  have hix : ∀ w, (Instr.index 75 (.agg (tc3 vs)) (.int .i64 2)).run Tryz.prog w = .ok (vs 2) w := fun w => tc3_idx vs w
  rw [h2] at hix
  generalize tc3 vs = cs at hix ⊢
  have HB1 := Lib.hid (hH0.keep hb1)
  have HI2 := Lib.hid (HI.out A2 c2 w1 hs2)
  clear ho hs2 hb1 h2 hH0 k0
  go_wp2_with fail
  refine HI2.out.mono ?_
  rintro e w2 ⟨v2, rfl, ho2, hb2⟩
  obtain ⟨A3, c3, rfl, _, _, _⟩ := Seg.of_own ho2
  have HB2 := Lib.hid (HB1.out.keep hb2)
  clear ho2 hb2
  generalize xs.length = xl at *
  go_wp2_with fail
  refine (HIT.out _).mono ?_
  rintro e w3 ⟨rfl, hb3⟩
  have HB3 := Lib.hid (HB2.out.keep hb3)
  clear hb3
  go_wp2_with fail
  go_ret
  subst hg
  exact ⟨rfl, HB3.out.2.2⟩
set_option maxHeartbeats 8000000 in
set_option maxRecDepth 100000 in
theorem rline_12 (A : Option Addr) (ns : List Nd) (c a : Nat) (x : Nd) (w : World) (hseg : Seg w w.heap.size A (ns.flatMap ncs)) (hx : ns[a]? = some x) (hk : x.kind = 12) (htx : x.text.size ≤ 1000) :
    Calls Tryz.prog 33 #[.slice A ns.length c, .int .i64 (a : Int)] w fun e w' => e = .returned (.string (mrkK ++ byA x.text.data.toList ++ cbK)) ∧ Below w.heap.size w w' := by
  change Calls _ _ _ _ fun e w' => e = .returned (.string (⟨#[109, 97, 114, 107, 123]⟩ ++ byA x.text.data.toList ++ cbK)) ∧ _
  obtain ⟨s, hs⟩ : ∃ s, x.text = s := ⟨_, rfl⟩
  have hst : s.size ≤ 1000 := by rw [← hs]; exact htx
  have HTX := Lib.hid (show (nc x).toList[18]? = some (.string s) by rw [← hs]; rfl)
  rw [hs]
  clear htx hs
  obtain ⟨b, off, rfl, hb, hn⟩ := seg_node hseg hx
  have hal : (a : Int) < (ns.length : Int) := by have := (List.getElem?_eq_some_iff.1 hx).1; omega
  have e1 : (x.kind == 1) = false := by simp [hk]
  have e2 : (x.kind == 2) = false := by simp [hk]
  have e3 : (x.kind == 3) = false := by simp [hk]
  have e4 : (x.kind == 4) = false := by simp [hk]
  have e5 : (x.kind == 5) = false := by simp [hk]
  have e7 : (x.kind == 7) = false := by simp [hk]
  have e8 : (x.kind == 8) = false := by simp [hk]
  have e9 : (x.kind == 9) = false := by simp [hk]
  have e10 : (x.kind == 10) = false := by simp [hk]
  have e12 : (x.kind == 12) = true := by simp [hk]
  have e14 : (x.kind == 14) = false := by simp [hk]
  clear hx hseg
  generalize ns.length = ln at *
  go_enter Tryz.func33, Tryz.ntmps33
  go_upto_region 2 with (first | (refine wpList_load_node rfl _ rfl _ _ rfl _ hn ?_) | (refine wpList_alloc_node rfl rfl ?_) | (refine wpList_store_node rfl _ _ rfl _ _ _ rfl rfl _ (by repeat (first | (apply Blk.new'; first | rfl | (simp; done)) | assumption | apply Blk.alloc)) ?_))
  rw [setRow_new _ _ _ _ _ rfl]
  have hH0 : Hd w w.heap.size x (w.alloc (.cells (nc x) 36)) := ⟨(Blk.new w 36 (nc x)).node, by simp, andAlloc (Below.refl w.heap.size w) _⟩
  generalize w.alloc (.cells (nc x) 36) = W at hH0 ⊢
  generalize hg : w.heap.size = g0 at hH0 ⊢
  have k0 := hH0.at (j := 0) rfl
  clear hn hb
  have hz9 : (⟨#[109, 97, 114, 107, 123]⟩ : ByteArray).size ≤ 100 := by show 5 ≤ 100; omega
  have HH := Lib.hid hH0
  have k18 := HH.out.at HTX.out
  clear hH0
  go_wp2_with fail
  go_loopw [8, 9] (fun v6 v7 wr => ∃ i : Nat, i ≤ s.size ∧ v7 = .int .i64 (i : Int) ∧ v6 = .string ((⟨#[109, 97, 114, 107, 123]⟩ : ByteArray) ++ byA (s.data.toList.take i)) ∧ Hd w g0 x wr) (fun _ v7 _ => s.size - (intOf v7).toNat)
  case atStart => exact ⟨0, by omega, rfl, congrArg Value.string (show (⟨#[109, 97, 114, 107, 123]⟩ : ByteArray) = (⟨#[109, 97, 114, 107, 123]⟩ : ByteArray) ++ ⟨#[]⟩ from ByteArray.append_empty.symm), HH.out⟩
  case round =>
    obtain ⟨i, hi, rfl, rfl, hH⟩ := hrel
    have k18 := hH.at HTX.out
    have HH3 := Lib.hid hH
    clear hH
    by_cases hlt : i < s.size
    · have hii : (i : Int) < (s.size : Int) := by omega
      have HBY := Lib.hid (fun w => rshown_any s[i].toNat (UInt8.toNat_lt _) w)
      have hi3 : i < s.data.toList.length := by rw [Array.length_toList]; exact hlt
      have HNX := Lib.hid (show (⟨#[109, 97, 114, 107, 123]⟩ : ByteArray) ++ byA (s.data.toList.take i) ++ byT s[i].toNat = (⟨#[109, 97, 114, 107, 123]⟩ : ByteArray) ++ byA (s.data.toList.take (i + 1)) by
        rw [List.take_add_one, List.getElem?_eq_getElem hi3, byA_append, ByteArray.append_assoc]
        show _ = (⟨#[109, 97, 114, 107, 123]⟩ : ByteArray) ++ (_ ++ (byT s[i].toNat ++ ⟨#[]⟩))
        rw [show (byT s[i].toNat ++ ⟨#[]⟩ : ByteArray) = byT s[i].toNat from ByteArray.append_empty])
      have h1 := byA_size (s.data.toList.take i)
      have h2 := byT_size s[i].toNat
      have h3 : (s.data.toList.take i).length ≤ i := by rw [List.length_take]; omega
      have h4 : ((⟨#[109, 97, 114, 107, 123]⟩ : ByteArray) ++ byA (s.data.toList.take i)).size ≤ 100 + 4 * i := by rw [ByteArray.size_append]; omega
      generalize (⟨#[109, 97, 114, 107, 123]⟩ : ByteArray) ++ byA (s.data.toList.take i) = T at *
      generalize byT s[i].toNat = U at *
      have hz : ¬ 9223372036854775807 < T.size + U.size := by omega
      go_wp2_with fail
      refine (HBY.out _).mono ?_
      rintro e w2 ⟨rfl, hb2⟩
      have HB2 := Lib.hid (HH3.out.keep hb2)
      clear hb2
      go_wp2_with fail
      go_roundw
      case rel => exact ⟨i + 1, by omega, by go_num, by rw [HNX.out], HB2.out⟩
      case measure => simp [intOf]; omega
    · obtain rfl : i = s.size := by omega
      have h1 := byA_size s.data.toList
      rw [List.take_of_length_le (by rw [Array.length_toList]; exact Nat.le_refl _)]
      rw [Array.length_toList] at h1
      have h3 : s.data.size ≤ 1000 := hst
      have hz : ¬ 9223372036854775807 < ((⟨#[109, 97, 114, 107, 123]⟩ : ByteArray) ++ byA s.data.toList).size + (⟨#[125]⟩ : ByteArray).size := by rw [ByteArray.size_append]; show ¬ 9223372036854775807 < _ + _ + 1; omega
      clear h1 h3
      go_wp2_with fail
      go_ret
      subst hg
      exact ⟨rfl, HH3.out.2.2⟩
set_option maxHeartbeats 8000000 in
set_option maxRecDepth 100000 in
theorem rline_14 (A : Option Addr) (ns : List Nd) (c a : Nat) (x : Nd) (w : World) (hseg : Seg w w.heap.size A (ns.flatMap ncs)) (hx : ns[a]? = some x) (hk : x.kind = 14) (htx : x.text.size ≤ 1000) :
    Calls Tryz.prog 33 #[.slice A ns.length c, .int .i64 (a : Int)] w fun e w' => e = .returned (.string (spcK ++ byA x.text.data.toList ++ cbK)) ∧ Below w.heap.size w w' := by
  change Calls _ _ _ _ fun e w' => e = .returned (.string (⟨#[115, 112, 101, 99, 105, 97, 108, 123]⟩ ++ byA x.text.data.toList ++ cbK)) ∧ _
  obtain ⟨s, hs⟩ : ∃ s, x.text = s := ⟨_, rfl⟩
  have hst : s.size ≤ 1000 := by rw [← hs]; exact htx
  have HTX := Lib.hid (show (nc x).toList[18]? = some (.string s) by rw [← hs]; rfl)
  rw [hs]
  clear htx hs
  obtain ⟨b, off, rfl, hb, hn⟩ := seg_node hseg hx
  have hal : (a : Int) < (ns.length : Int) := by have := (List.getElem?_eq_some_iff.1 hx).1; omega
  have e1 : (x.kind == 1) = false := by simp [hk]
  have e2 : (x.kind == 2) = false := by simp [hk]
  have e3 : (x.kind == 3) = false := by simp [hk]
  have e4 : (x.kind == 4) = false := by simp [hk]
  have e5 : (x.kind == 5) = false := by simp [hk]
  have e7 : (x.kind == 7) = false := by simp [hk]
  have e8 : (x.kind == 8) = false := by simp [hk]
  have e9 : (x.kind == 9) = false := by simp [hk]
  have e10 : (x.kind == 10) = false := by simp [hk]
  have e12 : (x.kind == 12) = false := by simp [hk]
  have e14 : (x.kind == 14) = true := by simp [hk]
  clear hx hseg
  generalize ns.length = ln at *
  go_enter Tryz.func33, Tryz.ntmps33
  go_upto_region 2 with (first | (refine wpList_load_node rfl _ rfl _ _ rfl _ hn ?_) | (refine wpList_alloc_node rfl rfl ?_) | (refine wpList_store_node rfl _ _ rfl _ _ _ rfl rfl _ (by repeat (first | (apply Blk.new'; first | rfl | (simp; done)) | assumption | apply Blk.alloc)) ?_))
  rw [setRow_new _ _ _ _ _ rfl]
  have hH0 : Hd w w.heap.size x (w.alloc (.cells (nc x) 36)) := ⟨(Blk.new w 36 (nc x)).node, by simp, andAlloc (Below.refl w.heap.size w) _⟩
  generalize w.alloc (.cells (nc x) 36) = W at hH0 ⊢
  generalize hg : w.heap.size = g0 at hH0 ⊢
  have k0 := hH0.at (j := 0) rfl
  clear hn hb
  have hz9 : (⟨#[115, 112, 101, 99, 105, 97, 108, 123]⟩ : ByteArray).size ≤ 100 := by show 8 ≤ 100; omega
  have HH := Lib.hid hH0
  have k18 := HH.out.at HTX.out
  clear hH0
  go_wp2_with fail
  go_loopw [8, 9] (fun v6 v7 wr => ∃ i : Nat, i ≤ s.size ∧ v7 = .int .i64 (i : Int) ∧ v6 = .string ((⟨#[115, 112, 101, 99, 105, 97, 108, 123]⟩ : ByteArray) ++ byA (s.data.toList.take i)) ∧ Hd w g0 x wr) (fun _ v7 _ => s.size - (intOf v7).toNat)
  case atStart => exact ⟨0, by omega, rfl, congrArg Value.string (show (⟨#[115, 112, 101, 99, 105, 97, 108, 123]⟩ : ByteArray) = (⟨#[115, 112, 101, 99, 105, 97, 108, 123]⟩ : ByteArray) ++ ⟨#[]⟩ from ByteArray.append_empty.symm), HH.out⟩
  case round =>
    obtain ⟨i, hi, rfl, rfl, hH⟩ := hrel
    have k18 := hH.at HTX.out
    have HH3 := Lib.hid hH
    clear hH
    by_cases hlt : i < s.size
    · have hii : (i : Int) < (s.size : Int) := by omega
      have HBY := Lib.hid (fun w => rshown_any s[i].toNat (UInt8.toNat_lt _) w)
      have hi3 : i < s.data.toList.length := by rw [Array.length_toList]; exact hlt
      have HNX := Lib.hid (show (⟨#[115, 112, 101, 99, 105, 97, 108, 123]⟩ : ByteArray) ++ byA (s.data.toList.take i) ++ byT s[i].toNat = (⟨#[115, 112, 101, 99, 105, 97, 108, 123]⟩ : ByteArray) ++ byA (s.data.toList.take (i + 1)) by
        rw [List.take_add_one, List.getElem?_eq_getElem hi3, byA_append, ByteArray.append_assoc]
        show _ = (⟨#[115, 112, 101, 99, 105, 97, 108, 123]⟩ : ByteArray) ++ (_ ++ (byT s[i].toNat ++ ⟨#[]⟩))
        rw [show (byT s[i].toNat ++ ⟨#[]⟩ : ByteArray) = byT s[i].toNat from ByteArray.append_empty])
      have h1 := byA_size (s.data.toList.take i)
      have h2 := byT_size s[i].toNat
      have h3 : (s.data.toList.take i).length ≤ i := by rw [List.length_take]; omega
      have h4 : ((⟨#[115, 112, 101, 99, 105, 97, 108, 123]⟩ : ByteArray) ++ byA (s.data.toList.take i)).size ≤ 100 + 4 * i := by rw [ByteArray.size_append]; omega
      generalize (⟨#[115, 112, 101, 99, 105, 97, 108, 123]⟩ : ByteArray) ++ byA (s.data.toList.take i) = T at *
      generalize byT s[i].toNat = U at *
      have hz : ¬ 9223372036854775807 < T.size + U.size := by omega
      go_wp2_with fail
      refine (HBY.out _).mono ?_
      rintro e w2 ⟨rfl, hb2⟩
      have HB2 := Lib.hid (HH3.out.keep hb2)
      clear hb2
      go_wp2_with fail
      go_roundw
      case rel => exact ⟨i + 1, by omega, by go_num, by rw [HNX.out], HB2.out⟩
      case measure => simp [intOf]; omega
    · obtain rfl : i = s.size := by omega
      have h1 := byA_size s.data.toList
      rw [List.take_of_length_le (by rw [Array.length_toList]; exact Nat.le_refl _)]
      rw [Array.length_toList] at h1
      have h3 : s.data.size ≤ 1000 := hst
      have hz : ¬ 9223372036854775807 < ((⟨#[115, 112, 101, 99, 105, 97, 108, 123]⟩ : ByteArray) ++ byA s.data.toList).size + (⟨#[125]⟩ : ByteArray).size := by rw [ByteArray.size_append]; show ¬ 9223372036854775807 < _ + _ + 1; omega
      clear h1 h3
      go_wp2_with fail
      go_ret
      subst hg
      exact ⟨rfl, HH3.out.2.2⟩
set_option maxHeartbeats 8000000 in
set_option maxRecDepth 100000 in
theorem rline_13 (A : Option Addr) (ns : List Nd) (c a : Nat) (x : Nd) (w : World) (hseg : Seg w w.heap.size A (ns.flatMap ncs)) (hx : ns[a]? = some x) (hk : x.kind = 13) (hs0 : -9223372036854775807 ≤ x.sub) (hs1 : x.sub ≤ 9223372036854775807) (hp0 : -9223372036854775807 ≤ x.pen) (hp1 : x.pen ≤ 9223372036854775807) (hgl : Gl.glueB x.gn x.gs x.gh x.ga x.gb = true) :
    Calls Tryz.prog 33 #[.slice A ns.length c, .int .i64 (a : Int)] w fun e w' => e = .returned (.string (insK ++ itT x.sub ++ natK ++ prS x.ht ++ splK ++ Gl.shT x.gn x.gs x.gh x.ga x.gb ++ comK ++ prS x.dp ++ floK ++ itT x.pen)) ∧ Below w.heap.size w w' := by
  have HC1 := Lib.hid (fun (W : World) => rwhole_any x.sub hs0 hs1 W)
  have hz1 := itT_size hs0 hs1
  generalize itT x.sub = T1 at *
  have HC2 := Lib.hid (fun (W : World) => refPrint x.ht W)
  have hz2 := Gl.prS_size x.ht
  generalize prS x.ht = T2 at *
  have HC3 := Lib.hid (fun (W : World) => rglt_any x.gn x.gs x.gh x.ga x.gb W hgl)
  have hz3 := shT_size x.gn x.gs x.gh x.ga x.gb
  generalize Gl.shT x.gn x.gs x.gh x.ga x.gb = T3 at *
  have HC4 := Lib.hid (fun (W : World) => refPrint x.dp W)
  have hz4 := Gl.prS_size x.dp
  generalize prS x.dp = T4 at *
  have HC5 := Lib.hid (fun (W : World) => rwhole_any x.pen hp0 hp1 W)
  have hz5 := itT_size hp0 hp1
  generalize itT x.pen = T5 at *
  obtain ⟨b, off, rfl, hb, hn⟩ := seg_node hseg hx
  have hal : (a : Int) < (ns.length : Int) := by have := (List.getElem?_eq_some_iff.1 hx).1; omega
  have e1 : (x.kind == 1) = false := by simp [hk]
  have e2 : (x.kind == 2) = false := by simp [hk]
  have e3 : (x.kind == 3) = false := by simp [hk]
  have e4 : (x.kind == 4) = false := by simp [hk]
  have e5 : (x.kind == 5) = false := by simp [hk]
  have e7 : (x.kind == 7) = false := by simp [hk]
  have e8 : (x.kind == 8) = false := by simp [hk]
  have e9 : (x.kind == 9) = false := by simp [hk]
  have e10 : (x.kind == 10) = false := by simp [hk]
  have e12 : (x.kind == 12) = false := by simp [hk]
  have e14 : (x.kind == 14) = false := by simp [hk]
  have e13 : (x.kind == 13) = true := by simp [hk]
  clear hx hseg
  generalize ns.length = ln at *
  go_enter Tryz.func33, Tryz.ntmps33
  go_upto_region 2 with (first | (refine wpList_load_node rfl _ rfl _ _ rfl _ hn ?_) | (refine wpList_alloc_node rfl rfl ?_) | (refine wpList_store_node rfl _ _ rfl _ _ _ rfl rfl _ (by repeat (first | (apply Blk.new'; first | rfl | (simp; done)) | assumption | apply Blk.alloc)) ?_))
  rw [setRow_new _ _ _ _ _ rfl]
  have hH0 : Hd w w.heap.size x (w.alloc (.cells (nc x) 36)) := ⟨(Blk.new w 36 (nc x)).node, by simp, andAlloc (Below.refl w.heap.size w) _⟩
  generalize w.alloc (.cells (nc x) 36) = W at hH0 ⊢
  generalize hg : w.heap.size = g0 at hH0 ⊢
  have k0 := hH0.at (j := 0) rfl
  clear hn hb
  go_upto_region 39 with fail
  clear k0
  refine wp_region_held_drew (S := Hd w g0 x) (by kernel_rfl) (hH0.drew) (fun hH => ?_)
  refine take_lit (i := 0) (v := (.pointer (some ⟨g0, 17, none⟩))) (by kernel_rfl) (by kernel_rfl) (by kernel_rfl) (by kernel_rfl) (fun _ _ _ _ h => h) hH (fun oi hoi => ?_)
  simp only [List.getElem?_toArray, List.getElem?_cons_succ, List.getElem?_cons_zero, Option.some.injEq] at hoi
  subst hoi
  refine ⟨.inl ⟨by rfl, fun w hSw => ?_⟩, ?_⟩
  · skip
    first | (go_simp; done) | (go_simp; omega) | (go_simp; with_reducible rfl) | (go_simp; kernel_rfl)
  simp only [Act.put, List.setIfInBounds_toArray, List.set_cons_zero, List.set_cons_succ]
  refine take_lit (i := 1) (v := (.int .i64 (x.sub))) (by kernel_rfl) (by kernel_rfl) (by kernel_rfl) (by kernel_rfl) (fun _ _ _ _ h => h) hH (fun oi hoi => ?_)
  simp only [List.getElem?_toArray, List.getElem?_cons_succ, List.getElem?_cons_zero, Option.some.injEq] at hoi
  subst hoi
  refine ⟨.inl ⟨by rfl, fun w hSw => ?_⟩, ?_⟩
  · skip
    have z := hSw.at (j := 17) rfl
    first | (go_simp; done) | (go_simp; omega) | (go_simp; with_reducible rfl) | (go_simp; kernel_rfl)
  simp only [Act.put, List.setIfInBounds_toArray, List.set_cons_zero, List.set_cons_succ]
  refine take_lit (i := 5) (v := (.pointer (some ⟨g0, 4, none⟩))) (by kernel_rfl) (by kernel_rfl) (by kernel_rfl) (by kernel_rfl) (fun _ _ _ _ h => h) hH (fun oi hoi => ?_)
  simp only [List.getElem?_toArray, List.getElem?_cons_succ, List.getElem?_cons_zero, Option.some.injEq] at hoi
  subst hoi
  refine ⟨.inl ⟨by rfl, fun w hSw => ?_⟩, ?_⟩
  · skip
    first | (go_simp; done) | (go_simp; omega) | (go_simp; with_reducible rfl) | (go_simp; kernel_rfl)
  simp only [Act.put, List.setIfInBounds_toArray, List.set_cons_zero, List.set_cons_succ]
  refine take_lit (i := 6) (v := (.int .i64 (x.ht))) (by kernel_rfl) (by kernel_rfl) (by kernel_rfl) (by kernel_rfl) (fun _ _ _ _ h => h) hH (fun oi hoi => ?_)
  simp only [List.getElem?_toArray, List.getElem?_cons_succ, List.getElem?_cons_zero, Option.some.injEq] at hoi
  subst hoi
  refine ⟨.inl ⟨by rfl, fun w hSw => ?_⟩, ?_⟩
  · skip
    have z := hSw.at (j := 4) rfl
    first | (go_simp; done) | (go_simp; omega) | (go_simp; with_reducible rfl) | (go_simp; kernel_rfl)
  simp only [Act.put, List.setIfInBounds_toArray, List.set_cons_zero, List.set_cons_succ]
  refine take_lit (i := 10) (v := (.pointer (some ⟨g0, 7, none⟩))) (by kernel_rfl) (by kernel_rfl) (by kernel_rfl) (by kernel_rfl) (fun _ _ _ _ h => h) hH (fun oi hoi => ?_)
  simp only [List.getElem?_toArray, List.getElem?_cons_succ, List.getElem?_cons_zero, Option.some.injEq] at hoi
  subst hoi
  refine ⟨.inl ⟨by rfl, fun w hSw => ?_⟩, ?_⟩
  · skip
    first | (go_simp; done) | (go_simp; omega) | (go_simp; with_reducible rfl) | (go_simp; kernel_rfl)
  simp only [Act.put, List.setIfInBounds_toArray, List.set_cons_zero, List.set_cons_succ]
  refine take_lit (i := 11) (v := (.agg #[.int .i64 x.gn, .int .i64 x.gs, .int .i64 x.gh, .int .i64 x.ga, .int .i64 x.gb])) (by kernel_rfl) (by kernel_rfl) (by kernel_rfl) (by kernel_rfl) (fun _ _ _ _ h => h) hH (fun oi hoi => ?_)
  simp only [List.getElem?_toArray, List.getElem?_cons_succ, List.getElem?_cons_zero, Option.some.injEq] at hoi
  subst hoi
  refine ⟨.inl ⟨by rfl, fun w hSw => ?_⟩, ?_⟩
  · skip
    have z0 := hSw.at (j := 7) rfl; have z1 := hSw.at (j := 8) rfl; have z2 := hSw.at (j := 9) rfl; have z3 := hSw.at (j := 10) rfl; have z4 := hSw.at (j := 11) rfl
    first | (go_simp; done) | (go_simp; omega) | (go_simp; with_reducible rfl) | (go_simp; kernel_rfl)
  simp only [Act.put, List.setIfInBounds_toArray, List.set_cons_zero, List.set_cons_succ]
  refine take_lit (i := 15) (v := (.pointer (some ⟨g0, 5, none⟩))) (by kernel_rfl) (by kernel_rfl) (by kernel_rfl) (by kernel_rfl) (fun _ _ _ _ h => h) hH (fun oi hoi => ?_)
  simp only [List.getElem?_toArray, List.getElem?_cons_succ, List.getElem?_cons_zero, Option.some.injEq] at hoi
  subst hoi
  refine ⟨.inl ⟨by rfl, fun w hSw => ?_⟩, ?_⟩
  · skip
    first | (go_simp; done) | (go_simp; omega) | (go_simp; with_reducible rfl) | (go_simp; kernel_rfl)
  simp only [Act.put, List.setIfInBounds_toArray, List.set_cons_zero, List.set_cons_succ]
  refine take_lit (i := 16) (v := (.int .i64 (x.dp))) (by kernel_rfl) (by kernel_rfl) (by kernel_rfl) (by kernel_rfl) (fun _ _ _ _ h => h) hH (fun oi hoi => ?_)
  simp only [List.getElem?_toArray, List.getElem?_cons_succ, List.getElem?_cons_zero, Option.some.injEq] at hoi
  subst hoi
  refine ⟨.inl ⟨by rfl, fun w hSw => ?_⟩, ?_⟩
  · skip
    have z := hSw.at (j := 5) rfl
    first | (go_simp; done) | (go_simp; omega) | (go_simp; with_reducible rfl) | (go_simp; kernel_rfl)
  simp only [Act.put, List.setIfInBounds_toArray, List.set_cons_zero, List.set_cons_succ]
  refine take_lit (i := 20) (v := (.pointer (some ⟨g0, 16, none⟩))) (by kernel_rfl) (by kernel_rfl) (by kernel_rfl) (by kernel_rfl) (fun _ _ _ _ h => h) hH (fun oi hoi => ?_)
  simp only [List.getElem?_toArray, List.getElem?_cons_succ, List.getElem?_cons_zero, Option.some.injEq] at hoi
  subst hoi
  refine ⟨.inl ⟨by rfl, fun w hSw => ?_⟩, ?_⟩
  · skip
    first | (go_simp; done) | (go_simp; omega) | (go_simp; with_reducible rfl) | (go_simp; kernel_rfl)
  simp only [Act.put, List.setIfInBounds_toArray, List.set_cons_zero, List.set_cons_succ]
  refine take_lit (i := 21) (v := (.int .i64 (x.pen))) (by kernel_rfl) (by kernel_rfl) (by kernel_rfl) (by kernel_rfl) (fun _ _ _ _ h => h) hH (fun oi hoi => ?_)
  simp only [List.getElem?_toArray, List.getElem?_cons_succ, List.getElem?_cons_zero, Option.some.injEq] at hoi
  subst hoi
  refine ⟨.inl ⟨by rfl, fun w hSw => ?_⟩, ?_⟩
  · skip
    have z := hSw.at (j := 16) rfl
    first | (go_simp; done) | (go_simp; omega) | (go_simp; with_reducible rfl) | (go_simp; kernel_rfl)
  simp only [Act.put, List.setIfInBounds_toArray, List.set_cons_zero, List.set_cons_succ]
  refine wpAnyH_ready (rs := [2]) (by kernel_rfl) (by simp) (AllReadyH.cons rfl (fun K hK => ?_) AllReadyH.nil)
  go_simp
  go_wp2_with fail
  refine (HC1.out _).mono ?_
  rintro e w_1 ⟨rfl, hb_1⟩
  refine hK.out _ _ (hH.keep hb_1) (fun hH1 => ?_)
  try simp only [Act.put, List.setIfInBounds_toArray, List.set_cons_zero, List.set_cons_succ]
  clear hK K
  refine take_lit (i := 3) (v := (.string (⟨#[105, 110, 115, 101, 114, 116, 32]⟩ ++ T1))) (by kernel_rfl) (by kernel_rfl) (by kernel_rfl) (by kernel_rfl) (fun _ _ _ _ h => h) hH1 (fun oi hoi => ?_)
  simp only [List.getElem?_toArray, List.getElem?_cons_succ, List.getElem?_cons_zero, Option.some.injEq] at hoi
  subst hoi
  refine ⟨.inl ⟨by rfl, fun w hSw => ?_⟩, ?_⟩
  · skip
    have hz : ¬ 9223372036854775807 < (⟨#[105, 110, 115, 101, 114, 116, 32]⟩ : ByteArray).size + (T1 : ByteArray).size := by (try simp only [ByteArray.size_append]); have q0 : (⟨#[105, 110, 115, 101, 114, 116, 32]⟩ : ByteArray).size = 7 := rfl; omega
    first | (go_simp; done) | (go_simp; omega) | (go_simp; with_reducible rfl) | (go_simp; kernel_rfl)
  simp only [Act.put, List.setIfInBounds_toArray, List.set_cons_zero, List.set_cons_succ]
  refine take_lit (i := 4) (v := (.string ((⟨#[105, 110, 115, 101, 114, 116, 32]⟩ ++ T1) ++ ⟨#[44, 32, 110, 97, 116, 117, 114, 97, 108, 32, 115, 105, 122, 101, 32]⟩))) (by kernel_rfl) (by kernel_rfl) (by kernel_rfl) (by kernel_rfl) (fun _ _ _ _ h => h) hH1 (fun oi hoi => ?_)
  simp only [List.getElem?_toArray, List.getElem?_cons_succ, List.getElem?_cons_zero, Option.some.injEq] at hoi
  subst hoi
  refine ⟨.inl ⟨by rfl, fun w hSw => ?_⟩, ?_⟩
  · skip
    have hz : ¬ 9223372036854775807 < (⟨#[105, 110, 115, 101, 114, 116, 32]⟩ ++ T1 : ByteArray).size + (⟨#[44, 32, 110, 97, 116, 117, 114, 97, 108, 32, 115, 105, 122, 101, 32]⟩ : ByteArray).size := by (try simp only [ByteArray.size_append]); have q0 : (⟨#[105, 110, 115, 101, 114, 116, 32]⟩ : ByteArray).size = 7 := rfl; have q1 : (⟨#[44, 32, 110, 97, 116, 117, 114, 97, 108, 32, 115, 105, 122, 101, 32]⟩ : ByteArray).size = 15 := rfl; omega
    first | (go_simp; done) | (go_simp; omega) | (go_simp; with_reducible rfl) | (go_simp; kernel_rfl)
  simp only [Act.put, List.setIfInBounds_toArray, List.set_cons_zero, List.set_cons_succ]
  refine wpAnyH_ready (rs := [7]) (by kernel_rfl) (by simp) (AllReadyH.cons rfl (fun K hK => ?_) AllReadyH.nil)
  go_simp
  go_wp2_with fail
  refine (HC2.out _).mono ?_
  rintro e w_2 ⟨rfl, hb_2⟩
  refine hK.out _ _ (hH1.keep hb_2) (fun hH2 => ?_)
  try simp only [Act.put, List.setIfInBounds_toArray, List.set_cons_zero, List.set_cons_succ]
  clear hK K
  refine take_lit (i := 8) (v := (.string (((⟨#[105, 110, 115, 101, 114, 116, 32]⟩ ++ T1) ++ ⟨#[44, 32, 110, 97, 116, 117, 114, 97, 108, 32, 115, 105, 122, 101, 32]⟩) ++ T2))) (by kernel_rfl) (by kernel_rfl) (by kernel_rfl) (by kernel_rfl) (fun _ _ _ _ h => h) hH2 (fun oi hoi => ?_)
  simp only [List.getElem?_toArray, List.getElem?_cons_succ, List.getElem?_cons_zero, Option.some.injEq] at hoi
  subst hoi
  refine ⟨.inl ⟨by rfl, fun w hSw => ?_⟩, ?_⟩
  · skip
    have hz : ¬ 9223372036854775807 < ((⟨#[105, 110, 115, 101, 114, 116, 32]⟩ ++ T1) ++ ⟨#[44, 32, 110, 97, 116, 117, 114, 97, 108, 32, 115, 105, 122, 101, 32]⟩ : ByteArray).size + (T2 : ByteArray).size := by (try simp only [ByteArray.size_append]); have q0 : (⟨#[105, 110, 115, 101, 114, 116, 32]⟩ : ByteArray).size = 7 := rfl; have q1 : (⟨#[44, 32, 110, 97, 116, 117, 114, 97, 108, 32, 115, 105, 122, 101, 32]⟩ : ByteArray).size = 15 := rfl; omega
    first | (go_simp; done) | (go_simp; omega) | (go_simp; with_reducible rfl) | (go_simp; kernel_rfl)
  simp only [Act.put, List.setIfInBounds_toArray, List.set_cons_zero, List.set_cons_succ]
  refine take_lit (i := 9) (v := (.string ((((⟨#[105, 110, 115, 101, 114, 116, 32]⟩ ++ T1) ++ ⟨#[44, 32, 110, 97, 116, 117, 114, 97, 108, 32, 115, 105, 122, 101, 32]⟩) ++ T2) ++ ⟨#[59, 32, 115, 112, 108, 105, 116, 40]⟩))) (by kernel_rfl) (by kernel_rfl) (by kernel_rfl) (by kernel_rfl) (fun _ _ _ _ h => h) hH2 (fun oi hoi => ?_)
  simp only [List.getElem?_toArray, List.getElem?_cons_succ, List.getElem?_cons_zero, Option.some.injEq] at hoi
  subst hoi
  refine ⟨.inl ⟨by rfl, fun w hSw => ?_⟩, ?_⟩
  · skip
    have hz : ¬ 9223372036854775807 < (((⟨#[105, 110, 115, 101, 114, 116, 32]⟩ ++ T1) ++ ⟨#[44, 32, 110, 97, 116, 117, 114, 97, 108, 32, 115, 105, 122, 101, 32]⟩) ++ T2 : ByteArray).size + (⟨#[59, 32, 115, 112, 108, 105, 116, 40]⟩ : ByteArray).size := by (try simp only [ByteArray.size_append]); have q0 : (⟨#[105, 110, 115, 101, 114, 116, 32]⟩ : ByteArray).size = 7 := rfl; have q1 : (⟨#[44, 32, 110, 97, 116, 117, 114, 97, 108, 32, 115, 105, 122, 101, 32]⟩ : ByteArray).size = 15 := rfl; have q2 : (⟨#[59, 32, 115, 112, 108, 105, 116, 40]⟩ : ByteArray).size = 8 := rfl; omega
    first | (go_simp; done) | (go_simp; omega) | (go_simp; with_reducible rfl) | (go_simp; kernel_rfl)
  simp only [Act.put, List.setIfInBounds_toArray, List.set_cons_zero, List.set_cons_succ]
  refine wpAnyH_ready (rs := [12]) (by kernel_rfl) (by simp) (AllReadyH.cons rfl (fun K hK => ?_) AllReadyH.nil)
  go_simp
  go_wp2_with fail
  refine (HC3.out _).mono ?_
  rintro e w_3 ⟨rfl, hb_3⟩
  refine hK.out _ _ (hH2.keep hb_3) (fun hH3 => ?_)
  try simp only [Act.put, List.setIfInBounds_toArray, List.set_cons_zero, List.set_cons_succ]
  clear hK K
  refine take_lit (i := 13) (v := (.string (((((⟨#[105, 110, 115, 101, 114, 116, 32]⟩ ++ T1) ++ ⟨#[44, 32, 110, 97, 116, 117, 114, 97, 108, 32, 115, 105, 122, 101, 32]⟩) ++ T2) ++ ⟨#[59, 32, 115, 112, 108, 105, 116, 40]⟩) ++ T3))) (by kernel_rfl) (by kernel_rfl) (by kernel_rfl) (by kernel_rfl) (fun _ _ _ _ h => h) hH3 (fun oi hoi => ?_)
  simp only [List.getElem?_toArray, List.getElem?_cons_succ, List.getElem?_cons_zero, Option.some.injEq] at hoi
  subst hoi
  refine ⟨.inl ⟨by rfl, fun w hSw => ?_⟩, ?_⟩
  · skip
    have hz : ¬ 9223372036854775807 < ((((⟨#[105, 110, 115, 101, 114, 116, 32]⟩ ++ T1) ++ ⟨#[44, 32, 110, 97, 116, 117, 114, 97, 108, 32, 115, 105, 122, 101, 32]⟩) ++ T2) ++ ⟨#[59, 32, 115, 112, 108, 105, 116, 40]⟩ : ByteArray).size + (T3 : ByteArray).size := by (try simp only [ByteArray.size_append]); have q0 : (⟨#[105, 110, 115, 101, 114, 116, 32]⟩ : ByteArray).size = 7 := rfl; have q1 : (⟨#[44, 32, 110, 97, 116, 117, 114, 97, 108, 32, 115, 105, 122, 101, 32]⟩ : ByteArray).size = 15 := rfl; have q2 : (⟨#[59, 32, 115, 112, 108, 105, 116, 40]⟩ : ByteArray).size = 8 := rfl; omega
    first | (go_simp; done) | (go_simp; omega) | (go_simp; with_reducible rfl) | (go_simp; kernel_rfl)
  simp only [Act.put, List.setIfInBounds_toArray, List.set_cons_zero, List.set_cons_succ]
  refine take_lit (i := 14) (v := (.string ((((((⟨#[105, 110, 115, 101, 114, 116, 32]⟩ ++ T1) ++ ⟨#[44, 32, 110, 97, 116, 117, 114, 97, 108, 32, 115, 105, 122, 101, 32]⟩) ++ T2) ++ ⟨#[59, 32, 115, 112, 108, 105, 116, 40]⟩) ++ T3) ++ ⟨#[44]⟩))) (by kernel_rfl) (by kernel_rfl) (by kernel_rfl) (by kernel_rfl) (fun _ _ _ _ h => h) hH3 (fun oi hoi => ?_)
  simp only [List.getElem?_toArray, List.getElem?_cons_succ, List.getElem?_cons_zero, Option.some.injEq] at hoi
  subst hoi
  refine ⟨.inl ⟨by rfl, fun w hSw => ?_⟩, ?_⟩
  · skip
    have hz : ¬ 9223372036854775807 < (((((⟨#[105, 110, 115, 101, 114, 116, 32]⟩ ++ T1) ++ ⟨#[44, 32, 110, 97, 116, 117, 114, 97, 108, 32, 115, 105, 122, 101, 32]⟩) ++ T2) ++ ⟨#[59, 32, 115, 112, 108, 105, 116, 40]⟩) ++ T3 : ByteArray).size + (⟨#[44]⟩ : ByteArray).size := by (try simp only [ByteArray.size_append]); have q0 : (⟨#[105, 110, 115, 101, 114, 116, 32]⟩ : ByteArray).size = 7 := rfl; have q1 : (⟨#[44, 32, 110, 97, 116, 117, 114, 97, 108, 32, 115, 105, 122, 101, 32]⟩ : ByteArray).size = 15 := rfl; have q2 : (⟨#[44]⟩ : ByteArray).size = 1 := rfl; have q3 : (⟨#[59, 32, 115, 112, 108, 105, 116, 40]⟩ : ByteArray).size = 8 := rfl; omega
    first | (go_simp; done) | (go_simp; omega) | (go_simp; with_reducible rfl) | (go_simp; kernel_rfl)
  simp only [Act.put, List.setIfInBounds_toArray, List.set_cons_zero, List.set_cons_succ]
  refine wpAnyH_ready (rs := [17]) (by kernel_rfl) (by simp) (AllReadyH.cons rfl (fun K hK => ?_) AllReadyH.nil)
  go_simp
  go_wp2_with fail
  refine (HC4.out _).mono ?_
  rintro e w_4 ⟨rfl, hb_4⟩
  refine hK.out _ _ (hH3.keep hb_4) (fun hH4 => ?_)
  try simp only [Act.put, List.setIfInBounds_toArray, List.set_cons_zero, List.set_cons_succ]
  clear hK K
  refine take_lit (i := 18) (v := (.string (((((((⟨#[105, 110, 115, 101, 114, 116, 32]⟩ ++ T1) ++ ⟨#[44, 32, 110, 97, 116, 117, 114, 97, 108, 32, 115, 105, 122, 101, 32]⟩) ++ T2) ++ ⟨#[59, 32, 115, 112, 108, 105, 116, 40]⟩) ++ T3) ++ ⟨#[44]⟩) ++ T4))) (by kernel_rfl) (by kernel_rfl) (by kernel_rfl) (by kernel_rfl) (fun _ _ _ _ h => h) hH4 (fun oi hoi => ?_)
  simp only [List.getElem?_toArray, List.getElem?_cons_succ, List.getElem?_cons_zero, Option.some.injEq] at hoi
  subst hoi
  refine ⟨.inl ⟨by rfl, fun w hSw => ?_⟩, ?_⟩
  · skip
    have hz : ¬ 9223372036854775807 < ((((((⟨#[105, 110, 115, 101, 114, 116, 32]⟩ ++ T1) ++ ⟨#[44, 32, 110, 97, 116, 117, 114, 97, 108, 32, 115, 105, 122, 101, 32]⟩) ++ T2) ++ ⟨#[59, 32, 115, 112, 108, 105, 116, 40]⟩) ++ T3) ++ ⟨#[44]⟩ : ByteArray).size + (T4 : ByteArray).size := by (try simp only [ByteArray.size_append]); have q0 : (⟨#[105, 110, 115, 101, 114, 116, 32]⟩ : ByteArray).size = 7 := rfl; have q1 : (⟨#[44, 32, 110, 97, 116, 117, 114, 97, 108, 32, 115, 105, 122, 101, 32]⟩ : ByteArray).size = 15 := rfl; have q2 : (⟨#[44]⟩ : ByteArray).size = 1 := rfl; have q3 : (⟨#[59, 32, 115, 112, 108, 105, 116, 40]⟩ : ByteArray).size = 8 := rfl; omega
    first | (go_simp; done) | (go_simp; omega) | (go_simp; with_reducible rfl) | (go_simp; kernel_rfl)
  simp only [Act.put, List.setIfInBounds_toArray, List.set_cons_zero, List.set_cons_succ]
  refine take_lit (i := 19) (v := (.string ((((((((⟨#[105, 110, 115, 101, 114, 116, 32]⟩ ++ T1) ++ ⟨#[44, 32, 110, 97, 116, 117, 114, 97, 108, 32, 115, 105, 122, 101, 32]⟩) ++ T2) ++ ⟨#[59, 32, 115, 112, 108, 105, 116, 40]⟩) ++ T3) ++ ⟨#[44]⟩) ++ T4) ++ ⟨#[41, 59, 32, 102, 108, 111, 97, 116, 32, 99, 111, 115, 116, 32]⟩))) (by kernel_rfl) (by kernel_rfl) (by kernel_rfl) (by kernel_rfl) (fun _ _ _ _ h => h) hH4 (fun oi hoi => ?_)
  simp only [List.getElem?_toArray, List.getElem?_cons_succ, List.getElem?_cons_zero, Option.some.injEq] at hoi
  subst hoi
  refine ⟨.inl ⟨by rfl, fun w hSw => ?_⟩, ?_⟩
  · skip
    have hz : ¬ 9223372036854775807 < (((((((⟨#[105, 110, 115, 101, 114, 116, 32]⟩ ++ T1) ++ ⟨#[44, 32, 110, 97, 116, 117, 114, 97, 108, 32, 115, 105, 122, 101, 32]⟩) ++ T2) ++ ⟨#[59, 32, 115, 112, 108, 105, 116, 40]⟩) ++ T3) ++ ⟨#[44]⟩) ++ T4 : ByteArray).size + (⟨#[41, 59, 32, 102, 108, 111, 97, 116, 32, 99, 111, 115, 116, 32]⟩ : ByteArray).size := by (try simp only [ByteArray.size_append]); have q0 : (⟨#[105, 110, 115, 101, 114, 116, 32]⟩ : ByteArray).size = 7 := rfl; have q1 : (⟨#[41, 59, 32, 102, 108, 111, 97, 116, 32, 99, 111, 115, 116, 32]⟩ : ByteArray).size = 14 := rfl; have q2 : (⟨#[44, 32, 110, 97, 116, 117, 114, 97, 108, 32, 115, 105, 122, 101, 32]⟩ : ByteArray).size = 15 := rfl; have q3 : (⟨#[44]⟩ : ByteArray).size = 1 := rfl; have q4 : (⟨#[59, 32, 115, 112, 108, 105, 116, 40]⟩ : ByteArray).size = 8 := rfl; omega
    first | (go_simp; done) | (go_simp; omega) | (go_simp; with_reducible rfl) | (go_simp; kernel_rfl)
  simp only [Act.put, List.setIfInBounds_toArray, List.set_cons_zero, List.set_cons_succ]
  refine wpAnyH_ready (rs := [22]) (by kernel_rfl) (by simp) (AllReadyH.cons rfl (fun K hK => ?_) AllReadyH.nil)
  go_simp
  go_wp2_with fail
  refine (HC5.out _).mono ?_
  rintro e w_5 ⟨rfl, hb_5⟩
  refine hK.out _ _ (hH4.keep hb_5) (fun hH5 => ?_)
  try simp only [Act.put, List.setIfInBounds_toArray, List.set_cons_zero, List.set_cons_succ]
  clear hK K
  refine take_lit (i := 23) (v := (.string (((((((((⟨#[105, 110, 115, 101, 114, 116, 32]⟩ ++ T1) ++ ⟨#[44, 32, 110, 97, 116, 117, 114, 97, 108, 32, 115, 105, 122, 101, 32]⟩) ++ T2) ++ ⟨#[59, 32, 115, 112, 108, 105, 116, 40]⟩) ++ T3) ++ ⟨#[44]⟩) ++ T4) ++ ⟨#[41, 59, 32, 102, 108, 111, 97, 116, 32, 99, 111, 115, 116, 32]⟩) ++ T5))) (by kernel_rfl) (by kernel_rfl) (by kernel_rfl) (by kernel_rfl) (fun _ _ _ _ h => h) hH5 (fun oi hoi => ?_)
  simp only [List.getElem?_toArray, List.getElem?_cons_succ, List.getElem?_cons_zero, Option.some.injEq] at hoi
  subst hoi
  refine ⟨.inl ⟨by rfl, fun w hSw => ?_⟩, ?_⟩
  · skip
    have hz : ¬ 9223372036854775807 < ((((((((⟨#[105, 110, 115, 101, 114, 116, 32]⟩ ++ T1) ++ ⟨#[44, 32, 110, 97, 116, 117, 114, 97, 108, 32, 115, 105, 122, 101, 32]⟩) ++ T2) ++ ⟨#[59, 32, 115, 112, 108, 105, 116, 40]⟩) ++ T3) ++ ⟨#[44]⟩) ++ T4) ++ ⟨#[41, 59, 32, 102, 108, 111, 97, 116, 32, 99, 111, 115, 116, 32]⟩ : ByteArray).size + (T5 : ByteArray).size := by (try simp only [ByteArray.size_append]); have q0 : (⟨#[105, 110, 115, 101, 114, 116, 32]⟩ : ByteArray).size = 7 := rfl; have q1 : (⟨#[41, 59, 32, 102, 108, 111, 97, 116, 32, 99, 111, 115, 116, 32]⟩ : ByteArray).size = 14 := rfl; have q2 : (⟨#[44, 32, 110, 97, 116, 117, 114, 97, 108, 32, 115, 105, 122, 101, 32]⟩ : ByteArray).size = 15 := rfl; have q3 : (⟨#[44]⟩ : ByteArray).size = 1 := rfl; have q4 : (⟨#[59, 32, 115, 112, 108, 105, 116, 40]⟩ : ByteArray).size = 8 := rfl; omega
    first | (go_simp; done) | (go_simp; omega) | (go_simp; with_reducible rfl) | (go_simp; kernel_rfl)
  simp only [Act.put, List.setIfInBounds_toArray, List.set_cons_zero, List.set_cons_succ]
  refine take_lit (i := 24) (v := (.string (((((((((⟨#[105, 110, 115, 101, 114, 116, 32]⟩ ++ T1) ++ ⟨#[44, 32, 110, 97, 116, 117, 114, 97, 108, 32, 115, 105, 122, 101, 32]⟩) ++ T2) ++ ⟨#[59, 32, 115, 112, 108, 105, 116, 40]⟩) ++ T3) ++ ⟨#[44]⟩) ++ T4) ++ ⟨#[41, 59, 32, 102, 108, 111, 97, 116, 32, 99, 111, 115, 116, 32]⟩) ++ T5))) (by kernel_rfl) (by kernel_rfl) (by kernel_rfl) (by kernel_rfl) (fun _ _ _ _ h => h) hH5 (fun oi hoi => ?_)
  simp only [List.getElem?_toArray, List.getElem?_cons_succ, List.getElem?_cons_zero, Option.some.injEq] at hoi
  subst hoi
  refine ⟨.inl ⟨by rfl, fun w hSw => ?_⟩, ?_⟩
  · skip
    first | (go_simp; done) | (go_simp; omega) | (go_simp; with_reducible rfl) | (go_simp; kernel_rfl)
  simp only [Act.put, List.setIfInBounds_toArray, List.set_cons_zero, List.set_cons_succ]
  refine wpAnyH_done (by kernel_rfl) ?_ _
  go_wp2_with fail
  go_ret
  subst hg
  exact ⟨rfl, hH5.2.2⟩
set_option maxHeartbeats 8000000 in
set_option maxRecDepth 100000 in
theorem rline_17 (A : Option Addr) (ns : List Nd) (c a : Nat) (x : Nd) (w : World) (hseg : Seg w w.heap.size A (ns.flatMap ncs)) (hx : ns[a]? = some x) (hk : x.kind = 17)  :
    Calls Tryz.prog 33 #[.slice A ns.length c, .int .i64 (a : Int)] w fun e w' => e = .returned (.string (adjK)) ∧ Below w.heap.size w w' := by

  obtain ⟨b, off, rfl, hb, hn⟩ := seg_node hseg hx
  have hal : (a : Int) < (ns.length : Int) := by have := (List.getElem?_eq_some_iff.1 hx).1; omega
  have e1 : (x.kind == 1) = false := by simp [hk]
  have e2 : (x.kind == 2) = false := by simp [hk]
  have e3 : (x.kind == 3) = false := by simp [hk]
  have e4 : (x.kind == 4) = false := by simp [hk]
  have e5 : (x.kind == 5) = false := by simp [hk]
  have e7 : (x.kind == 7) = false := by simp [hk]
  have e8 : (x.kind == 8) = false := by simp [hk]
  have e9 : (x.kind == 9) = false := by simp [hk]
  have e10 : (x.kind == 10) = false := by simp [hk]
  have e12 : (x.kind == 12) = false := by simp [hk]
  have e14 : (x.kind == 14) = false := by simp [hk]
  have e13 : (x.kind == 13) = false := by simp [hk]
  have e17 : (x.kind == 17) = true := by simp [hk]
  clear hx hseg
  generalize ns.length = ln at *
  go_enter Tryz.func33, Tryz.ntmps33
  go_upto_region 2 with (first | (refine wpList_load_node rfl _ rfl _ _ rfl _ hn ?_) | (refine wpList_alloc_node rfl rfl ?_) | (refine wpList_store_node rfl _ _ rfl _ _ _ rfl rfl _ (by repeat (first | (apply Blk.new'; first | rfl | (simp; done)) | assumption | apply Blk.alloc)) ?_))
  rw [setRow_new _ _ _ _ _ rfl]
  have hH0 : Hd w w.heap.size x (w.alloc (.cells (nc x) 36)) := ⟨(Blk.new w 36 (nc x)).node, by simp, andAlloc (Below.refl w.heap.size w) _⟩
  generalize w.alloc (.cells (nc x) 36) = W at hH0 ⊢
  generalize hg : w.heap.size = g0 at hH0 ⊢
  have k0 := hH0.at (j := 0) rfl
  clear hn hb
  go_wp2_with fail
  go_ret
  subst hg
  exact ⟨rfl, hH0.2.2⟩
set_option maxHeartbeats 8000000 in
set_option maxRecDepth 100000 in
theorem rline_150 (A : Option Addr) (ns : List Nd) (c a : Nat) (x : Nd) (w : World) (hseg : Seg w w.heap.size A (ns.flatMap ncs)) (hx : ns[a]? = some x) (hk : x.kind = 15) (hw : x.wd = 0) :
    Calls Tryz.prog 33 #[.slice A ns.length c, .int .i64 (a : Int)] w fun e w' => e = .returned (.string (monK)) ∧ Below w.heap.size w w' := by
  have q1 : (x.wd != 0) = false := by simp [hw]
  have q2 : (x.kind == 16) = false := by simp [hk]
  clear hw
  obtain ⟨b, off, rfl, hb, hn⟩ := seg_node hseg hx
  have hal : (a : Int) < (ns.length : Int) := by have := (List.getElem?_eq_some_iff.1 hx).1; omega
  have e1 : (x.kind == 1) = false := by simp [hk]
  have e2 : (x.kind == 2) = false := by simp [hk]
  have e3 : (x.kind == 3) = false := by simp [hk]
  have e4 : (x.kind == 4) = false := by simp [hk]
  have e5 : (x.kind == 5) = false := by simp [hk]
  have e7 : (x.kind == 7) = false := by simp [hk]
  have e8 : (x.kind == 8) = false := by simp [hk]
  have e9 : (x.kind == 9) = false := by simp [hk]
  have e10 : (x.kind == 10) = false := by simp [hk]
  have e12 : (x.kind == 12) = false := by simp [hk]
  have e14 : (x.kind == 14) = false := by simp [hk]
  have e13 : (x.kind == 13) = false := by simp [hk]
  have e17 : (x.kind == 17) = false := by simp [hk]
  clear hx hseg
  generalize ns.length = ln at *
  go_enter Tryz.func33, Tryz.ntmps33
  go_upto_region 2 with (first | (refine wpList_load_node rfl _ rfl _ _ rfl _ hn ?_) | (refine wpList_alloc_node rfl rfl ?_) | (refine wpList_store_node rfl _ _ rfl _ _ _ rfl rfl _ (by repeat (first | (apply Blk.new'; first | rfl | (simp; done)) | assumption | apply Blk.alloc)) ?_))
  rw [setRow_new _ _ _ _ _ rfl]
  have hH0 : Hd w w.heap.size x (w.alloc (.cells (nc x) 36)) := ⟨(Blk.new w 36 (nc x)).node, by simp, andAlloc (Below.refl w.heap.size w) _⟩
  generalize w.alloc (.cells (nc x) 36) = W at hH0 ⊢
  generalize hg : w.heap.size = g0 at hH0 ⊢
  have k0 := hH0.at (j := 0) rfl
  clear hn hb
  have k3 := hH0.at (j := 3) rfl
  go_wp2_with fail
  go_ret
  subst hg
  exact ⟨rfl, hH0.2.2⟩
set_option maxHeartbeats 8000000 in
set_option maxRecDepth 100000 in
theorem rline_151 (A : Option Addr) (ns : List Nd) (c a : Nat) (x : Nd) (w : World) (hseg : Seg w w.heap.size A (ns.flatMap ncs)) (hx : ns[a]? = some x) (hk : x.kind = 15) (hw : ¬ x.wd = 0) :
    Calls Tryz.prog 33 #[.slice A ns.length c, .int .i64 (a : Int)] w fun e w' => e = .returned (.string (monK ++ ⟨#[44, 32, 115, 117, 114, 114, 111, 117, 110, 100, 101, 100, 32]⟩ ++ prS x.wd)) ∧ Below w.heap.size w w' := by
  have q1 : (x.wd != 0) = true := by simp [hw]
  have HC1 := Lib.hid (fun (W : World) => refPrint x.wd W)
  have hz1 := Gl.prS_size x.wd
  generalize prS x.wd = T1 at *
  have q2 : (x.kind == 16) = false := by simp [hk]
  clear hw
  have hq : ¬ 9223372036854775807 < (⟨#[109, 97, 116, 104, 111, 110]⟩ : ByteArray).size + (⟨#[44, 32, 115, 117, 114, 114, 111, 117, 110, 100, 101, 100, 32]⟩ : ByteArray).size := by show ¬ 9223372036854775807 < 6 + 13; omega
  have hq2 : ¬ 9223372036854775807 < ((⟨#[109, 97, 116, 104, 111, 110]⟩ : ByteArray) ++ ⟨#[44, 32, 115, 117, 114, 114, 111, 117, 110, 100, 101, 100, 32]⟩).size + T1.size := by rw [ByteArray.size_append]; show ¬ 9223372036854775807 < 6 + 13 + _; omega
  obtain ⟨b, off, rfl, hb, hn⟩ := seg_node hseg hx
  have hal : (a : Int) < (ns.length : Int) := by have := (List.getElem?_eq_some_iff.1 hx).1; omega
  have e1 : (x.kind == 1) = false := by simp [hk]
  have e2 : (x.kind == 2) = false := by simp [hk]
  have e3 : (x.kind == 3) = false := by simp [hk]
  have e4 : (x.kind == 4) = false := by simp [hk]
  have e5 : (x.kind == 5) = false := by simp [hk]
  have e7 : (x.kind == 7) = false := by simp [hk]
  have e8 : (x.kind == 8) = false := by simp [hk]
  have e9 : (x.kind == 9) = false := by simp [hk]
  have e10 : (x.kind == 10) = false := by simp [hk]
  have e12 : (x.kind == 12) = false := by simp [hk]
  have e14 : (x.kind == 14) = false := by simp [hk]
  have e13 : (x.kind == 13) = false := by simp [hk]
  have e17 : (x.kind == 17) = false := by simp [hk]
  clear hx hseg
  generalize ns.length = ln at *
  go_enter Tryz.func33, Tryz.ntmps33
  go_upto_region 2 with (first | (refine wpList_load_node rfl _ rfl _ _ rfl _ hn ?_) | (refine wpList_alloc_node rfl rfl ?_) | (refine wpList_store_node rfl _ _ rfl _ _ _ rfl rfl _ (by repeat (first | (apply Blk.new'; first | rfl | (simp; done)) | assumption | apply Blk.alloc)) ?_))
  rw [setRow_new _ _ _ _ _ rfl]
  have hH0 : Hd w w.heap.size x (w.alloc (.cells (nc x) 36)) := ⟨(Blk.new w 36 (nc x)).node, by simp, andAlloc (Below.refl w.heap.size w) _⟩
  generalize w.alloc (.cells (nc x) 36) = W at hH0 ⊢
  generalize hg : w.heap.size = g0 at hH0 ⊢
  have k0 := hH0.at (j := 0) rfl
  clear hn hb
  have k3 := hH0.at (j := 3) rfl
  go_wp2_with fail
  refine (HC1.out _).mono ?_
  rintro e w1 ⟨rfl, hb1⟩
  have HH1 := Lib.hid (hH0.keep hb1)
  clear hb1
  go_wp2_with fail
  go_ret
  subst hg
  exact ⟨rfl, HH1.out.2.2⟩
set_option maxHeartbeats 8000000 in
set_option maxRecDepth 100000 in
theorem rline_160 (A : Option Addr) (ns : List Nd) (c a : Nat) (x : Nd) (w : World) (hseg : Seg w w.heap.size A (ns.flatMap ncs)) (hx : ns[a]? = some x) (hk : x.kind = 16) (hw : x.wd = 0) :
    Calls Tryz.prog 33 #[.slice A ns.length c, .int .i64 (a : Int)] w fun e w' => e = .returned (.string (mofK)) ∧ Below w.heap.size w w' := by
  have q1 : (x.wd != 0) = false := by simp [hw]
  have q2 : (x.kind == 16) = true := by simp [hk]
  clear hw
  obtain ⟨b, off, rfl, hb, hn⟩ := seg_node hseg hx
  have hal : (a : Int) < (ns.length : Int) := by have := (List.getElem?_eq_some_iff.1 hx).1; omega
  have e1 : (x.kind == 1) = false := by simp [hk]
  have e2 : (x.kind == 2) = false := by simp [hk]
  have e3 : (x.kind == 3) = false := by simp [hk]
  have e4 : (x.kind == 4) = false := by simp [hk]
  have e5 : (x.kind == 5) = false := by simp [hk]
  have e7 : (x.kind == 7) = false := by simp [hk]
  have e8 : (x.kind == 8) = false := by simp [hk]
  have e9 : (x.kind == 9) = false := by simp [hk]
  have e10 : (x.kind == 10) = false := by simp [hk]
  have e12 : (x.kind == 12) = false := by simp [hk]
  have e14 : (x.kind == 14) = false := by simp [hk]
  have e13 : (x.kind == 13) = false := by simp [hk]
  have e17 : (x.kind == 17) = false := by simp [hk]
  clear hx hseg
  generalize ns.length = ln at *
  go_enter Tryz.func33, Tryz.ntmps33
  go_upto_region 2 with (first | (refine wpList_load_node rfl _ rfl _ _ rfl _ hn ?_) | (refine wpList_alloc_node rfl rfl ?_) | (refine wpList_store_node rfl _ _ rfl _ _ _ rfl rfl _ (by repeat (first | (apply Blk.new'; first | rfl | (simp; done)) | assumption | apply Blk.alloc)) ?_))
  rw [setRow_new _ _ _ _ _ rfl]
  have hH0 : Hd w w.heap.size x (w.alloc (.cells (nc x) 36)) := ⟨(Blk.new w 36 (nc x)).node, by simp, andAlloc (Below.refl w.heap.size w) _⟩
  generalize w.alloc (.cells (nc x) 36) = W at hH0 ⊢
  generalize hg : w.heap.size = g0 at hH0 ⊢
  have k0 := hH0.at (j := 0) rfl
  clear hn hb
  have k3 := hH0.at (j := 3) rfl
  go_wp2_with fail
  go_ret
  subst hg
  exact ⟨rfl, hH0.2.2⟩
set_option maxHeartbeats 8000000 in
set_option maxRecDepth 100000 in
theorem rline_161 (A : Option Addr) (ns : List Nd) (c a : Nat) (x : Nd) (w : World) (hseg : Seg w w.heap.size A (ns.flatMap ncs)) (hx : ns[a]? = some x) (hk : x.kind = 16) (hw : ¬ x.wd = 0) :
    Calls Tryz.prog 33 #[.slice A ns.length c, .int .i64 (a : Int)] w fun e w' => e = .returned (.string (mofK ++ ⟨#[44, 32, 115, 117, 114, 114, 111, 117, 110, 100, 101, 100, 32]⟩ ++ prS x.wd)) ∧ Below w.heap.size w w' := by
  have q1 : (x.wd != 0) = true := by simp [hw]
  have HC1 := Lib.hid (fun (W : World) => refPrint x.wd W)
  have hz1 := Gl.prS_size x.wd
  generalize prS x.wd = T1 at *
  have q2 : (x.kind == 16) = true := by simp [hk]
  clear hw
  have hq : ¬ 9223372036854775807 < (⟨#[109, 97, 116, 104, 111, 102, 102]⟩ : ByteArray).size + (⟨#[44, 32, 115, 117, 114, 114, 111, 117, 110, 100, 101, 100, 32]⟩ : ByteArray).size := by show ¬ 9223372036854775807 < 7 + 13; omega
  have hq2 : ¬ 9223372036854775807 < ((⟨#[109, 97, 116, 104, 111, 102, 102]⟩ : ByteArray) ++ ⟨#[44, 32, 115, 117, 114, 114, 111, 117, 110, 100, 101, 100, 32]⟩).size + T1.size := by rw [ByteArray.size_append]; show ¬ 9223372036854775807 < 7 + 13 + _; omega
  obtain ⟨b, off, rfl, hb, hn⟩ := seg_node hseg hx
  have hal : (a : Int) < (ns.length : Int) := by have := (List.getElem?_eq_some_iff.1 hx).1; omega
  have e1 : (x.kind == 1) = false := by simp [hk]
  have e2 : (x.kind == 2) = false := by simp [hk]
  have e3 : (x.kind == 3) = false := by simp [hk]
  have e4 : (x.kind == 4) = false := by simp [hk]
  have e5 : (x.kind == 5) = false := by simp [hk]
  have e7 : (x.kind == 7) = false := by simp [hk]
  have e8 : (x.kind == 8) = false := by simp [hk]
  have e9 : (x.kind == 9) = false := by simp [hk]
  have e10 : (x.kind == 10) = false := by simp [hk]
  have e12 : (x.kind == 12) = false := by simp [hk]
  have e14 : (x.kind == 14) = false := by simp [hk]
  have e13 : (x.kind == 13) = false := by simp [hk]
  have e17 : (x.kind == 17) = false := by simp [hk]
  clear hx hseg
  generalize ns.length = ln at *
  go_enter Tryz.func33, Tryz.ntmps33
  go_upto_region 2 with (first | (refine wpList_load_node rfl _ rfl _ _ rfl _ hn ?_) | (refine wpList_alloc_node rfl rfl ?_) | (refine wpList_store_node rfl _ _ rfl _ _ _ rfl rfl _ (by repeat (first | (apply Blk.new'; first | rfl | (simp; done)) | assumption | apply Blk.alloc)) ?_))
  rw [setRow_new _ _ _ _ _ rfl]
  have hH0 : Hd w w.heap.size x (w.alloc (.cells (nc x) 36)) := ⟨(Blk.new w 36 (nc x)).node, by simp, andAlloc (Below.refl w.heap.size w) _⟩
  generalize w.alloc (.cells (nc x) 36) = W at hH0 ⊢
  generalize hg : w.heap.size = g0 at hH0 ⊢
  have k0 := hH0.at (j := 0) rfl
  clear hn hb
  have k3 := hH0.at (j := 3) rfl
  go_wp2_with fail
  refine (HC1.out _).mono ?_
  rintro e w1 ⟨rfl, hb1⟩
  have HH1 := Lib.hid (hH0.keep hb1)
  clear hb1
  go_wp2_with fail
  go_ret
  subst hg
  exact ⟨rfl, HH1.out.2.2⟩
end Go.Proofs.YtmcekdjhkjhcdaaGreatDoor.Sw
end

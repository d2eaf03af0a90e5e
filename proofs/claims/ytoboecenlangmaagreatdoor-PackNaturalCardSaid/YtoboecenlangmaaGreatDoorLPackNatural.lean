import Derived.Test.YtoboecenlangmaaGreatDoorMr1
import Derived.Test.YtoboecenlangmaaGreatDoorMr2
import Derived.Test.YtoboecenlangmaaGreatDoorNr
import Derived.Test.YtoboecenlangmaaGreatDoorNodeE
import Derived.Test.YtoboecenlangmaaGreatDoorNodeF
import Derived.Deep.RegionHeld3
import Derived.Deep.QuietTactic
import Derived.BigQuiet
import Derived.Test.YtoboecenlangmaaGreatDoorMem
import Derived.ProofKit
import Derived.OpenShut
import Derived.Deep.Slices
import Derived.KernelRfl
import Derived.SizedLaws
import Derived.Carry
import Derived.Test.YtoboecenlangmaaGreatDoorCard
/- PackNatural: a row that is packed as it is: as wide as its contents, and nothing is to be said of it. No conditions. (printed by gen_card.py) -/
section
namespace Go.Proofs.YtoboecenlangmaaGreatDoor.Pk
open Go.ChangeShapes Go.WideShapes Go.ChangeAt Go.RowKit
open Me Np No
set_option linter.unusedVariables false
set_option linter.unusedSimpArgs false

def bitN : Nd := { nz 1 with char := 97, wd := 327680, ht := 262144 }
def gluN : Nd := { nz 7 with gn := 65536, gs := 131072, gh := 65536 }
def l3 : List Nd := [bitN, gluN, bitN]
theorem bit_right : right bitN = true := right_s bitN 1 rfl rfl rfl rfl
theorem glu_right : right gluN = true := right_s gluN 7 rfl rfl rfl rfl
theorem end_right : right (nz 6) = true := right_s (nz 6) 6 rfl rfl rfl rfl
theorem l3_chk : chk l3 = 0 := by
  have h : Np.run l3 ([], 0) = some ([], 1) := by
    simp only [l3, Np.run, stp, bit_right, glu_right]
    rfl
  unfold chk
  rw [h]
  rfl
theorem l3_its : Its [0, 1, 2] l3 0 := ⟨rfl, 1, rfl, rfl, 1, rfl, rfl, 1, rfl, rfl⟩
theorem l3_part : partD l3 = (l3, []) := by
  unfold partD
  rw [itsD_of l3_its]
  rfl
theorem l3_al : alD l3 false 0 = 327680 ∧ alD l3 false 1 = 65536 ∧ alD l3 false 2 = 327680 :=
  ⟨alD_of ⟨bitN, rfl, rfl⟩, alD_of ⟨gluN, rfl, rfl⟩, alD_of ⟨bitN, rfl, rfl⟩⟩
theorem l3_tot : totD l3 false [0, 1, 2] = ⟨720896, [131072, 0, 0, 0], [65536, 0, 0, 0]⟩ := by
  have h : ∀ al : Nat → Int, al 0 = 327680 → al 1 = 65536 → al 2 = 327680 → tsum l3 al [0, 1, 2] tz = ⟨720896, [131072, 0, 0, 0], [65536, 0, 0, 0]⟩ := by
    intro al h0 h1 h2
    simp only [tsum, h0, h1, h2]
    rfl
  exact h _ l3_al.1 l3_al.2.1 l3_al.2.2
theorem l3_ext : extD l3 false [0, 1, 2] = (262144, 0) := by
  have h0 : roD l3 0 = (262144, 0) := roD_of ⟨bitN, rfl, rfl⟩
  have h1 : roD l3 1 = (0, 0) := roD_of ⟨gluN, rfl, rfl⟩
  have h2 : roD l3 2 = (262144, 0) := roD_of ⟨bitN, rfl, rfl⟩
  have h : ∀ ra : Nat → Int × Int, ra 0 = (262144, 0) → ra 1 = (0, 0) → ra 2 = (262144, 0) → rfold ra [0, 1, 2] (0, 0) = (262144, 0) := by
    intro ra h0 h1 h2
    simp only [rfold, h0, h1, h2]
    rfl
  exact h _ h0 h1 h2
theorem l3_msr : Msr l3 false 720896 131072 0 0 0 65536 0 0 0 0 262144 0 0 := by
  have ht := fun A k w h hs => totals_any A l3 k [0, 1, 2] false w l3_chk h hs l3_its
  have hR : totR l3 false [0, 1, 2] = ⟨720896, [131072, 0, 0, 0], [65536, 0, 0, 0]⟩ := by
    unfold totR
    rw [l3_tot]
    rfl
  have hu := fun A k w h hs => extent_good A l3 k [0, 1, 2] false w l3_chk h hs l3_its
  simp only [hR, l3_tot] at ht
  simp only [l3_ext] at hu
  exact ⟨ht, hu, fun _ => rfl, fun _ => ⟨rfl, rfl, rfl, rfl, rfl, rfl, rfl, rfl⟩, fun _ => .inl rfl, fun _ => ⟨rfl, rfl⟩⟩
/-- The box around them. -/
def boxN : Nd := fitN (hN 851968 262144 0) (1, 0, 131072, 131072)
theorem box_right : right boxN = true := right_s boxN 4 rfl rfl rfl rfl
theorem box_chk : chk (wrapL boxN l3) = 0 := by
  have h : Np.run (wrapL boxN l3) ([], 0) = some ([], 2) := by
    simp only [wrapL, l3, List.cons_append, List.nil_append, Np.run, stp, bit_right, glu_right, box_right, end_right]
    rfl
  unfold chk
  rw [h]
  rfl
theorem live_hpack (A : Option Addr) (k : Nat) (w : World) (hk : 3 ≤ k) (hs : Seg w w.heap.size A (l3.flatMap ncs)) : Calls Tryz.prog 8 #[.slice A 3 k, .int .i64 851968, .bool true] w (HOut (wrapL boxN l3, [], 100, 0, 0) w) := by
  have h := hpack_t A l3 l3 [] (wrapL boxN l3) k 851968 w l3_chk hk hs rfl l3_part 720896 131072 0 0 0 65536 0 0 0 0 262144 0 0 0 851968 l3_msr rfl (fun A c' w hs => (wrap_ok boxN A l3 c' w hs box_right rfl (by decide) l3_chk box_chk).mono (by rintro e w' ⟨v, rfl, h, hb⟩; exact ⟨v, rfl, h, hb⟩))
  have e : hpkR 0 0 (dimB 851968) 0 (wrapL boxN l3) [] (setV (fitN (hN 851968 262144 0) (Gl.fit 131072 0 0 0 65536 0 0 0 (851968 - 720896))) 131072 65536 ((l3.length : Int) == 0) (851968 - 720896) (0, 0)).1 (setV (fitN (hN 851968 262144 0) (Gl.fit 131072 0 0 0 65536 0 0 0 (851968 - 720896))) 131072 65536 ((l3.length : Int) == 0) (851968 - 720896) (0, 0)).2 = (wrapL boxN l3, [], 100, 0, 0) := by kernel_rfl
  rw [e] at h
  exact h
theorem live_sizes : Gl.szE [gOf gluN] 1 0 131072 131072 = 0 ∧ Gl.szL [gOf gluN] 1 0 131072 131072 = [196608] := by
  have hr : Gl.rowE [gOf gluN] = 0 := by decide
  have ha : Gl.argOk 1 0 = true := by decide
  have hg : Gl.rngOk 1 131072 131072 = true := by decide
  have hz : Gl.run 1 0 131072 131072 [gOf gluN] = some ⟨131072, 131072, [196608]⟩ := by kernel_rfl
  exact Gl.szE_some hr ha hg hz
theorem live_places (A : Option Addr) (k : Nat) (w : World) (hk : 5 ≤ k) (hs : Seg w w.heap.size A ((wrapL boxN l3).flatMap ncs)) : Calls Tryz.prog 20 #[.slice A 5 k, .int .i64 0] w (PlOut [0, 327680, 524288] 0 w) := by
  obtain ⟨f, hf, hv, hz⟩ := size_case l3 false l3_chk
  have f0 : f 0 = 327680 := hv 0 bitN rfl (.inr (by decide))
  have f2 : f 2 = 327680 := hv 2 bitN rfl (.inr (by decide))
  have hin : innerL (wrapL boxN l3) 0 5 = l3 := rfl
  have hI := inside_ok A (wrapL boxN l3) k 0 5 boxN w hk hs box_chk rfl rfl rfl rfl
  rw [hin] at hI
  have h := places_ok A (wrapL boxN l3) l3 k 0 boxN [0, 1, 2] f w hk (by decide) hs rfl (.inl rfl) hI l3_chk l3_its hf hz
  have e : plcR boxN l3 f [0, 1, 2] = ([0, 327680, 524288], 0) := by
    unfold plcR
    have hg : skF l3 [0, 1, 2] [] = [gOf gluN] := rfl
    rw [hg]
    have h1 : Gl.szE [gOf gluN] boxN.sign boxN.order boxN.num boxN.den = 0 := live_sizes.1
    have h2 : Gl.szL [gOf gluN] boxN.sign boxN.order boxN.num boxN.den = [196608] := live_sizes.2
    rw [h1, h2, if_pos rfl]
    have h3 : ∀ f : Nat → Int, f 0 = 327680 → f 2 = 327680 → (plF l3 f [0, 1, 2] ⟨0, [196608], []⟩).out = [0, 327680, 524288] := by
      intro f h0 h2
      show [(0 : Int), 0 + f 0, 0 + f 0 + 196608] = _
      rw [h0]
      rfl
    rw [h3 f f0 f2]
  rw [e] at h
  exact h
end Go.Proofs.YtoboecenlangmaaGreatDoor.Pk
end
section
namespace Go.Proofs.YtoboecenlangmaaGreatDoor.Pk
open Go.ChangeShapes Go.WideShapes Go.ChangeAt Go.RowKit
open Me Np No
set_option linter.unusedVariables false
set_option linter.unusedSimpArgs false

theorem num6_any (x : Int) (w : World) : Calls Tryz.prog 9 #[.int .i64 x] w fun e w' => e = .returned (.int .i64 x) ∧ w = w' := by
  go_enter Tryz.func9, Tryz.ntmps9
  go_wp2
  go_ret
  exact ⟨rfl, rfl⟩
section
attribute [local go_sem ↓] bldN_eq
set_option maxRecDepth 100000 in
theorem bit_any (w : World) : Calls Tryz.prog 18 #[] w fun e w' => e = .returned (.agg (nc bitN)) ∧ Below w.heap.size w w' := by
  have hbn : ∀ w, (bldN #[(0, .int .i64 1), (2, .int .u8 97), (3, .int .i64 327680), (4, .int .i64 262144)]).run Tryz.prog w = .ok (.agg (nc bitN)) w := fun w => by rw [← bldN_eq]; exact run_build w 40 _ _ (by kernel_rfl)
  go_enter Tryz.func18, Tryz.ntmps18
  go_wp2_with (first | (refine wpList_alloc_node rfl rfl ?_) | (refine wpList_store_node rfl _ _ rfl _ _ _ rfl rfl _ (by repeat (first | (apply Blk.new'; first | rfl | (simp; done)) | assumption | apply Blk.alloc)) ?_))
  exact bodyPost_ret (v := .agg (nc bitN)) (results_node rfl _ _ _ _ rfl (by repeat (first | apply NodeAt.row | (apply Blk.new'; first | rfl | (simp; done)) | (apply Blk.node; apply Blk.new'; first | rfl | (simp; done)) | assumption | apply NodeAt.alloc))) rfl ⟨rfl, (by repeat (first | (refine below_setRow ?_ _ _ ?_; rotate_left; focus (simp; done)) | exact Below.refl _ _ | refine andAlloc ?_ _))⟩
set_option maxRecDepth 100000 in
theorem glu_any (w : World) : Calls Tryz.prog 19 #[] w fun e w' => e = .returned (.agg (nc gluN)) ∧ Below w.heap.size w w' := by
  have hbn : ∀ w, (bldN #[(0, .int .i64 7), (7, .agg #[.int .i64 65536, .int .i64 131072, .int .i64 65536, .int .i64 0, .int .i64 0])]).run Tryz.prog w = .ok (.agg (nc gluN)) w := fun w => by rw [← bldN_eq]; exact run_build w 40 _ _ (by kernel_rfl)
  go_enter Tryz.func19, Tryz.ntmps19
  go_wp2_with (first | (refine wpList_alloc_node rfl rfl ?_) | (refine wpList_build_eq (o := ⟨some 1, _, _, _, _, _⟩) rfl _ _ rfl #[.int .i64 65536, .int .i64 131072, .int .i64 65536, .int .i64 0, .int .i64 0] (by kernel_rfl) ?_) | (refine wpList_build_eq (o := ⟨some 2, _, _, _, _, _⟩) rfl _ _ rfl (nc gluN) (by kernel_rfl) ?_) | (refine wpList_store_node rfl _ _ rfl _ _ _ rfl rfl _ (by repeat (first | (apply Blk.new'; first | rfl | (simp; done)) | assumption | apply Blk.alloc)) ?_))
  exact bodyPost_ret (v := .agg (nc gluN)) (results_node rfl _ _ _ _ rfl (by repeat (first | apply NodeAt.row | (apply Blk.new'; first | rfl | (simp; done)) | (apply Blk.node; apply Blk.new'; first | rfl | (simp; done)) | assumption | apply NodeAt.alloc))) rfl ⟨rfl, (by repeat (first | (refine below_setRow ?_ _ _ ?_; rotate_left; focus (simp; done)) | exact Below.refl _ _ | refine andAlloc ?_ _))⟩
end
theorem l3_seg {w : World} {g : Nat} (hg : g = w.heap.size) : Seg (w.alloc (.cells (l3.flatMap ncs).toArray 40)) (w.alloc (.cells (l3.flatMap ncs).toArray 40)).heap.size (some ⟨g, 0, none⟩) (l3.flatMap ncs) := by
  subst hg
  refine .inr ⟨w.heap.size, 0, rfl, by simp, fun j u hu => ?_⟩
  rw [Nat.zero_add, (Blk.new w _ _).cell j]
  simpa using hu
theorem blk_seg {w : World} {g B : Nat} {t : TypeId} {cs : Array Value} {xs : List Value} (h : Blk w g t cs) (hB : g < B) (hx : cs.toList = xs) : Seg w B (some ⟨g, 0, none⟩) xs :=
  .inr ⟨g, 0, rfl, hB, fun j u hu => by rw [Nat.zero_add, h.cell j]; rw [← hx] at hu; simpa using hu⟩
set_option maxRecDepth 100000 in
theorem live_any (w : World) : Calls Tryz.prog 7 #[] w fun e w' => e = .returned (.bool true) ∧ Below w.heap.size w w' := by
  go_enter Tryz.func7, Tryz.ntmps7
  go_wp2_with fail
  refine (bit_any _).mono ?_
  rintro e w1 ⟨rfl, hb1⟩
  go_wp2_with fail
  refine (glu_any _).mono ?_
  rintro e w2 ⟨rfl, hb2⟩
  go_wp2_with fail
  refine (bit_any _).mono ?_
  rintro e w3 ⟨rfl, hb3⟩
  have hl3 : Below w.heap.size w w3 := andThen (andThen hb1 hb2) hb3
  clear hb1 hb2 hb3
  go_wp2_with (first | (refine wpList_ex (o := ⟨some 12, _, _, _, _, _⟩) (v := .slice (some ⟨w3.heap.size, 0, none⟩) 3 3) (w' := w3.alloc (.cells (l3.flatMap ncs).toArray 40)) rfl (by kernel_rfl) ?_))
  refine (live_hpack (some ⟨w3.heap.size, 0, none⟩) 3 _ (by omega) (l3_seg rfl)).mono ?_
  rintro e w4 ⟨va, vb, rfl, ho, hb4⟩
  have HL4 := Lib.hid (andThen (andAlloc hl3 (.cells (l3.flatMap ncs).toArray 40)) hb4)
  obtain ⟨Aa, ca, e0, hca, _, hsa⟩ := Seg.of_own ho.one
  simp only at e0
  subst e0
  clear hb4 hl3 ho
  simp only
  go_wp2_with fail
  refine (live_places Aa ca w4 hca hsa).mono ?_
  rintro e w5 ⟨v5, rfl, ho5, hb5⟩
  obtain ⟨A5, c5, e5, hc5, _, hs5⟩ := Seg.of_own ho5
  subst e5
  have HL5 := Lib.hid (andThen HL4.out hb5)
  clear hb5 ho5 hsa
  go_wp2_with (go_at_call 9; refine (num6_any _ _).mono ?_; rintro e w' ⟨rfl, rfl⟩)
  have hb6 : Below w5.heap.size w5 (w5.alloc (.cells #[.int .i64 0, .int .i64 327680, .int .i64 524288] 3)) := andAlloc (Below.refl _ _) _
  refine (Si.same_ints A5 (some ⟨w5.heap.size, 0, none⟩) [0, 327680, 524288] [0, 327680, 524288] c5 3 _ (by decide) (by decide) (Seg.belowW hs5 hb6) (blk_seg (Blk.new' rfl) (by simp) rfl)).mono ?_
  rintro e w6 ⟨rfl, hb7⟩
  go_wp2_with fail
  go_ret
  exact ⟨rfl, andThen (andThen HL5.out hb6) hb7⟩
end Go.Proofs.YtoboecenlangmaaGreatDoor.Pk
end
section
namespace Go.Proofs.YtoboecenlangmaaGreatDoor.Pk
open Go.ChangeShapes Go.WideShapes Go.ChangeAt Go.RowKit
open Me Np No
set_option linter.unusedVariables false
set_option linter.unusedSimpArgs false

theorem seg_own {w : World} {base n c : Nat} {A : Option Addr} {xs : List Value} (h : w.ownsRow base 40 19 (.slice A n c) n xs) : Seg w w.heap.size A xs := by
  obtain ⟨A1, c1, e, _, _, hs⟩ := Seg.of_own h
  injection e with e _ _
  subst e
  exact hs
theorem val_own {w : World} {base : Nat} {e : TypeId} {size n : Nat} {v : Value} {xs : List Value} (h : w.ownsRow base e size v n xs) : ∃ A c, v = .slice A n c ∧ n ≤ c := by
  obtain ⟨A, c, h1, h2, _⟩ := Seg.of_own h
  exact ⟨A, c, h1, h2⟩
theorem opens_beg {n : Nd} (h : opensB n = true) : ¬ n.kind = 6 ∧ ¬ n.kind = 11 := by
  constructor
  · intro e; simp [opensB, e] at h
  · intro e; simp [opensB, e] at h
theorem num6_q (x : Int) (w : World) : Calls Tryz.prog 9 #[.int .i64 x] w fun e w' => e = .returned (.int .i64 x) ∧ w' = w :=
  (num6_any x w).mono fun _ _ h => ⟨h.1, h.2.symm⟩
/-- The first node of a row of one's own. -/
theorem head_cells {w : World} {base k : Nat} {A : Option Addr} {L : List Nd} {n : Nd} {r : List Nd} (ho : w.ownsRow base 40 19 (.slice A L.length k) L.length (L.flatMap ncs)) (hL : L = n :: r) :
    ∃ b off : Nat, A = some ⟨b, off, none⟩ ∧ ∀ w', Below w.heap.size w w' → w'.cell? ⟨b, off + 3, none⟩ = some (.int .i64 n.wd) ∧ w'.cell? ⟨b, off + 4, none⟩ = some (.int .i64 n.ht) ∧ w'.cell? ⟨b, off + 5, none⟩ = some (.int .i64 n.dp) ∧ w'.cell? ⟨b, off + 12, none⟩ = some (.int .i64 n.sign) := by
  obtain ⟨b, off, hA, hb, hn⟩ := seg_node (seg_own ho) (k := 0) (n := n) (by rw [hL]; rfl)
  refine ⟨b, off, hA, fun w' h => ?_⟩
  have h2 := hn.below h hb
  rw [Nat.zero_mul, Nat.add_zero] at h2
  exact ⟨h2 3 _ rfl, h2 4 _ rfl, h2 5 _ rfl, h2 12 _ rfl⟩
end Go.Proofs.YtoboecenlangmaaGreatDoor.Pk
end
section
namespace Go.Proofs.YtoboecenlangmaaGreatDoor.No
open Go.ChangeShapes Go.WideShapes Go.ChangeAt Go.RowKit
open Me Np
set_option linter.unusedVariables false
set_option linter.unusedSimpArgs false

theorem ropens_any (n : Nd) (w : World) : Calls Tryz.prog 59 #[.agg (nc n)] w fun e w' => e = .returned (.bool (opensB n)) ∧ w.alloc (.cells (nc n) 40) = w' := by
  go_enter Tryz.func59, Tryz.ntmps59
  go_wp2_with fail
  all_goals (go_ret; exact ⟨ret_bool (by simp_all [opensB]), rfl⟩)
end Go.Proofs.YtoboecenlangmaaGreatDoor.No
end
section
namespace Go.Proofs.YtoboecenlangmaaGreatDoor.No
open Go.ChangeShapes Go.WideShapes Go.ChangeAt Go.RowKit
open Me Np
set_option linter.unusedVariables false
set_option linter.unusedSimpArgs false

/-- What the loop of Ends holds. -/
structure InvEr (ns : List Nd) (w : World) (a m i : Nat) (q : Int) (wr : World) : Prop where
  lt : i < m
  bd : 0 ≤ q ∧ q ≤ i
  pos : q = 0 → i = 0
  rest : endc (ns.drop (a + i)) q = some (m - i)
  low : Below w.heap.size w wr
set_option maxHeartbeats 1000000 in
set_option maxRecDepth 100000 in
theorem rends_any (A : Option Addr) (ns : List Nd) (c a m : Nat) (w : World) (hl : ns.length ≤ 9223372036854775806) (hseg : Seg w w.heap.size A (ns.flatMap ncs)) (hm : endc (ns.drop a) 0 = some m) (h6 : ∀ n, ns[a]? = some n → ¬ n.kind = 6) :
    Calls Tryz.prog 35 #[.slice A ns.length c, .int .i64 (a : Int)] w fun e w' => e = .returned (.int .i64 ((a + m : Nat) : Int)) ∧ Below w.heap.size w w' := by
  have hb0 := endc_bd hm
  rw [List.length_drop] at hb0
  have hb1 : a + m ≤ ns.length := by omega
  have hal : a < ns.length := by omega
  have HM := Lib.hid hm
  have HSEG := Lib.hid hseg
  obtain ⟨x0, hx0⟩ : ∃ x, ns[a]? = some x := ⟨_, List.getElem?_eq_getElem (by omega)⟩
  have h60 := h6 x0 hx0
  obtain ⟨b, off, rfl, hb, hnode⟩ := seg_node hseg hx0
  obtain ⟨x1, hx1, hd⟩ := get_drop (l := ns) (k := a) (by omega)
  rw [hx0] at hx1
  injection hx1 with hx1
  subst hx1
  have hrest := hm
  rw [hd] at hrest
  have HE := Lib.hid (endc_cons hrest)
  have HX0 := Lib.hid hx0
  have H60 := Lib.hid h60
  clear hseg hm hb0 h6 h60 hrest hd hx0
  generalize hlen : ns.length = len at *
  have HL := Lib.hid hlen
  clear hlen
  cases hO : opensB x0
  · have HO := Lib.hid hO
    clear hO
    go_enter Tryz.func35, Tryz.ntmps35
    go_wp2_with (first | (go_at_call 59; (with_reducible refine (ropens_any _ _).mono ?_); rintro e w' ⟨rfl, rfl⟩; simp only [HO.out]) | (with_reducible show wpList _ _ _ _ _ _; refine wpList_load_node rfl _ rfl _ _ rfl _ (by repeat (first | apply NodeAt.row | (apply Blk.new'; first | rfl | (simp; done)) | (apply Blk.node; apply Blk.new'; first | rfl | (simp; done)) | assumption | apply NodeAt.alloc)) ?_))
    go_ret
    refine ⟨ret_int ?_, andAlloc (Below.refl _ _) _⟩
    have h1 := HE.out
    have hcn : cnt x0 0 = 0 := by simp [cnt, HO.out, H60.out]
    rw [hcn] at h1
    rcases h1 with ⟨_, h1⟩ | ⟨h1, _⟩
    · omega
    · exact absurd rfl h1
  · have HO := Lib.hid hO
    have HO0 := Lib.hid hO
    clear hO
    go_enter Tryz.func35, Tryz.ntmps35
    go_wp2_with (first | (go_at_call 59; (with_reducible refine (ropens_any _ _).mono ?_); rintro e w' ⟨rfl, rfl⟩; simp only [HO.out]) | (with_reducible show wpList _ _ _ _ _ _; refine wpList_load_node rfl _ rfl _ _ rfl _ (by repeat (first | apply NodeAt.row | (apply Blk.new'; first | rfl | (simp; done)) | (apply Blk.node; apply Blk.new'; first | rfl | (simp; done)) | assumption | apply NodeAt.alloc)) ?_))
    clear hnode HE
    go_loopw [5, 6] (fun n v wr => ∃ (i : Nat) (q : Int), v = .int .i64 ((a : Int) + (i : Int)) ∧ n = .int .i64 q ∧ InvEr ns w a m i q wr) (fun _ v _ => a + m - (intOf v).toNat)
    case atStart =>
      have h1 := endc_bd HM.out
      exact ⟨0, 0, by simp, rfl, by omega, by simp, fun _ => rfl, by simpa using HM.out, andAlloc (Below.refl _ _) _⟩
    case round =>
      obtain ⟨i, q, rfl, rfl, hI⟩ := hrel
      obtain ⟨b0, b1⟩ := hI.bd
      have hi := hI.lt
      have hi2 : a + i < len := by omega
      have hi3 : 0 ≤ (a : Int) + i := by omega
      have hi4 : (a : Int) + i < len := by omega
      obtain ⟨x, hx, hd⟩ := get_drop (l := ns) (k := a + i) (by rw [HL.out]; omega)
      obtain ⟨b', off', he, _, hnode⟩ := seg_node HSEG.out hx
      injection he with he
      injection he with he1 he2
      subst he1; subst he2
      have hnr : NodeAt wr b (off + (a + i) * 19) x := hnode.below hI.low hb
      have hrest := hI.rest
      rw [hd] at hrest
      have HE := Lib.hid (endc_cons hrest)
      have HI := Lib.hid hI
      have hq0 : opensB x = true ∨ 1 ≤ q := by
        by_cases hq : q = 0
        · left
          have hi0 := hI.pos hq
          subst hi0
          rw [Nat.add_zero, HX0.out] at hx
          injection hx with hx
          rw [← hx]
          exact HO0.out
        · right; omega
      have htn : ((a : Int) + (i : Int)).toNat = a + i := by omega
      clear hx hd hnode hrest hI
      have hc0 : wr.cell? ⟨b, off + (a + i) * 19, none⟩ = some (.int .i64 x.kind) := hnr 0 _ rfl
      have hbw := hnr.lt
      cases hO : opensB x
      · have hq1 : 1 ≤ q := by rcases hq0 with h | h; (rw [h] at hO; cases hO); exact h
        by_cases k6 : x.kind = 6
        · have e6 : (x.kind == 6) = true := by simp [k6]
          have hcn : cnt x q = q - 1 := by simp [cnt, hO, k6]
          have HO := Lib.hid hO
          clear hO k6 hq0
          have HC := Lib.hid hcn
          clear hcn
          by_cases hz : q - 1 = 0
          · have ez : (q - 1 == 0) = true := by simp [hz]
            have HZ := Lib.hid hz
            clear hz
            go_wp2_with (first | (go_at_call 59; (with_reducible refine (ropens_any _ _).mono ?_); rintro e w' ⟨rfl, rfl⟩; simp only [HO.out]) | (with_reducible show wpList _ _ _ _ _ _; refine wpList_load_node rfl _ rfl _ _ rfl _ (by repeat (first | apply NodeAt.row | (apply Blk.new'; first | rfl | (simp; done)) | (apply Blk.node; apply Blk.new'; first | rfl | (simp; done)) | assumption | apply NodeAt.alloc)) ?_))
            try rw [Exit.noGoto_ret]
            go_ret
            refine ⟨ret_int ?_, andAlloc HI.out.low _⟩
            have h1 := HE.out
            rw [HC.out] at h1
            have h2 := HZ.out
            rcases h1 with ⟨_, h1⟩ | ⟨h1, _⟩
            · omega
            · exact absurd h2 h1
          · have ez : (q - 1 == 0) = false := by simp [hz]
            have HZ := Lib.hid hz
            clear hz
            go_wp2_with (first | (go_at_call 59; (with_reducible refine (ropens_any _ _).mono ?_); rintro e w' ⟨rfl, rfl⟩; simp only [HO.out]) | (with_reducible show wpList _ _ _ _ _ _; refine wpList_load_node rfl _ rfl _ _ rfl _ (by repeat (first | apply NodeAt.row | (apply Blk.new'; first | rfl | (simp; done)) | (apply Blk.node; apply Blk.new'; first | rfl | (simp; done)) | assumption | apply NodeAt.alloc)) ?_))
            have h1 := HE.out
            rw [HC.out] at h1
            rcases h1 with ⟨h1, _⟩ | ⟨_, h1, h2⟩
            · exact absurd h1 HZ.out
            go_roundw
            case rel => exact ⟨i + 1, q - 1, end_num, rfl, by omega, by have := HZ.out; omega, fun h => absurd h HZ.out, h2, andAlloc HI.out.low _⟩
            case measure => simp [intOf]; omega
        · have e6 : (x.kind == 6) = false := by simp [k6]
          have hcn : cnt x q = q := by simp [cnt, hO, k6]
          have HO := Lib.hid hO
          clear hO k6 hq0
          have HC := Lib.hid hcn
          clear hcn
          go_wp2_with (first | (go_at_call 59; (with_reducible refine (ropens_any _ _).mono ?_); rintro e w' ⟨rfl, rfl⟩; simp only [HO.out]) | (with_reducible show wpList _ _ _ _ _ _; refine wpList_load_node rfl _ rfl _ _ rfl _ (by repeat (first | apply NodeAt.row | (apply Blk.new'; first | rfl | (simp; done)) | (apply Blk.node; apply Blk.new'; first | rfl | (simp; done)) | assumption | apply NodeAt.alloc)) ?_))
          have h1 := HE.out
          rw [HC.out] at h1
          rcases h1 with ⟨h1, _⟩ | ⟨_, h1, h2⟩
          · omega
          go_roundw
          case rel => exact ⟨i + 1, q, end_num, rfl, by omega, by omega, fun h => by omega, h2, andAlloc HI.out.low _⟩
          case measure => simp [intOf]; omega
      · have k6 : ¬ x.kind = 6 := by
          intro h
          simp [opensB, h] at hO
        have e6 : (x.kind == 6) = false := by simp [k6]
        have hcn : cnt x q = q + 1 := by simp [cnt, hO]
        have HO := Lib.hid hO
        clear hO k6 hq0
        have HC := Lib.hid hcn
        clear hcn
        go_wp2_with (first | (go_at_call 59; (with_reducible refine (ropens_any _ _).mono ?_); rintro e w' ⟨rfl, rfl⟩; simp only [HO.out]) | (with_reducible show wpList _ _ _ _ _ _; refine wpList_load_node rfl _ rfl _ _ rfl _ (by repeat (first | apply NodeAt.row | (apply Blk.new'; first | rfl | (simp; done)) | (apply Blk.node; apply Blk.new'; first | rfl | (simp; done)) | assumption | apply NodeAt.alloc)) ?_))
        have h1 := HE.out
        rw [HC.out] at h1
        rcases h1 with ⟨h1, _⟩ | ⟨_, h1, h2⟩
        · omega
        go_roundw
        case rel => exact ⟨i + 1, q + 1, end_num, rfl, by omega, by omega, fun h => by omega, h2, andAlloc HI.out.low _⟩
        case measure => simp [intOf]; omega
set_option maxHeartbeats 1000000 in
set_option maxRecDepth 100000 in
theorem rstarts_any (A : Option Addr) (ns : List Nd) (c : Nat) (xs : List Nat) (w : World) (hl : ns.length ≤ 2000) (hseg : Seg w w.heap.size A (ns.flatMap ncs)) (hx : Its xs ns 0) (h6 : ∀ x ∈ xs, ∀ n, ns[x]? = some n → ¬ n.kind = 6) :
    Calls Tryz.prog 34 #[.slice A ns.length c] w (Made w xs) := by
  have HX := Lib.hid hx
  have HEN := Lib.hid fun (a m : Nat) w1 (h : Below w.heap.size w w1) hm hk => rends_any A ns c a m w1 (by omega) (Seg.belowW hseg h) hm hk
  have H6 := Lib.hid h6
  clear hseg hx h6
  have HL := Lib.hid (rfl : ns.length = ns.length)
  generalize hlen : ns.length = len at hl HEN HL ⊢
  clear HL
  have HL := Lib.hid hlen
  clear hlen
  go_enter Tryz.func34, Tryz.ntmps34
  go_wp2_with fail
  go_loopw [3, 4] (fun v i wr => ∃ (a : Nat) (ys zs : List Nat), i = .int .i64 a ∧ InvI ns w xs a v ys zs wr) (fun _ i _ => len - (intOf i).toNat)
  case atStart => exact ⟨0, [], xs, rfl, rfl, by simpa using HX.out, Nat.zero_le _, World.ownsRow_nil _ _ _ _, Below.refl _ _⟩
  case round =>
    obtain ⟨a, ys, zs, rfl, hI⟩ := hrel
    have hle := hI.le
    rw [HL.out] at hle
    have hyl : ys.length ≤ 2000 := by
      have h1 := Its.len HX.out
      have h2 := congrArg List.length hI.all
      rw [HL.out] at h1
      simp only [List.length_append] at h2
      omega
    have HI := Lib.hid hI
    clear hI
    by_cases hlt : a < len
    · have hz : ∃ m zs', zs = a :: zs' ∧ endc (ns.drop a) 0 = some m ∧ Its zs' ((ns.drop a).drop m) (a + m) := by
        have hr := HI.out.rest
        cases zs with
        | nil =>
          have hr : ns.drop a = [] := hr
          rw [List.drop_eq_nil_iff, HL.out] at hr
          omega
        | cons z zs' =>
          obtain ⟨rfl, m, h1, h2⟩ := hr
          exact ⟨m, zs', rfl, h1, h2⟩
      obtain ⟨m, zs', rfl, hm, hr⟩ := hz
      have hmb := endc_bd hm
      rw [List.length_drop, HL.out] at hmb
      have hma : a + m ≤ len := by omega
      have HM := Lib.hid hm
      have HR := Lib.hid hr
      have HB := Lib.hid hmb
      clear hm hr hmb
      go_wp2_with (at_builtin; refine wpList_push rfl _ _ 47 rfl w.heap.size 3 _ 1 8 Tryz.underlying47 info_int rfl (by decide) (by decide) _ _ _ rfl HI.out.own HI.out.low.size _ rfl rfl rfl (by simp) (by omega) ?_; intro v6 w6 hown6 hg6 hnn6)
      have hlow6 : Below w.heap.size w w6 := below_grown (Nat.le_refl _) (andAlloc HI.out.low _) hg6 (fun k hk => (HI.out.own.lt k hk).1)
      have HO6 := Lib.hid hown6
      clear hown6 hg6 hnn6
      refine (HEN.out a m w6 hlow6 HM.out (H6.out a (by rw [← HI.out.all]; simp))).mono ?_
      rintro e w7 ⟨rfl, hb7⟩
      go_wp2_with fail
      have hB := HB.out
      go_roundw
      case rel => exact ⟨a + m, ys ++ [a], zs', rfl, by simpa using HI.out.all, by simpa [List.drop_drop] using HR.out, by rw [HL.out]; exact hma, own_below (by simpa [nat64] using HO6.out) hb7, andThen hlow6 hb7⟩
      case measure => simp [intOf]; omega
    · obtain rfl : a = len := by omega
      have hz : zs = [] := by
        have hr := HI.out.rest
        rw [List.drop_of_length_le (by rw [HL.out]; exact Nat.le_refl _)] at hr
        cases zs with
        | nil => rfl
        | cons z zs' =>
          obtain ⟨_, m, h1, _⟩ := hr
          simp [endc] at h1
      subst hz
      go_wp2_with fail
      go_ret
      have h1 := HI.out.all
      rw [List.append_nil] at h1
      subst h1
      exact ⟨_, rfl, HI.out.own, HI.out.low⟩
end Go.Proofs.YtoboecenlangmaaGreatDoor.No
end
section
namespace Go.Proofs.YtoboecenlangmaaGreatDoor.Pk
open Go.ChangeShapes Go.WideShapes Go.ChangeAt Go.RowKit
open Me Np No
set_option linter.unusedVariables false
set_option linter.unusedSimpArgs false

/-- What the loop of the document's Parted holds. -/
structure InvR (ns : List Nd) (w : World) (R : List Nd × List Nd) (xs : List Nat) (i : Nat) (v u : Value) (wr : World) : Prop where
  rest : ∃ a s, Stand ns a (xs.drop i) ∧ partF ns (xs.drop i) s = R ∧ s.1.length ≤ a ∧ s.2.length ≤ a ∧ Own2 wr w.heap.size v u s.1 s.2
  low : Below w.heap.size w wr
theorem Stand.more {ns : List Nd} {a y : Nat} {ys zs : List Nat} (h : Stand ns a ys) (he : ys = y :: zs) : a < ns.length := by
  have hi := h.its
  rw [he] at hi
  obtain ⟨_, m, hm, _⟩ := hi
  have := endc_bd hm
  rw [List.length_drop] at this
  omega
theorem get_dropN {l : List Nat} {k : Nat} (h : k < l.length) : ∃ x, l[k]? = some x ∧ l.drop k = x :: l.drop (k + 1) := ⟨l[k], List.getElem?_eq_getElem h, List.drop_eq_getElem_cons h⟩
theorem block_cell {w w' : World} {p : Addr} {v : Value} (hb : Below w.heap.size w w') (h : w.cell? p = some v) : w'.cell? p = some v := (hb.cell (block_lt_of_cell h)).trans h
set_option maxHeartbeats 4000000 in
set_option maxRecDepth 100000 in
theorem rparted_any (A : Option Addr) (ns : List Nd) (c : Nat) (w : World) (hc : chk ns = 0) (hcap : ns.length ≤ c) (hseg : Seg w w.heap.size A (ns.flatMap ncs)) :
    Calls Tryz.prog 12 #[.slice A ns.length c] w fun e w' => ∃ v u, e = .returned (.tuple #[v, u]) ∧ Own2 w' w.heap.size v u (partD ns).1 (partD ns).2 ∧ Below w.heap.size w w' := by
  have hl := (chk_run hc).1
  have HEN := Lib.hid (fun (a m : Nat) w1 (h : Below w.heap.size w w1) hm hk => rends_any A ns c a m w1 (by omega) (Seg.belowW hseg h) hm hk)
  have HSR := Lib.hid (rstarts_any A ns c (itsD ns) w hl hseg (itsD_is hc) (fun x hx n hn => by obtain ⟨n', h1, h2, _⟩ := its_beg hc (itsD_is hc) x hx; rw [hn] at h1; injection h1 with h1; rw [h1]; exact h2))
  have HSG := Lib.hid hseg
  have HST := Lib.hid (stand0 hc (itsD_is hc))
  have HCK := Lib.hid hc
  have HR := Lib.hid (show partF ns (itsD ns) ([], []) = partD ns from rfl)
  generalize partD ns = R at HR ⊢
  generalize itsD ns = xs at HR HST HSR
  clear hc hseg
  have hl0 := Lib.hid hl
  generalize hlen : ns.length = len at *
  have HL := Lib.hid hlen
  clear hlen
  go_enter Tryz.func12, Tryz.ntmps12
  go_wp2_with fail
  refine HSR.out.mono ?_
  rintro e w0 ⟨vx, rfl, hox, hb0⟩
  obtain ⟨Ax, cx, hvx⟩ := made_len hox
  have HOX := Lib.hid hox
  have HB0 := Lib.hid hb0
  rw [hvx]
  have HVX := Lib.hid hvx
  clear hox hb0 hvx HSR
  have HXL := Lib.hid (rfl : xs.length = xs.length)
  have hxl : xs.length ≤ 2000 := by have := HST.out.its.len; simp at this; have := HL.out; omega
  go_wp2_with fail
  go_loopw [4, 5, 7] (fun v2 v3 v4 wr => ∃ i : Nat, i ≤ xs.length ∧ v4 = .int .i64 (i : Int) ∧ InvR ns w0 R xs i v2 v3 wr) (fun _ _ v4 _ => xs.length - (intOf v4).toNat)
  case atStart => exact ⟨0, by omega, rfl, ⟨0, ([], []), HST.out, HR.out, by simp, by simp, World.ownsRow_nil _ _ _ _, World.ownsRow_nil _ _ _ _, .inl rfl, .inl rfl⟩, Below.refl _ _⟩
  case round =>
    obtain ⟨i, hix, rfl, hI⟩ := hrel
    obtain ⟨a, s, hst, hR, h1, h2, hO⟩ := hI.rest
    have HLOW0 := Lib.hid hI.low
    have HLOW := Lib.hid (andThen HB0.out hI.low)
    have hal := hst.le
    rw [HL.out] at hal
    by_cases hlt : i < xs.length
    · obtain ⟨y, hy, hdy⟩ := get_dropN hlt
      have hlt2 : a < len := by have := Stand.more hst hdy; rw [HL.out] at this; exact this
      obtain ⟨m, zs, x, hyz, hm, hm1, ham, hst', _, hx, h6, h11⟩ := hst.step (by rw [HL.out]; exact hl) (by rw [HL.out]; exact hlt2)
      rw [hdy] at hyz
      injection hyz with e1 e2
      subst e1
      rw [← e2] at hst'
      rw [hdy] at hR
      rw [HL.out] at ham
      obtain ⟨b, off, rfl, hb, hnode⟩ := seg_node HSG.out hx
      have hn1 : wr.cell? ⟨b, off + y * 19, none⟩ = some (.int .i64 x.kind) := (hnode.below HLOW.out hb) 0 _ rfl
      obtain ⟨gx, rfl, hcx⟩ : ∃ gx, Ax = some ⟨gx, 0, none⟩ ∧ wr.cell? ⟨gx, i, none⟩ = some (.int .i64 (y : Int)) := by
        have ho := own_below HOX.out HLOW0.out
        rw [HVX.out] at ho
        rcases ho.2 with ⟨_, h0⟩ | ⟨g, cap, cur, h', _, _, _⟩
        · omega
        · injection h' with h' _ _
          subst h'
          refine ⟨g, rfl, (ho.cellAt i (by omega)).trans ?_⟩
          rw [List.getElem?_map, hy]
          rfl
      have HS := Lib.hid (And.intro hst' (And.intro hR hO))
      have HX := Lib.hid (And.intro hx hm)
      have HB := Lib.hid (show ∀ n, ns[y]? = some n → ¬ n.kind = 6 from fun n hn => by rw [hx] at hn; injection hn with hn; rw [← hn]; exact h6)
      have HH := Lib.hid (And.intro h1 h2)
      clear hst' hR hO hx hm hnode hI hst h1 h2 hdy hy
      have hifs : (if c = y then some (⟨b, off, none⟩ : Addr) else some ⟨b, off + y * 19, none⟩) = some ⟨b, off + y * 19, none⟩ := if_neg (by omega)
      have HIF := Lib.hid hifs
      have HTL := Lib.hid (show ((ns.drop y).take m).length = m from take_len (by rw [HL.out]; exact ham))
      have HAD := Lib.hid (fun w1 (h : Below w.heap.size w w1) => show ∀ j u, (((ns.drop y).take m).flatMap ncs)[j]? = some u → w1.cell? ⟨b, off + y * 19 + j, none⟩ = some u by
        rw [flat_take ncs_length, flat_drop ncs_length]
        intro j u hu
        have := seg_cells (Seg.take (Seg.drop (HSG.out.below h) (y * 19)) (m * 19)) j u hu
        have hadd : (⟨b, off + y * 19, none⟩ : Addr).add j = ⟨b, off + y * 19 + j, none⟩ := by unfold Addr.add; split <;> simp_all
        rwa [hadd] at this)
      clear hifs
      have hal1 : (y : Int) + m ≤ len := by omega
      have hal2 : (y : Int) + m ≤ c := by omega
      have hal3 : (y : Int) ≤ y + m := by omega
      have HTI : (inn ns y m).length ≤ m := by unfold inn; rw [List.length_take]; omega
      by_cases k13 : x.kind = 13
      · have e13 : (x.kind == 13) = true := by simp [k13]
        have HP := Lib.hid (pstep_out (s := s) HX.out.1 HX.out.2 (.inl k13))
        clear k13 h6 h11
        go_wp2_with (first | (go_at_call 35; refine (HEN.out y m _ HLOW.out HX.out.2 HB.out).mono ?_; rintro e w1 ⟨rfl, hb1⟩; have hn2 : w1.cell? ⟨b, off + y * 19, none⟩ = some (.int .i64 x.kind) := (block_cell hb1 hn1); have hcx2 : w1.cell? ⟨gx, i, none⟩ = some (.int .i64 (y : Int)) := (block_cell hb1 hcx); have HB1 := Lib.hid hb1; have HO1 := Lib.hid (HS.out.2.2.below hb1); have HL1 := Lib.hid (andThen HLOW.out hb1); have HL0 := Lib.hid (andThen HLOW0.out hb1); clear hb1) | (at_builtin; go_loud (refine wpList_append_at rfl (.tmp 43) (.tmp 50) rfl w0.heap.size HL0.out.size _ _ _ rfl HO1.out.two b (off + y * 19) (c - y) (y + m - y) ((ns.drop y).take m) rfl (by rw [HTL.out]; omega) (.inr (Nat.lt_of_lt_of_le hb HL1.out.size)) (HAD.out _ HL1.out) (by rw [HTL.out]; have := HH.out.2; omega) ?_; intro v3 W3 hown3 hg3 hv3; have HG3 := Lib.hid (HO1.out.swap.grow hown3 hg3 hv3); have hlow3 := below_grown (Nat.le_refl _) HL0.out hg3 (fun q hq => (HO1.out.two.lt q hq).1); have HLW3 := Lib.hid hlow3; clear hown3 hg3 hv3 hlow3)))
        go_roundw
        case rel =>
          refine ⟨i + 1, by omega, by go_num, ⟨y + m, _, HS.out.1, HS.out.2.1, ?_, ?_, ?_⟩, HLW3.out⟩
          · rw [HP.out]; have := HH.out; have := HTL.out; simp only [List.length_append]; omega
          · rw [HP.out]; have := HH.out; have := HTL.out; have := HTI; simp only [List.length_append]; omega
          · rw [HP.out]; exact HG3.out.swap
        case measure => simp [intOf]; omega
      · have e13 : (x.kind == 13) = false := by simp [k13]
        by_cases k12 : x.kind = 12
        · have e12 : (x.kind == 12) = true := by simp [k12]
          have HP := Lib.hid (pstep_out (s := s) HX.out.1 HX.out.2 (.inr k12))
          clear k13 k12 h6 h11
          go_wp2_with (first | (go_at_call 35; refine (HEN.out y m _ HLOW.out HX.out.2 HB.out).mono ?_; rintro e w1 ⟨rfl, hb1⟩; have hn2 : w1.cell? ⟨b, off + y * 19, none⟩ = some (.int .i64 x.kind) := (block_cell hb1 hn1); have hcx2 : w1.cell? ⟨gx, i, none⟩ = some (.int .i64 (y : Int)) := (block_cell hb1 hcx); have HB1 := Lib.hid hb1; have HO1 := Lib.hid (HS.out.2.2.below hb1); have HL1 := Lib.hid (andThen HLOW.out hb1); have HL0 := Lib.hid (andThen HLOW0.out hb1); clear hb1) | (at_builtin; go_loud (refine wpList_append_at rfl (.tmp 43) (.tmp 50) rfl w0.heap.size HL0.out.size _ _ _ rfl HO1.out.two b (off + y * 19) (c - y) (y + m - y) ((ns.drop y).take m) rfl (by rw [HTL.out]; omega) (.inr (Nat.lt_of_lt_of_le hb HL1.out.size)) (HAD.out _ HL1.out) (by rw [HTL.out]; have := HH.out.2; omega) ?_; intro v3 W3 hown3 hg3 hv3; have HG3 := Lib.hid (HO1.out.swap.grow hown3 hg3 hv3); have hlow3 := below_grown (Nat.le_refl _) HL0.out hg3 (fun q hq => (HO1.out.two.lt q hq).1); have HLW3 := Lib.hid hlow3; clear hown3 hg3 hv3 hlow3)))
          go_roundw
          case rel =>
            refine ⟨i + 1, by omega, by go_num, ⟨y + m, _, HS.out.1, HS.out.2.1, ?_, ?_, ?_⟩, HLW3.out⟩
            · rw [HP.out]; have := HH.out; have := HTL.out; simp only [List.length_append]; omega
            · rw [HP.out]; have := HH.out; have := HTL.out; have := HTI; simp only [List.length_append]; omega
            · rw [HP.out]; exact HG3.out.swap
          case measure => simp [intOf]; omega
        · have e12 : (x.kind == 12) = false := by simp [k12]
          by_cases k17 : x.kind = 17
          · have e17 : (x.kind == 17) = true := by simp [k17]
            have HP := Lib.hid (pstep_in (s := s) HX.out.1 HX.out.2 k17)
            have hm2 : 2 ≤ m := endc_two HX.out.1 (by simp [opensB, k17]) HX.out.2
            have HTN := Lib.hid (inn_len (ns := ns) (by rw [HL.out]; exact ham) hm2)
            have HAI := Lib.hid (fun w1 (h : Below w.heap.size w w1) => show ∀ j u, ((inn ns y m).flatMap ncs)[j]? = some u → w1.cell? ⟨b, off + (y + 1) * 19 + j, none⟩ = some u by
              unfold inn
              rw [flat_take ncs_length, flat_drop ncs_length]
              intro j u hu
              have := seg_cells (Seg.take (Seg.drop (HSG.out.below h) ((y + 1) * 19)) ((m - 2) * 19)) j u hu
              have hadd : (⟨b, off + (y + 1) * 19, none⟩ : Addr).add j = ⟨b, off + (y + 1) * 19 + j, none⟩ := by unfold Addr.add; split <;> simp_all
              rwa [hadd] at this)
            clear k13 k12 k17 h6 h11
            go_wp2_with (first | (go_at_call 35; refine (HEN.out y m _ HLOW.out HX.out.2 HB.out).mono ?_; rintro e w1 ⟨rfl, hb1⟩; have hn2 : w1.cell? ⟨b, off + y * 19, none⟩ = some (.int .i64 x.kind) := (block_cell hb1 hn1); have hcx2 : w1.cell? ⟨gx, i, none⟩ = some (.int .i64 (y : Int)) := (block_cell hb1 hcx); have HB1 := Lib.hid hb1; have HO1 := Lib.hid (HS.out.2.2.below hb1); have HL1 := Lib.hid (andThen HLOW.out hb1); have HL0 := Lib.hid (andThen HLOW0.out hb1); clear hb1) | (at_builtin; go_loud (refine wpList_append_at rfl (.tmp 54) (.tmp 63) rfl w0.heap.size HL0.out.size _ _ _ rfl HO1.out.two b (off + (y + 1) * 19) (c - (y + 1)) (y + m - 1 - (y + 1)) (inn ns y m) rfl (by rw [HTN.out]; omega) (.inr (Nat.lt_of_lt_of_le hb HL1.out.size)) (HAI.out _ HL1.out) (by rw [HTN.out]; have := HH.out.2; omega) ?_; intro v3 W3 hown3 hg3 hv3; have HG3 := Lib.hid (HO1.out.swap.grow hown3 hg3 hv3); have hlow3 := below_grown (Nat.le_refl _) HL0.out hg3 (fun q hq => (HO1.out.two.lt q hq).1); have HLW3 := Lib.hid hlow3; clear hown3 hg3 hv3 hlow3)))
            go_roundw
            case rel =>
              refine ⟨i + 1, by omega, by go_num, ⟨y + m, _, HS.out.1, HS.out.2.1, ?_, ?_, ?_⟩, HLW3.out⟩
              · rw [HP.out]; have := HH.out; simp only; omega
              · rw [HP.out]; have := HH.out; have := HTI; simp only [List.length_append]; omega
              · rw [HP.out]; exact HG3.out.swap
            case measure => simp [intOf]; omega
          · have e17 : (x.kind == 17) = false := by simp [k17]
            have HP := Lib.hid (pstep_stay (s := s) HX.out.1 HX.out.2 k13 k12 k17)
            clear k13 k12 k17 h6 h11
            go_wp2_with (first | (go_at_call 35; refine (HEN.out y m _ HLOW.out HX.out.2 HB.out).mono ?_; rintro e w1 ⟨rfl, hb1⟩; have hn2 : w1.cell? ⟨b, off + y * 19, none⟩ = some (.int .i64 x.kind) := (block_cell hb1 hn1); have hcx2 : w1.cell? ⟨gx, i, none⟩ = some (.int .i64 (y : Int)) := (block_cell hb1 hcx); have HB1 := Lib.hid hb1; have HO1 := Lib.hid (HS.out.2.2.below hb1); have HL1 := Lib.hid (andThen HLOW.out hb1); have HL0 := Lib.hid (andThen HLOW0.out hb1); clear hb1) | (at_builtin; go_loud (refine wpList_append_at rfl (.tmp 31) (.tmp 38) rfl w0.heap.size HL0.out.size _ _ _ rfl HO1.out.one b (off + y * 19) (c - y) (y + m - y) ((ns.drop y).take m) rfl (by rw [HTL.out]; omega) (.inr (Nat.lt_of_lt_of_le hb HL1.out.size)) (HAD.out _ HL1.out) (by rw [HTL.out]; have := HH.out.1; omega) ?_; intro v3 W3 hown3 hg3 hv3; have HG3 := Lib.hid (HO1.out.grow hown3 hg3 hv3); have hlow3 := below_grown (Nat.le_refl _) HL0.out hg3 (fun q hq => (HO1.out.one.lt q hq).1); have HLW3 := Lib.hid hlow3; clear hown3 hg3 hv3 hlow3)))
            go_roundw
            case rel =>
              refine ⟨i + 1, by omega, by go_num, ⟨y + m, _, HS.out.1, HS.out.2.1, ?_, ?_, ?_⟩, HLW3.out⟩
              · rw [HP.out]; have := HH.out; have := HTL.out; simp only [List.length_append]; omega
              · rw [HP.out]; have := HH.out; have := HTL.out; have := HTI; simp only [List.length_append]; omega
              · rw [HP.out]; exact HG3.out
            case measure => simp [intOf]; omega
    · obtain rfl : i = xs.length := by omega
      rw [List.drop_length] at hst hR
      have HS := Lib.hid (And.intro hR hO)
      clear hI hst hR hO h1 h2
      go_wp2_with fail
      go_ret2
      exact ⟨_, _, rfl, HS.out.1 ▸ ⟨own_base HS.out.2.one HB0.out.size, own_base HS.out.2.two HB0.out.size, HS.out.2.dist, HS.out.2.dist'⟩, HLOW.out⟩
end Go.Proofs.YtoboecenlangmaaGreatDoor.Pk
end
section
namespace Go.Proofs.YtoboecenlangmaaGreatDoor.No
open Go.ChangeShapes Go.WideShapes Go.ChangeAt Go.RowKit
open Me Np
set_option linter.unusedVariables false
set_option linter.unusedSimpArgs false

@[irreducible] def neN (x y : Value) : Sem Value := binOp .neq 40 x y
theorem neN_eq (x y : Value) : binOp .neq 40 x y = neN x y := by unfold neN; rfl
theorem run_neN (a b : Nd) (w : World) : (neN (.agg (nc a)) (.agg (nc b))).run Tryz.prog w = .ok (.bool (!eqB a b)) w := by
  rw [← neN_eq, run_neq_struct]
  have h := eqB_eq a b w
  rw [run_eql_struct] at h
  generalize (Op.equalIn 10000 40 (.agg (nc a)) (.agg (nc b))).run Tryz.prog w = r at h ⊢
  cases r with
  | ok b' w' =>
    simp only [Result.andThen, Result.ok.injEq, Value.bool.injEq] at h ⊢
    obtain ⟨h1, h2⟩ := h
    rw [h1, h2]
    exact ⟨rfl, rfl⟩
  | halt x w' => simp [Result.andThen] at h
def sameB (l m : List Nd) : Bool := decide (l.length = m.length) && (l.zip m).all fun p => eqB p.1 p.2
theorem sameB_iff : ∀ {l m : List Nd}, sameB l m = true ↔ l = m
  | [], [] => by simp [sameB]
  | [], _ :: _ => by simp [sameB]
  | _ :: _, [] => by simp [sameB]
  | x :: l, y :: m => by
    have ih := sameB_iff (l := l) (m := m)
    simp only [sameB, Bool.and_eq_true, decide_eq_true_eq] at ih
    simp only [sameB, List.length_cons, List.zip_cons_cons, List.all_cons, Bool.and_eq_true, decide_eq_true_eq, eqB_iff, List.cons.injEq]
    constructor
    · rintro ⟨h1, h2, h3⟩
      exact ⟨h2, ih.1 ⟨by omega, h3⟩⟩
    · rintro ⟨rfl, h2⟩
      obtain ⟨h3, h4⟩ := ih.2 h2
      exact ⟨by omega, rfl, h4⟩
theorem same_no {l m : List Nd} {k : Nat} {x y : Nd} (hx : l[k]? = some x) (hy : m[k]? = some y) (h : eqB x y = false) : sameB l m = false := by
  cases h1 : sameB l m
  · rfl
  · have := sameB_iff.1 h1
    subst this
    rw [hx] at hy
    injection hy with e
    subst e
    rw [eqB_self] at h
    cases h
theorem same_yes {l m : List Nd} (hl : l.length = m.length) (h : ∀ (k : Nat) (x y : Nd), l[k]? = some x → m[k]? = some y → eqB x y = true) : sameB l m = true := by
  rw [sameB_iff]
  apply List.ext_getElem?
  intro k
  cases hx : l[k]? with
  | none =>
    rw [List.getElem?_eq_none_iff] at hx
    rw [List.getElem?_eq_none (by omega)]
  | some x =>
    have hk := (List.getElem?_eq_some_iff.1 hx).1
    have hy : m[k]? = some (m[k]'(by omega)) := List.getElem?_eq_getElem (by omega)
    rw [hy, (eqB_iff _ _).1 (h k _ _ hx hy)]
attribute [local go_sem ↓] ldN_eq neN_eq
set_option maxHeartbeats 1000000 in
set_option maxRecDepth 100000 in
theorem same_any (A B : Option Addr) (l m : List Nd) (c d : Nat) (w : World) (hl : l.length ≤ 9223372036854775806) (hm : m.length ≤ 9223372036854775806) (hA : Seg w w.heap.size A (l.flatMap ncs)) (hB : Seg w w.heap.size B (m.flatMap ncs)) :
    Calls Tryz.prog 13 #[.slice A l.length c, .slice B m.length d] w fun e w' => e = .returned (.bool (sameB l m)) ∧ Below w.heap.size w w' := by
  by_cases hlen : l.length = m.length
  · have e1 : ((l.length : Int) != (m.length : Int)) = false := by simp [hlen]
    have HA := Lib.hid hA
    have HB := Lib.hid hB
    have HLEN := Lib.hid hlen
    clear hA hB
    generalize hn : l.length = n at *
    generalize hq : m.length = q at *
    have HN := Lib.hid hn
    have HQ := Lib.hid hq
    clear hn hq hlen
    obtain rfl : n = q := HLEN.out
    clear HLEN
    go_enter Tryz.func13, Tryz.ntmps13
    go_wp2_with fail
    go_loopw [5] (fun i wr => ∃ (k r : Nat), k ≤ n ∧ i = .int .i64 k ∧ wr = w.drewN r ∧ ∀ (j : Nat) (x y : Nd), j < k → l[j]? = some x → m[j]? = some y → eqB x y = true) (fun i _ => n - (intOf i).toNat)
    case atStart => exact ⟨0, 0, by omega, rfl, rfl, fun j x y hj => by omega⟩
    case round =>
      obtain ⟨k, r, hk, rfl, rfl, hall⟩ := hrel
      have HALL := Lib.hid hall
      clear hall
      by_cases hlt : k < n
      · obtain ⟨x, hx⟩ : ∃ x, l[k]? = some x := ⟨_, List.getElem?_eq_getElem (by rw [HN.out]; exact hlt)⟩
        obtain ⟨y, hy⟩ : ∃ y, m[k]? = some y := ⟨_, List.getElem?_eq_getElem (by rw [HQ.out]; exact hlt)⟩
        obtain ⟨b, off, rfl, hb, hnx⟩ := seg_node HA.out hx
        obtain ⟨b', off', rfl, hb', hny⟩ := seg_node HB.out hy
        have HX := Lib.hid hx
        have HY := Lib.hid hy
        have HNX := Lib.hid hnx
        have HNY := Lib.hid hny
        have hq := run_neN x y
        clear hx hy hnx hny
        cases he : eqB x y
        · rw [he] at hq
          have HE := Lib.hid he
          clear he
          go_wp2_with fail
          go_region_held3 (fun w' => (ldN ⟨b, off + k * 19, none⟩).run Tryz.prog w' = .ok (.agg (nc x)) w' ∧ (ldN ⟨b', off' + k * 19, none⟩).run Tryz.prog w' = .ok (.agg (nc y)) w') (exact ⟨run_ldN (NodeAt.drewN (NodeAt.drewN HNX.out r) 1), run_ldN (NodeAt.drewN (NodeAt.drewN HNY.out r) 1)⟩) (fail)
          go_wp2_with fail
          go_ret
          exact ⟨ret_bool (same_no HX.out HY.out HE.out).symm, below_drewN (below_drewN (Below.refl _ _) r) 1⟩
        · rw [he] at hq
          have HE := Lib.hid he
          clear he
          go_wp2_with fail
          go_region_held3 (fun w' => (ldN ⟨b, off + k * 19, none⟩).run Tryz.prog w' = .ok (.agg (nc x)) w' ∧ (ldN ⟨b', off' + k * 19, none⟩).run Tryz.prog w' = .ok (.agg (nc y)) w') (exact ⟨run_ldN (NodeAt.drewN (NodeAt.drewN HNX.out r) 1), run_ldN (NodeAt.drewN (NodeAt.drewN HNY.out r) 1)⟩) (fail)
          go_wp2_with fail
          go_roundw
          case rel =>
            refine ⟨k + 1, r + 1, by omega, by go_num, rfl, fun j x' y' hj hx' hy' => ?_⟩
            rcases Nat.lt_or_ge j k with h1 | h1
            · exact HALL.out j x' y' h1 hx' hy'
            · obtain rfl : j = k := by omega
              rw [HX.out] at hx'
              rw [HY.out] at hy'
              injection hx' with h2
              injection hy' with h3
              subst h2 h3
              exact HE.out
          case measure => simp [intOf]; omega
      · obtain rfl : k = n := by omega
        go_wp2_with fail
        go_ret
        refine ⟨ret_bool (same_yes (by rw [HN.out, HQ.out]) fun j x y hx hy => HALL.out j x y ?_ hx hy).symm, below_drewN (Below.refl _ _) r⟩
        have := (List.getElem?_eq_some_iff.1 hx).1
        rw [HN.out] at this
        exact this
  · have e1 : ((l.length : Int) != (m.length : Int)) = true := by
      rw [bne_iff_ne]
      omega
    have hs : sameB l m = false := by simp [sameB, hlen]
    have HS := Lib.hid hs
    clear hs hlen
    generalize l.length = n at *
    generalize m.length = q at *
    go_enter Tryz.func13, Tryz.ntmps13
    go_wp2_with fail
    go_ret
    exact ⟨ret_bool HS.out.symm, Below.refl _ _⟩
end Go.Proofs.YtoboecenlangmaaGreatDoor.No
end
section
namespace Go.Proofs.YtoboecenlangmaaGreatDoor.Pk
open Go.ChangeShapes Go.WideShapes Go.ChangeAt Go.RowKit
open Me Np No
set_option linter.unusedVariables false
set_option linter.unusedSimpArgs false

/-- Of a box as it is there is nothing to say. -/
theorem report_none (w : World) : Calls Tryz.prog 5 #[.bool false, .int .i64 0, .int .i64 0, .int .i64 0, .int .i64 0, .int .i64 0] w fun e w' => e = .returned (.string ⟨#[]⟩) ∧ Below w.heap.size w w' := by
  go_enter Tryz.func5, Tryz.ntmps5
  go_wp2_with fail
  go_ret
  exact ⟨rfl, Below.refl _ _⟩
/-- A row that is packed as it is. -/
def NatP (ns : List Nd) (R : List Nd × List Nd × Int × Int × Int) : Prop :=
  (R.2.2.2.2 = 0 ∧ ∃ n S O x a b c d p q r s, R.1 = wrapL n S ∧ chk R.1 = 0 ∧ opensB n = true ∧ R.2.1 = O ∧ partD ns = (S, O) ∧ chk ns = 0 ∧ chk S = 0 ∧ R.2.2.1 = 0 ∧ R.2.2.2.1 = 0 ∧ n.wd = x ∧ n.sign = 0 ∧
    ∀ (A : Option Addr) (k : Nat) (w : World), S.length ≤ k → Seg w w.heap.size A (S.flatMap ncs) → Calls Tryz.prog 11 #[.slice A S.length k, .bool false] w fun e w' => e = .returned (.tuple #[.agg #[.int .i64 x, .int .i64 a, .int .i64 b, .int .i64 c, .int .i64 d, .int .i64 p, .int .i64 q, .int .i64 r, .int .i64 s], .int .i64 0]) ∧ Below w.heap.size w w') ∨ (¬ R.2.2.2.2 = 0 ∧ R.1 = [])
theorem nat_of {ns : List Nd} {R : List Nd × List Nd × Int × Int × Int} (h : HpkG ns 0 false R ∨ HpkN R) : NatP ns R := by
  rcases h with ⟨S, O, x, a, b, c, d, p, q, r, s, h, v, W, F, hS, hc, M, hW, hdW, hF, hcw, hR⟩ | ⟨h1, _, _, _, h⟩
  · have hWx : W = x := by rw [hW]; simp
    subst hWx
    have hF0 : F = (0, 0, 0, 0) := by rw [hF, Int.sub_self]; rfl
    have hs := (partD_chk hc).1
    rw [hS] at hs
    refine .inl ⟨by rw [hR], _, S, O, W, a, b, c, d, p, q, r, s, by rw [hR], by rw [hR]; exact hcw, by subst hF0; rfl, by rw [hR], hS, hc, hs, ?_, ?_, rfl, ?_, M.tot⟩
    · rw [hR]
      show (setV _ a p _ (W - W) (0, 0)).1 = 0
      rw [Int.sub_self]
      unfold setV
      rw [if_pos (.inr rfl)]
    · rw [hR]
      show (setV _ a p _ (W - W) (0, 0)).2 = 0
      rw [Int.sub_self]
      unfold setV
      rw [if_pos (.inr rfl)]
    · show F.1 = 0
      rw [hF0]
  · exact .inr ⟨h, h1⟩
set_option maxHeartbeats 4000000 in
set_option maxRecDepth 100000 in
theorem natural_walk (A : Option Addr) (l : List Nd) (c : Nat) (w : World) (hl : l.length ≤ 879609302220) (hcap : l.length ≤ c) (hseg : Seg w w.heap.size A (l.flatMap ncs)) :
    Calls Tryz.prog 4 #[.slice A l.length c] w fun e w' => e = .returned (.bool true) ∧ Below w.heap.size w w' := by
  obtain ⟨⟨La, Lo, bad, ov, E⟩, hLa, hLo, hG, HP⟩ := hpk1_case l 0 false (by omega)
  simp only at hLa hLo
  have h1 := nat_of hG
  simp only [NatP] at h1
  have H1 := Lib.hid h1
  have HP := Lib.hid HP
  have HSG := Lib.hid hseg
  have HLN := Lib.hid (And.intro hLa hLo)
  have HRP := Lib.hid (fun (h0 : chk l = 0) w1 (h : Below w.heap.size w w1) => rparted_any A l c w1 h0 hcap (Seg.belowW hseg h))
  clear h1 hG hseg hLa hLo
  generalize hlen : l.length = len at *
  have HL := Lib.hid hlen
  clear hlen
  go_enter Tryz.func4, Tryz.ntmps4
  go_wp2_with fail
  refine (HP.out A c w hcap HSG.out).mono ?_
  rintro e w1 ⟨va, vo, rfl, oao, hb1⟩
  obtain ⟨Aa, xa, e0, hxa⟩ := val_own oao.one
  obtain ⟨Ao, xo, e1, hxo⟩ := val_own oao.two
  simp only at e0 e1
  subst e0 e1
  have OA := Lib.hid (And.intro oao.one oao.two)
  have HB1 := Lib.hid hb1
  clear oao hb1 HP
  simp only at hxa hxo ⊢
  rcases H1.out with ⟨h0, n, S, O, x, a, b, cc, d, p, q, r, s, hn, hcb, ho, hO, hS, hc, hcS, hbad, hov, hwd, hsg, htt⟩ | ⟨h0, hn⟩
  · have t0 : (E != 0) = false := by simp [h0]
    subst hbad hov hO
    have hgb : La[0]? = some n := by rw [hn]; rfl
    have hbeg : begB La 0 = true := beg_of (a := 0) hgb (opens_beg ho).1 (opens_beg ho).2
    have hend : endc (La.drop 0) 0 = some (S.length + 2) := by rw [List.drop_zero, hn]; exact endc_wrap ho hcS
    have hI := inside_ok Aa La xa 0 (S.length + 2) n w1 hxa (seg_own OA.out.1) hcb hbeg hgb ho hend
    have hin : innerL La 0 (S.length + 2) = S := by rw [hn]; exact inner_wrap n S
    rw [hin] at hI
    have HI := Lib.hid hI
    have HTT := Lib.hid htt
    have HRP := Lib.hid (HRP.out hc)
    have HS := Lib.hid hS
    obtain ⟨ba, oa, rfl, hce⟩ := head_cells OA.out.1 (n := n) (by rw [hn]; rfl)
    rw [hwd, hsg] at hce
    have HCE := Lib.hid hce
    have HSL := Lib.hid (chk_run hcS).1
    have hl1 : ((La.length : Int) == 0) = false := by rw [hn]; simp [wrapL]; omega
    have hl2 : (0 : Int) < La.length := by rw [hn]; simp [wrapL]; omega
    clear htt hce hn hcb ho hwd hsg hgb hbeg hend hI hin h0 hc hcS hS
    generalize hsl : S.length = sl at *
    have HSQ := Lib.hid hsl
    clear hsl
    go_wp2_with (go_at_call 9; refine (num6_any _ _).mono ?_; rintro e w' ⟨rfl, rfl⟩)
    refine HI.out.mono ?_
    rintro e w2 ⟨vi, rfl, oi, hb2⟩
    rw [HSQ.out] at oi
    obtain ⟨Ai, xi, g0, hxi⟩ := val_own oi
    subst g0
    have OI := Lib.hid oi
    have HB2 := Lib.hid hb2
    clear oi hb2 HI
    go_wp2_with fail
    refine (HTT.out Ai xi w2 hxi (by have := OI.out; exact seg_own this)).mono ?_
    rintro e w3 ⟨rfl, hb3⟩
    have HB23 := Lib.hid hb3
    have HB3 := Lib.hid (andThen HB2.out hb3)
    clear hb3 HTT
    go_upto_region 6 with fail
    have hT := Blk.new w3 34 #[.int .i64 x, .int .i64 a, .int .i64 b, .int .i64 cc, .int .i64 d, .int .i64 p, .int .i64 q, .int .i64 r, .int .i64 s]
    have hB := andAlloc HB3.out (.cells #[.int .i64 x, .int .i64 a, .int .i64 b, .int .i64 cc, .int .i64 d, .int .i64 p, .int .i64 q, .int .i64 r, .int .i64 s] 34)
    have hB2 := andAlloc HB23.out (.cells #[.int .i64 x, .int .i64 a, .int .i64 b, .int .i64 cc, .int .i64 d, .int .i64 p, .int .i64 q, .int .i64 r, .int .i64 s] 34)
    generalize w3.alloc (.cells #[.int .i64 x, .int .i64 a, .int .i64 b, .int .i64 cc, .int .i64 d, .int .i64 p, .int .i64 q, .int .i64 r, .int .i64 s] 34) = w5 at hT hB hB2 ⊢
    generalize w3.heap.size = gT at hT ⊢
    have HT := Lib.hid hT
    have HB5 := Lib.hid hB
    have HB25 := Lib.hid hB2
    clear hT hB hB2
    have T5 : w5.cell? ⟨gT, 0, none⟩ = some (.int .i64 x) := Blk.cell HT.out 0
    go_cut [70] (fun v70 wx => v70 = .bool false ∧ Below w5.heap.size w5 wx)
    case first =>
      obtain ⟨u3, u4, u5, u12⟩ := HCE.out w5 HB5.out
      go_quiet ((go_at_call 9; refine Calls.quiet_of_same (num6_q _ _)))
      go_wp2_with fail
      go_meet
      exact ⟨by simp, below_drewN (Below.refl _ _) _⟩
    case rest =>
      obtain ⟨rfl, hbc⟩ := hcut
      have HB6 := Lib.hid (andThen HB5.out hbc)
      have HB26 := Lib.hid (andThen HB25.out hbc)
      clear hbc T5 HT HB5 HB25 HB3 HB23
      obtain ⟨u3, u4, u5, u12⟩ := HCE.out wc HB6.out
      go_wp2_with fail
      have hv := HRP.out wc (andThen HB1.out HB6.out)
      rw [HS.out] at hv
      refine hv.mono ?_
      clear hv
      rintro e w7 ⟨v7, u7, rfl, o7, hb7⟩
      simp only at o7
      have o7a := o7.one
      have o7b := o7.two
      obtain ⟨As, xs, g1, hxs⟩ := val_own o7a
      obtain ⟨Al, xl, g2, hxl⟩ := val_own o7b
      subst g1 g2
      rw [HSQ.out] at o7a hxs ⊢
      have O7A := Lib.hid o7a
      have O7B := Lib.hid o7b
      have HB7 := Lib.hid hb7
      clear o7 hb7 o7a o7b
      go_wp2_with fail
      have hs1 := same_any Ai As S S xi xs w7 (by rw [HSQ.out]; have := HSL.out; omega) (by rw [HSQ.out]; have := HSL.out; omega) (Seg.belowW (seg_own OI.out) (andThen HB26.out HB7.out)) (seg_own O7A.out)
      rw [show sameB S S = true from sameB_iff.2 rfl, HSQ.out] at hs1
      refine hs1.mono ?_
      rintro e w8 ⟨rfl, hb8⟩
      have HB8 := Lib.hid hb8
      have HB68 := Lib.hid (andThen HB6.out (andThen HB7.out hb8))
      have HB18 := Lib.hid (andThen HB1.out HB68.out)
      clear hs1 hb8
      go_wp2_with fail
      have hs2 := same_any Ao Al Lo Lo xo xl w8 (by have := HLN.out.2; omega) (by have := HLN.out.2; omega) (Seg.belowW (seg_own OA.out.2) HB68.out) (Seg.belowW (seg_own O7B.out) HB8.out)
      rw [show sameB Lo Lo = true from sameB_iff.2 rfl] at hs2
      refine hs2.mono ?_
      rintro e w9 ⟨rfl, hb9⟩
      have HB9 := Lib.hid (andThen HB68.out hb9)
      have HB19 := Lib.hid (andThen HB18.out hb9)
      clear hs2 hb9 u3 u4 u5 u12
      obtain ⟨u3, u4, u5, u12⟩ := HCE.out w9 HB9.out
      go_wp2_with fail
      refine (report_none _).mono ?_
      rintro e wa ⟨rfl, hba⟩
      have HBA := Lib.hid (andThen HB19.out hba)
      clear hba
      go_wp2_with fail
      refine (live_any _).mono ?_
      rintro e wb ⟨rfl, hbb⟩
      have HBB := Lib.hid (andThen HBA.out hbb)
      clear hbb
      go_wp2_with fail
      go_ret
      exact ⟨rfl, HBB.out⟩
  · have t0 : (E != 0) = true := by simp [h0]
    clear h0
    go_wp2_with (go_at_call 9; refine (num6_any _ _).mono ?_; rintro e w' ⟨rfl, rfl⟩)
    refine (live_any _).mono ?_
    rintro e w7 ⟨rfl, hb7⟩
    have HB7 := Lib.hid (andThen HB1.out hb7)
    clear hb7
    go_wp2_with fail
    go_ret
    exact ⟨rfl, HB7.out⟩
end Go.Proofs.YtoboecenlangmaaGreatDoor.Pk
end
section
namespace Go.Proofs.YtoboecenlangmaaGreatDoor.Le
open Go.ChangeShapes Go.WideShapes Go.RowKit Go.Deep

/-- The types of a type's cells. -/
def lv (P : Program) : Nat → TypeId → List TypeId
  | 0, t => [t]
  | n + 1, t => match P.underlying t with
    | some (.struct fs) => fs.toList.flatMap fun f => lv P n f.type
    | some (.array k e) => (List.replicate k (lv P n e)).flatten
    | _ => [t]

/-- The cells' types are where the type's own table says. -/
def good (P : Program) : Nat → TypeId → Bool
  | 0, t => P.cellsOf t == 1
  | n + 1, t => match P.underlying t with
    | some (.struct fs) => (P.cellsOf t == (lv P (n + 1) t).length) && fs.toList.all (fun f => good P n f.type) &&
        (List.range (lv P (n + 1) t).length).all fun i => (List.range fs.size).any fun j => match fs[j]? with
          | some f => decide (f.offset ≤ i) && decide (i < f.offset + P.cellsOf f.type) && decide (f.offset + P.cellsOf f.type ≤ P.cellsOf t) && decide ((lv P n f.type)[i - f.offset]? = (lv P (n + 1) t)[i]?)
          | none => false
    | some (.array k e) => (P.cellsOf t == (lv P (n + 1) t).length) && good P n e &&
        (List.range (lv P (n + 1) t).length).all fun i => (List.range k).any fun j => decide (j * P.cellsOf e ≤ i) && decide (i < j * P.cellsOf e + P.cellsOf e) && decide (j * P.cellsOf e + P.cellsOf e ≤ P.cellsOf t) && decide ((lv P n e)[i - j * P.cellsOf e]? = (lv P (n + 1) t)[i]?)
    | _ => P.cellsOf t == 1

section
variable {H : Type} {enc : TypeId × Value → H} {P : Program} {w : World} {base : Nat} {spare : Nat → Bool} {held : Bool}

theorem slice_get {cs : List Value} {o c i : Nat} (h0 : o ≤ i) (h1 : i < o + c) : ((cs.drop o).take c)[i - o]? = cs[i]? := by
  rw [List.getElem?_take, if_pos (by omega), List.getElem?_drop]
  congr 1
  omega

/-- Each cell reads as its leaf's type. -/
theorem leaves : ∀ (n : Nat) {t : TypeId} {fuel : Nat} {cs : List Value} {x : DataW H × List MemPlace}, good P n t = true → cs.length = P.cellsOf t → DataW.trod enc P w base spare held fuel t cs = some x →
    ∀ (i : Nat) (u : TypeId), (lv P n t)[i]? = some u → ∃ (v : Value) (m : Nat) (y : DataW H × List MemPlace), cs[i]? = some v ∧ DataW.trod enc P w base spare held m u [v] = some y
  | 0, t, fuel, cs, x, hg, hl, h, i, u, hu => by
    simp only [lv] at hu
    match i, hu with
    | 0, hu =>
      simp at hu
      subst hu
      unfold good at hg
      rw [beq_iff_eq] at hg
      rw [hg] at hl
      match cs, hl with
      | [v], _ => exact ⟨v, fuel, x, rfl, h⟩
    | i + 1, hu => simp at hu
  | n + 1, t, fuel, cs, x, hg, hl, h, i, u, hu => by
    have hilt : i < (lv P (n + 1) t).length := by
      rcases Nat.lt_or_ge i (lv P (n + 1) t).length with h1 | h1
      · exact h1
      · rw [List.getElem?_eq_none h1] at hu; cases hu
    unfold good at hg
    split at hg
    · rename_i fs hfs
      simp only [Bool.and_eq_true, List.all_eq_true] at hg
      obtain ⟨⟨_, hgf⟩, hcov⟩ := hg
      have hc := hcov i (List.mem_range.2 hilt)
      simp only [List.any_eq_true] at hc
      obtain ⟨j, hj, hc⟩ := hc
      split at hc
      · rename_i f hf
        simp only [Bool.and_eq_true, decide_eq_true_eq] at hc
        obtain ⟨⟨⟨h1, h2⟩, h4⟩, h3⟩ := hc
        obtain ⟨xs, n', _, _, hcl, hxl, hat⟩ := DataW.trod_struct hfs h
        have hjl : j < fs.size := by
          rcases Nat.lt_or_ge j fs.size with hh | hh
          · exact hh
          · rw [Array.getElem?_eq_none hh] at hf; cases hf
        have hxj : xs[j]? = some (xs[j]'(by omega)) := List.getElem?_eq_getElem (by omega)
        have ht := (hat j f hf).trans hxj
        have hmem : f ∈ fs.toList := by
          have := Array.mem_of_getElem? hf
          simpa using this
        have hlen : ((cs.drop f.offset).take (P.cellsOf f.type)).length = P.cellsOf f.type := by
          rw [List.length_take, List.length_drop]
          omega
        obtain ⟨v, m, y, hv, hy⟩ := leaves n (hgf f hmem) hlen ht (i - f.offset) u (by rw [h3]; exact hu)
        exact ⟨v, m, y, by rw [← slice_get h1 h2]; exact hv, hy⟩
      · cases hc
    · rename_i k e he
      simp only [Bool.and_eq_true, List.all_eq_true] at hg
      obtain ⟨⟨_, hge⟩, hcov⟩ := hg
      have hc := hcov i (List.mem_range.2 hilt)
      simp only [List.any_eq_true, List.mem_range, Bool.and_eq_true, decide_eq_true_eq] at hc
      obtain ⟨j, hj, ⟨⟨h1, h2⟩, h4⟩, h3⟩ := hc
      obtain ⟨xs, n', _, _, hcl, hxl, hat⟩ := DataW.trod_array he h
      have hxj : xs[j]? = some (xs[j]'(by omega)) := List.getElem?_eq_getElem (by omega)
      have ht := (hat j hj).trans hxj
      have hlen : ((cs.drop (j * P.cellsOf e)).take (P.cellsOf e)).length = P.cellsOf e := by
        rw [List.length_take, List.length_drop]
        omega
      obtain ⟨v, m, y, hv, hy⟩ := leaves n hge hlen ht (i - j * P.cellsOf e) u (by rw [h3]; exact hu)
      exact ⟨v, m, y, by rw [← slice_get h1 h2]; exact hv, hy⟩
    · rename_i hns hna
      have hlv : lv P (n + 1) t = [t] := by
        unfold lv
        split
        · rename_i fs hfs; exact absurd hfs (hns fs)
        · rename_i k e he; exact absurd he (hna k e)
        · rfl
      rw [hlv] at hu
      match i, hu with
      | 0, hu =>
        simp at hu
        subst hu
        rw [beq_iff_eq] at hg
        rw [hg] at hl
        match cs, hl with
        | [v], _ => exact ⟨v, fuel, x, rfl, h⟩
      | i + 1, hu => simp at hu
end

section
variable {H : Type} {enc : TypeId × Value → H} {P : Program} {w : World} {base : Nat} {spare : Nat → Bool} {held : Bool}

/-- What is known of a row of cells of type t. -/
def Cells (enc : TypeId × Value → H) (P : Program) (w : World) (base : Nat) (spare : Nat → Bool) (held : Bool) (ls : List TypeId) (cs : List Value) : Prop :=
  cs.length = ls.length ∧ ∀ (i : Nat) (u : TypeId), ls[i]? = some u → ∃ (v : Value) (m : Nat) (y : DataW H × List MemPlace), cs[i]? = some v ∧ DataW.trod enc P w base spare held m u [v] = some y

/-- A struct that comes by value. -/
theorem open_flat {r : Reach} {b0 : Nat} {t : TypeId} {fs : Array Field} {v : Value} {d : DataW H} {ps : List MemPlace} (n : Nat) (ls : List TypeId) (hs : P.underlying t = some (.struct fs)) (hg : good P n t = true) (hl : lv P n t = ls) (hc : P.cellsOf t = ls.length)
    (hv : Value.okWide P w r b0 t v) (h : DataW.Trod enc P w base spare held t v d ps) : ∃ cs : List Value, v = .agg cs.toArray ∧ Cells enc P w base spare held ls cs := by
  obtain ⟨cs, rfl, hsz⟩ := okWide_struct hs hv
  obtain ⟨fuel, hf⟩ := h
  refine ⟨cs.toList, by simp, by simp [hsz, hc], fun i u hu => ?_⟩
  exact leaves n hg (by simp [hsz]) (by simpa [Value.cells] using hf) i u (by rw [hl]; exact hu)

/-- A slice that comes in: where it lies, and its elements' cells. -/
theorem open_rows0 {r : Reach} {b0 : Nat} {t e : TypeId} {v : Value} {d : DataW H} {ps : List MemPlace} (n : Nat) (ls : List TypeId) (ht : P.underlying t = some (.slice e)) (hg : good P n e = true) (hl : lv P n e = ls) (hc : P.cellsOf e = ls.length)
    (hv : Value.okWide P w r b0 t v) (h : DataW.Trod enc P w base (fun _ => true) held t v d ps) (hlt : ∀ x ∈ ps, x.block < w.heap.size) :
    ∃ (A : Option Addr) (c : Nat) (rows : List (List Value)), v = .slice A rows.length c ∧ rows.length ≤ c ∧ c ≤ maxLen ∧ (∀ cs ∈ rows, Cells enc P w base (fun _ => true) held ls cs) ∧ Me.Seg w w.heap.size A rows.flatten ∧ (A = none → c = 0) ∧
      (∃ es sp : List (DataW H), (d = .slice es sp ∧ es.length = rows.length ∧ es.length + sp.length = c) ∨ (d = .nil ∧ rows = [] ∧ c = 0)) := by
  obtain ⟨fuel, hf⟩ := h
  obtain ⟨a0, len0, cap0, rfl⟩ := okWide_slice ht hv
  rw [show Value.cells (.slice a0 len0 cap0) = #[.slice a0 len0 cap0] from rfl] at hf
  rcases open_slice ht hf with ⟨h0, hx⟩ | ⟨a, len, cap, m, nn, D, Pl, hcs, _, hlc, hcm, hm, hx, hi⟩
  · simp at h0
    obtain ⟨rfl, rfl, rfl⟩ := h0
    simp only [Prod.mk.injEq] at hx
    exact ⟨none, 0, [], rfl, Nat.le_refl _, by simp [maxLen], by simp, .inl rfl, fun _ => rfl, [], [], .inr ⟨hx.1, rfl, rfl⟩⟩
  · simp at hcs
    obtain ⟨rfl, rfl, rfl⟩ := hcs
    simp only [if_true] at hm
    subst hm
    simp only [Prod.mk.injEq] at hx
    obtain ⟨hd, hps⟩ := hx
    have hrow : ∀ i, i < len0 → ∃ cs, w.cells? base (a.add (i * P.cellsOf e)) (P.cellsOf e) = some cs ∧ Cells enc P w base (fun _ => true) held ls cs := by
      intro i hil
      obtain ⟨cs, h1, h2⟩ := hi i (by omega)
      obtain ⟨_, h3, _⟩ := World.cells?_some h1
      exact ⟨cs, h1, by rw [h3, hc], fun j u hu => leaves n hg h3 h2 j u (by rw [hl]; exact hu)⟩
    let R : Nat → List Value := fun i => (w.cells? base (a.add (i * P.cellsOf e)) (P.cellsOf e)).getD []
    have hR : ∀ i, i < len0 → Cells enc P w base (fun _ => true) held ls (R i) ∧ ∀ j, j < P.cellsOf e → w.cell? ((a.add (i * P.cellsOf e)).add j) = (R i)[j]? := by
      intro i hil
      obtain ⟨cs, h1, h2⟩ := hrow i hil
      have e1 : R i = cs := by simp [R, h1]
      rw [e1]
      exact ⟨h2, (World.cells?_some h1).2.2⟩
    have hlen : ∀ i, i < len0 → (R i).length = P.cellsOf e := fun i hil => by rw [hc]; exact (hR i hil).1.1
    refine ⟨some a, m, (List.range len0).map R, by simp, by simpa using hlc, hcm, ?_, ?_, (by intro hh; cases hh), (List.range len0).map D, (List.range (m - len0)).map fun j => D (len0 + j), .inl ⟨hd, by simp, by simp; omega⟩⟩
    · intro cs hcs
      obtain ⟨i, hi', rfl⟩ := List.mem_map.1 hcs
      exact (hR i (List.mem_range.1 hi')).1
    · by_cases hz : ((List.range len0).map R).flatten = []
      · exact .inl hz
      · have hpos : 0 < len0 * P.cellsOf e := by
          rcases Nat.eq_zero_or_pos (len0 * P.cellsOf e) with h1 | h1
          · exfalso
            apply hz
            rw [List.flatten_eq_nil_iff]
            intro l hl'
            obtain ⟨i, hi', rfl⟩ := List.mem_map.1 hl'
            have hil := List.mem_range.1 hi'
            have h2 := hlen i hil
            rcases Nat.mul_eq_zero.1 h1 with h3 | h3
            · omega
            · rw [h3] at h2; exact List.eq_nil_of_length_eq_zero h2
          · exact h1
        have hlen0 : 0 < len0 := Nat.pos_of_mul_pos_right hpos
        have hce : 0 < P.cellsOf e := Nat.pos_of_mul_pos_left hpos
        have hcell0 : ∃ u, w.cell? a = some u := by
          obtain ⟨h1, h2⟩ := hR 0 hlen0
          have h3 := h2 0 hce
          have h4 : (a.add (0 * P.cellsOf e)).add 0 = a := by simp [Addr.add]
          rw [h4] at h3
          refine ⟨_, h3.trans (List.getElem?_eq_getElem (by rw [hlen 0 hlen0]; exact hce))⟩
        obtain ⟨u0, hu0⟩ := hcell0
        have hspot : a.spot = none := World.cell?_spot hu0
        obtain ⟨b, off, sp⟩ := a
        simp only at hspot
        subst hspot
        refine .inr ⟨b, off, rfl, ?_, ?_⟩
        · have hm0 := Nat.mul_le_mul_right (P.cellsOf e) hlc
          have := hlt (.cell b off) (by rw [hps]; exact List.mem_append_left _ (List.mem_map.2 ⟨0, List.mem_range.2 (by omega), rfl⟩))
          exact this
        · intro j u hu
          have hall : ∀ (k : Nat) (l : List Nat), (∀ i ∈ l, i < len0) → ∀ j u, ((l.map R).flatten)[j]? = some u → ∃ i q, l[i]? ≠ none ∧ j = i * P.cellsOf e + q ∧ q < P.cellsOf e ∧ ∃ z, l[i]? = some z ∧ (R z)[q]? = some u := by
            intro k l
            induction l with
            | nil => intro _ j u h; simp at h
            | cons z l ih =>
              intro hl' j u h
              simp only [List.map_cons, List.flatten_cons] at h
              have hz1 := hlen z (hl' z (by simp))
              rcases Nat.lt_or_ge j (P.cellsOf e) with hj | hj
              · rw [List.getElem?_append_left (by omega)] at h
                exact ⟨0, j, by simp, by omega, hj, z, by simp, h⟩
              · rw [List.getElem?_append_right (by omega), hz1] at h
                obtain ⟨i, q, h1, h2, h3, y, h4, h5⟩ := ih (fun i hi' => hl' i (by simp [hi'])) _ _ h
                refine ⟨i + 1, q, by simpa using h1, ?_, h3, y, by simpa using h4, h5⟩
                rw [Nat.add_mul]; omega
          obtain ⟨i, q, _, hj, hq, z, hz1, hz2⟩ := hall 0 (List.range len0) (fun i hi' => List.mem_range.1 hi') j u hu
          have hzi : z = i ∧ i < len0 := by
            have hil : i < len0 := by
              rcases Nat.lt_or_ge i len0 with h1 | h1
              · exact h1
              · rw [List.getElem?_eq_none (by simpa using h1)] at hz1; cases hz1
            rw [List.getElem?_range hil] at hz1
            injection hz1 with hz1
            exact ⟨hz1.symm, hil⟩
          obtain ⟨rfl, hil⟩ := hzi
          have h6 := (hR z hil).2 q hq
          rw [hz2] at h6
          rw [← h6, hj]
          congr 1
          unfold Addr.add
          by_cases h7 : z * P.cellsOf e = 0 <;> by_cases h8 : q = 0 <;> simp [h7, h8, Nat.add_assoc]
theorem open_rows {r : Reach} {b0 : Nat} {t e : TypeId} {v : Value} {d : DataW H} {ps : List MemPlace} (n : Nat) (ls : List TypeId) (ht : P.underlying t = some (.slice e)) (hg : good P n e = true) (hl : lv P n e = ls) (hc : P.cellsOf e = ls.length)
    (hv : Value.okWide P w r b0 t v) (h : DataW.Trod enc P w base (fun _ => true) held t v d ps) (hlt : ∀ x ∈ ps, x.block < w.heap.size) :
    ∃ (A : Option Addr) (c : Nat) (rows : List (List Value)), v = .slice A rows.length c ∧ rows.length ≤ c ∧ c ≤ maxLen ∧ (∀ cs ∈ rows, Cells enc P w base (fun _ => true) held ls cs) ∧ Me.Seg w w.heap.size A rows.flatten ∧
      (∃ es sp : List (DataW H), (d = .slice es sp ∧ es.length = rows.length ∧ es.length + sp.length = c) ∨ (d = .nil ∧ rows = [] ∧ c = 0)) := by
  obtain ⟨A, c, rows, h1, h2, h3, h4, h5, _, h6⟩ := open_rows0 n ls ht hg hl hc hv h hlt
  exact ⟨A, c, rows, h1, h2, h3, h4, h5, h6⟩
end

section
variable {H : Type} {enc : TypeId × Value → H} {P : Program} {w : World} {base : Nat} {spare : Nat → Bool} {held : Bool}
/-- Cells that are all integers of one kind. -/
theorem cells_ints {ti : TypeId} {k : IntKind} (hu : P.underlying ti = some (.int k)) : ∀ {n : Nat} {cs : List Value}, Cells enc P w base spare held (List.replicate n ti) cs →
    ∃ zs : List Int, zs.length = n ∧ cs = zs.map (Value.int k) ∧ ∀ z ∈ zs, (Lit.int k z).wf = true
  | 0, cs, h => ⟨[], rfl, by simpa using h.1, by simp⟩
  | n + 1, cs, h => by
    obtain ⟨hl, hc⟩ := h
    match cs, hl with
    | c :: cs, hl =>
      obtain ⟨v, m, y, hv, hy⟩ := hc 0 ti (by simp [List.replicate_succ])
      simp at hv
      subst hv
      obtain ⟨z, hz, _, hw⟩ := DataW.trod_int hu hy
      simp at hz
      subst hz
      obtain ⟨zs, h1, h2, h3⟩ := cells_ints hu (n := n) (cs := cs) ⟨by simpa [List.replicate_succ] using hl, fun i u hi => by
        obtain ⟨v, m, y, hv, hy⟩ := hc (i + 1) u (by simpa [List.replicate_succ] using hi)
        exact ⟨v, m, y, by simpa using hv, hy⟩⟩
      exact ⟨z :: zs, by simp [h1], by simp [h2], by
        intro x hx
        rcases List.mem_cons.1 hx with rfl | hx
        · exact hw
        · exact h3 x hx⟩
theorem wf_bd {z : Int} (h : (Lit.int .i64 z).wf = true) : -9223372036854775808 ≤ z ∧ z ≤ 9223372036854775807 := by
  simp [Lit.wf, IntKind.min, IntKind.max, IntKind.signed, IntKind.bits] at h
  omega
end
end Go.Proofs.YtoboecenlangmaaGreatDoor.Le
end
section
namespace Go.Proofs.YtoboecenlangmaaGreatDoor.No
open Go.ChangeShapes Go.WideShapes Go.ChangeAt Go.RowKit
open Me Np
set_option linter.unusedVariables false

def leafs : List TypeId := [3, 3, 5, 3, 3, 3, 3, 3, 3, 3, 3, 3, 3, 3, 3, 3, 3, 3, 9]
theorem node_of {H : Type} {enc : TypeId × Value → H} {w : World} {base : Nat} {spare : Nat → Bool} {held : Bool} {cs : List Value} (h : Le.Cells enc Tryz.prog w base spare held leafs cs) : ∃ n : Nd, cs = ncs n := by
  obtain ⟨hl, hc⟩ := h
  have hl : cs.length = 19 := hl
  obtain ⟨v0, m0, y0, e0, t0⟩ := hc 0 3 rfl
  obtain ⟨z0, g0, _⟩ := DataW.trod_int Tryz.underlying3 t0
  simp only [List.cons.injEq, and_true] at g0
  subst g0
  obtain ⟨v1, m1, y1, e1, t1⟩ := hc 1 3 rfl
  obtain ⟨z1, g1, _⟩ := DataW.trod_int Tryz.underlying3 t1
  simp only [List.cons.injEq, and_true] at g1
  subst g1
  obtain ⟨v2, m2, y2, e2, t2⟩ := hc 2 5 rfl
  obtain ⟨z2, g2, _⟩ := DataW.trod_int Tryz.underlying5 t2
  simp only [List.cons.injEq, and_true] at g2
  subst g2
  obtain ⟨v3, m3, y3, e3, t3⟩ := hc 3 3 rfl
  obtain ⟨z3, g3, _⟩ := DataW.trod_int Tryz.underlying3 t3
  simp only [List.cons.injEq, and_true] at g3
  subst g3
  obtain ⟨v4, m4, y4, e4, t4⟩ := hc 4 3 rfl
  obtain ⟨z4, g4, _⟩ := DataW.trod_int Tryz.underlying3 t4
  simp only [List.cons.injEq, and_true] at g4
  subst g4
  obtain ⟨v5, m5, y5, e5, t5⟩ := hc 5 3 rfl
  obtain ⟨z5, g5, _⟩ := DataW.trod_int Tryz.underlying3 t5
  simp only [List.cons.injEq, and_true] at g5
  subst g5
  obtain ⟨v6, m6, y6, e6, t6⟩ := hc 6 3 rfl
  obtain ⟨z6, g6, _⟩ := DataW.trod_int Tryz.underlying3 t6
  simp only [List.cons.injEq, and_true] at g6
  subst g6
  obtain ⟨v7, m7, y7, e7, t7⟩ := hc 7 3 rfl
  obtain ⟨z7, g7, _⟩ := DataW.trod_int Tryz.underlying3 t7
  simp only [List.cons.injEq, and_true] at g7
  subst g7
  obtain ⟨v8, m8, y8, e8, t8⟩ := hc 8 3 rfl
  obtain ⟨z8, g8, _⟩ := DataW.trod_int Tryz.underlying3 t8
  simp only [List.cons.injEq, and_true] at g8
  subst g8
  obtain ⟨v9, m9, y9, e9, t9⟩ := hc 9 3 rfl
  obtain ⟨z9, g9, _⟩ := DataW.trod_int Tryz.underlying3 t9
  simp only [List.cons.injEq, and_true] at g9
  subst g9
  obtain ⟨v10, m10, y10, e10, t10⟩ := hc 10 3 rfl
  obtain ⟨z10, g10, _⟩ := DataW.trod_int Tryz.underlying3 t10
  simp only [List.cons.injEq, and_true] at g10
  subst g10
  obtain ⟨v11, m11, y11, e11, t11⟩ := hc 11 3 rfl
  obtain ⟨z11, g11, _⟩ := DataW.trod_int Tryz.underlying3 t11
  simp only [List.cons.injEq, and_true] at g11
  subst g11
  obtain ⟨v12, m12, y12, e12, t12⟩ := hc 12 3 rfl
  obtain ⟨z12, g12, _⟩ := DataW.trod_int Tryz.underlying3 t12
  simp only [List.cons.injEq, and_true] at g12
  subst g12
  obtain ⟨v13, m13, y13, e13, t13⟩ := hc 13 3 rfl
  obtain ⟨z13, g13, _⟩ := DataW.trod_int Tryz.underlying3 t13
  simp only [List.cons.injEq, and_true] at g13
  subst g13
  obtain ⟨v14, m14, y14, e14, t14⟩ := hc 14 3 rfl
  obtain ⟨z14, g14, _⟩ := DataW.trod_int Tryz.underlying3 t14
  simp only [List.cons.injEq, and_true] at g14
  subst g14
  obtain ⟨v15, m15, y15, e15, t15⟩ := hc 15 3 rfl
  obtain ⟨z15, g15, _⟩ := DataW.trod_int Tryz.underlying3 t15
  simp only [List.cons.injEq, and_true] at g15
  subst g15
  obtain ⟨v16, m16, y16, e16, t16⟩ := hc 16 3 rfl
  obtain ⟨z16, g16, _⟩ := DataW.trod_int Tryz.underlying3 t16
  simp only [List.cons.injEq, and_true] at g16
  subst g16
  obtain ⟨v17, m17, y17, e17, t17⟩ := hc 17 3 rfl
  obtain ⟨z17, g17, _⟩ := DataW.trod_int Tryz.underlying3 t17
  simp only [List.cons.injEq, and_true] at g17
  subst g17
  obtain ⟨v18, m18, y18, e18, t18⟩ := hc 18 9 rfl
  obtain ⟨z18, g18, _⟩ := DataW.trod_string Tryz.underlying9 t18
  simp only [List.cons.injEq, and_true] at g18
  subst g18
  refine ⟨⟨z0, z1, z2, z3, z4, z5, z6, z7, z8, z9, z10, z11, z12, z13, z14, z15, z16, z17, z18⟩, ?_⟩
  apply List.ext_getElem?
  intro i
  match i with
  | 0 => exact e0
  | 1 => exact e1
  | 2 => exact e2
  | 3 => exact e3
  | 4 => exact e4
  | 5 => exact e5
  | 6 => exact e6
  | 7 => exact e7
  | 8 => exact e8
  | 9 => exact e9
  | 10 => exact e10
  | 11 => exact e11
  | 12 => exact e12
  | 13 => exact e13
  | 14 => exact e14
  | 15 => exact e15
  | 16 => exact e16
  | 17 => exact e17
  | 18 => exact e18
  | i + 19 =>
    rw [List.getElem?_eq_none (by omega), List.getElem?_eq_none (by rw [ncs_length]; omega)]
theorem nodes_of {H : Type} {enc : TypeId × Value → H} {w : World} {base : Nat} {spare : Nat → Bool} {held : Bool} : ∀ {rows : List (List Value)}, (∀ cs ∈ rows, Le.Cells enc Tryz.prog w base spare held leafs cs) → ∃ l : List Nd, l.length = rows.length ∧ rows.flatten = l.flatMap ncs
  | [], _ => ⟨[], rfl, rfl⟩
  | cs :: rows, h => by
    obtain ⟨n, hn⟩ := node_of (h cs (by simp))
    obtain ⟨l, h1, h2⟩ := nodes_of (rows := rows) (fun c hc => h c (by simp [hc]))
    exact ⟨n :: l, by simp [h1], by simp [hn, h2]⟩
theorem bytes_node : Tryz.prog.bytesOf 40 = 160 := by kernel_rfl
end Go.Proofs.YtoboecenlangmaaGreatDoor.No
end
section
namespace Go.Proofs.YtoboecenlangmaaGreatDoor.Li
open Go.ChangeShapes Go.WideShapes Go.ChangeAt Go.RowKit

section
variable {H : Type} {enc : TypeId × Value → H} {P : Program}

theorem trodAll_below (hl : laidOutB P = true) {W W' : World} (hb : Below W.heap.size W W') {sp : Nat → Bool} :
    ∀ {ts : List TypeId} {vs : List Value} {ds : List (DataW H)} {p : List MemPlace}, ts.all (fun t => P.readableRec t && decide (t < P.types.size)) = true → DataW.TrodAll enc P W 0 (fun _ => true) true ts vs ds p →
      (∀ x ∈ p, x.block < W.heap.size) → (∀ x ∈ p, sp x.block = true) → DataW.TrodAll enc P W' 0 sp true ts vs ds p
  | [], _, _, _, _, h, _, _ => by
    obtain ⟨rfl, rfl, rfl⟩ := trodAll_nil h
    exact trodAll_mk0
  | t :: ts, _, _, _, hr, h, hlt, hs => by
    obtain ⟨v, vs1, d, ds1, a, b, rfl, rfl, rfl, h1, h2⟩ := trodAll_cons h
    simp only [List.all_cons, Bool.and_eq_true, decide_eq_true_eq] at hr
    refine trodAll_cons_mk (WideElems.Trod_stays hl hr.1.1 hr.1.2 h1 (fun x hx => hb.same (hlt x (by simp [hx]))) (fun x hx => hs x (by simp [hx]))) ?_
    exact trodAll_below hl hb (by simpa using hr.2) h2 (fun x hx => hlt x (by simp [hx])) (fun x hx => hs x (by simp [hx]))

theorem law_post {f : Func} {s : ChangeSpec} {apart fresh handsOn again : Bool} {W W' : World} {args : Array Value} {ds gs : List (DataW H)} {before : List MemPlace} {tb : TypeId}
    (hl : laidOutB P = true) (hv : s.vars = []) (hW : DataW.Whole enc P f.params.toList s.vars apart W args.toList ds gs before) (hr : f.params.toList.all (fun t => P.readableRec t && decide (t < P.types.size)) = true)
    (hres : (s.fn H (ds ++ gs)).results = [.lit (.bool true)]) (hargs : (s.fn H (ds ++ gs)).args = ds) (hvars : (s.fn H (ds ++ gs)).vars = []) (hrt : f.resultTypes = #[tb]) (htb : P.underlying tb = some .bool)
    (hb : Below W.heap.size W W') : s.post enc P f apart fresh handsOn again W args (.bool true) W' := by
  have hlt0 := hW.lt
  obtain ⟨p, q, hA, hV, he, hfz, hnd⟩ := id hW
  rw [hv] at hV
  obtain ⟨rfl, rfl⟩ := trodVars_none hV
  rw [List.append_nil] at he
  subst he
  have hlt : ∀ x ∈ before, x.block < W.heap.size := fun x hx => hlt0 x hx
  have hR : ∀ (b : Nat) (sp : Nat → Bool) (hd : Bool), DataW.TrodAll enc P W' b sp hd f.resultTypes.toList ((Value.bool true).resultList f.resultTypes.size) (s.fn H (ds ++ [])).results [] := by
    intro b sp hd
    rw [hrt, hres]
    exact trodAll_mk1 (shut_bool htb _)
  have hVW : ∀ sp : Nat → Bool, DataW.TrodVars enc P W' sp s.vars (s.fn H (ds ++ [])).vars [] := by
    intro sp
    rw [hv, hvars]
    rfl
  have hAW : ∀ sp : Nat → Bool, (∀ x ∈ before, sp x.block = true) → DataW.TrodAll enc P W' 0 sp true f.params.toList args.toList (s.fn H (ds ++ [])).args before := by
    intro sp hs
    rw [hargs]
    exact trodAll_below hl hb hr hA hlt hs
  refine ⟨ds, [], before, [], before, [], hW, hR _ _ _, hAW _ (fun x hx => by simpa using hlt x hx), hVW _, World.keptBut_mono (fun x hx => ⟨hx, .inr (.inl hx)⟩) (hb.frame (· ∈ before)), fun _ => ⟨?_, ?_⟩⟩
  · exact ok_one hrt rfl (okWide_bool_mk htb _)
  · refine ⟨_, _, [] ++ before ++ [], ⟨[] ++ before, [], trodAll_append (hAW _ (fun _ _ => rfl)) (hR _ _ _), hVW _, rfl, ?_, ?_⟩, ?_⟩
    · intro b off hx
      have hx' : MemPlace.cell b off ∈ before := by simpa using hx
      rw [hb.frozen (hlt _ hx')]
      exact hfz b off hx'
    · intro ha
      simpa using hnd ha
    · intro x hx _
      simpa using hx
end
end Go.Proofs.YtoboecenlangmaaGreatDoor.Li
end
section
namespace Go.Proofs.YtoboecenlangmaaGreatDoor.PackNatural
open Np
open Go.ChangeShapes Go.WideShapes Go.ChangeAt Go.RowKit
set_option linter.unusedVariables false
set_option linter.unusedSimpArgs false

set_option maxRecDepth 100000 in
theorem lifted (os : Os) (started : os.Started) (H : Type) (enc : TypeId × Value → H) :
    ReturnsInHanded {} Tryz.checked os 4 .any (fun w args => (Rows.packNaturalSpec.pre enc Tryz.prog Tryz.f4 [] false w args ∧ laidMetH Tryz.prog Ca.laid w) ∧ sizedMet enc Tryz.prog Tryz.f4 (OpenSpec.ofChange Rows.packNaturalSpec) false w args)
      (Rows.packNaturalSpec.post enc Tryz.prog Tryz.f4 false true false false) := by
  refine returnsInHanded_of_change_and (C := Tryz.checked) (X := fun w _ => laidMetH Tryz.prog Ca.laid w) (fun _ _ _ hh h => h.of_heap hh) Ca.own started (by kernel_rfl) Tryz.func4
    (ChangeSpec.witness_shaped (enc := enc) (C := Tryz.checked) (os := os) (X := fun w _ => laidMetH Tryz.prog Ca.laid w) false (World.doorLaid Tryz.prog 400 os) #[.slice none 0 0] 8 rfl (World.shaped_of_RefB (by kernel_rfl) (by kernel_rfl)) (by kernel_rfl) (by kernel_rfl) (by kernel_rfl) (Ca.door_met os _)) ?_
  intro W base args ds gs before hval0 hW _ hsz0 hL _
  have hval : ∀ (j : Nat) t v, Tryz.f4.params[j]? = some t → args[j]? = some v → Value.okWide Tryz.prog W .any base t v := hval0
  have hsz : (DataW.weightsEach Tryz.prog (Tryz.f4.params.toList ++ Rows.packNaturalSpec.plain.varTypes Tryz.prog) (ds ++ gs)).all (· ≤ reachBytes) = true := hsz0
  have hW' := hW
  have hlt0 := hW.lt
  have htab := Ca.tab_of_laid hL
  obtain ⟨p, q, hA0, hV, he, hfz, hnd⟩ := hW
  have hA : DataW.TrodAll enc Tryz.prog W 0 (fun _ => true) true Tryz.f4.params.toList args.toList ds p := hA0
  rw [Tryz.params4] at hA hval hsz
  obtain ⟨rfl, rfl⟩ := trodVars_none hV
  rw [List.append_nil] at he
  subst he
  obtain ⟨v0, vs0, d0, ds0, p0, q0, hargs, rfl, rfl, h0, r0⟩ := trodAll_cons hA
  obtain ⟨rfl, rfl, rfl⟩ := trodAll_nil r0
  obtain rfl : args = #[v0] := by cases args; simp_all
  have k0 : ∀ x ∈ p0, x.block < W.heap.size := fun x hx => hlt0 x (by simp [hx])
  obtain ⟨A0, c0, rows0, rfl, hlc0, hcm0, hrow0, hseg0, hdat0⟩ := Le.open_rows 8 No.leafs Tryz.underlying25 (by kernel_rfl) (by kernel_rfl) (by kernel_rfl) (hval 0 25 v0 rfl rfl) h0 k0
  obtain ⟨l0, hll0, hls0⟩ := No.nodes_of hrow0
  rw [hls0] at hseg0
  rw [← hll0] at hlc0 hW' hdat0 ⊢
  have hreach0 : l0.length ≤ 879609302220 := by
    obtain ⟨es, sp, ⟨hd, he1, he2⟩ | ⟨hd, he1, he2⟩⟩ := hdat0
    · have h := sized_slice hsz (j := 0) (t := 25) (e := 40) rfl (by rw [hd]; rfl) Tryz.underlying25
      rw [No.bytes_node] at h
      simp only [reachBytes] at h
      omega
    · rw [he1] at hll0
      simp at hll0
      simp [hll0]
  clear hA0 hval0
  refine (Pk.natural_walk A0 l0 c0 W (by omega) hlc0 hseg0).mono fun e W' ⟨he, hb⟩ => ?_
  subst he
  exact ⟨_, rfl, Li.law_post Ca.laidOut rfl hW' (by kernel_rfl) rfl rfl rfl rfl Tryz.underlying4 hb⟩

theorem over : Rows.packNaturalRow.holds Tryz.pinned (OpenSpec.ofChange Rows.packNaturalSpec) :=
  OpenClaim.holds_of_wide 4 Tryz.f4 rfl rfl rfl rfl rfl rfl rfl ⟨rfl, rfl, rfl, rfl, rfl⟩ rfl rfl rfl rfl rfl (by kernel_rfl) Tryz.func4 (by kernel_rfl)
    (of_decide_eq_true (by kernel_rfl)) (by unfold Func.isWrapper; first | (rw [if_pos (by decide +kernel)]; kernel_rfl) | (rw [if_neg (by decide +kernel)]; exact ⟨rfl, rfl⟩))
    (fun os started H enc _ => lifted os started H enc)

theorem proved : Rows.PackNaturalCardSaid :=
  Claim7.holds_tied_plain_at .later [] [.data, .data, .data] true (true, "86deae04023b167fcf87ed73cdc91d95afbdda1d8b3192896f8d5ab10f017ccf") false
    over (fun _ h => by cases h) (by kernel_rfl) (fun _ h => by cases h) packNatural_row_tie rfl ⟨rfl, rfl⟩ (by kernel_rfl) rfl
    (fun f fn hf hfn => by
      obtain rfl : f = 4 := Option.some.inj ((show Tryz.prog.funcNamed "galley/galleylaw06.PackNatural" = some 4 by kernel_rfl).symm.trans hf) |>.symm
      obtain rfl : fn = Tryz.f4 := (Option.some.inj (Tryz.func4.symm.trans hfn)).symm
      exact ⟨by kernel_rfl, fun j t ht => by
        rw [Tryz.params4] at ht
        have hm : t ∈ [25] := by simpa using Array.mem_of_getElem? ht
        have hall : ([25].all fun u => !Tryz.prog.wantsStandIn u) = true := by kernel_rfl
        exact (show Tryz.prog.wantsStandIn t = false by simpa using List.all_eq_true.1 hall t hm)⟩)
    (by kernel_rfl)
#print axioms proved
end Go.Proofs.YtoboecenlangmaaGreatDoor.PackNatural
end

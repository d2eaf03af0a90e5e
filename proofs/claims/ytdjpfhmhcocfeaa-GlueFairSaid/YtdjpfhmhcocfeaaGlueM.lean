import Derived.Test.YtdjpfhmhcocfeaaGlueL
import Derived.Deep.RegionHeld3
/- GlueFair: the walk. Conditions: those that each theorem names. -/
namespace Go.Proofs.Ytdjpfhmhcocfeaa.Gl
open Go.ChangeShapes Go.WideShapes Go.ChangeAt Go.RowKit
open Me
set_option linter.unusedVariables false

/-- The facts of a product: it fits in a word. -/
theorem fair_prod {N D s off : Int} (hN : mag N < 1073741824) (hs : mag s < 1073741824) (hD : 1 ≤ D) (hD2 : D < 1073741824) (h1 : off * D - N * s ≤ D) (h2 : N * s - off * D ≤ D) :
    -2305843009213693952 ≤ off * D ∧ off * D ≤ 2305843009213693952 ∧ -1152921504606846976 ≤ N * s ∧ N * s ≤ 1152921504606846976 := by
  have h3 : mag N * mag s ≤ 1152921504606846976 := by
    have a := Int.mul_le_mul_of_nonneg_right (show mag N ≤ 1073741824 by omega) (mag_nonneg s)
    have b := Int.mul_le_mul_of_nonneg_left (show mag s ≤ 1073741824 by omega) (show (0 : Int) ≤ 1073741824 by omega)
    omega
  have h4 : 0 ≤ mag N * mag s := Int.mul_nonneg (mag_nonneg N) (mag_nonneg s)
  have h5 := mul_sgn N s
  rcases sgn_cases s N with h6 | h6 <;> rw [h6] at h5 <;> omega

set_option maxRecDepth 100000 in
set_option maxHeartbeats 2000000 in
theorem fair_walk (A : Option Addr) (l : List G) (c : Nat) (sg od N D cut : Int) (w : World) (h63 : l.length ≤ 140737488355328) (hc : l.length ≤ c) (hrow : Row w A l) :
    Calls Try.prog 4 #[.slice A l.length c, .agg #[.int .i64 sg, .int .i64 od, .int .i64 N, .int .i64 D], .int .i64 cut] w fun e w' => e = .returned (.bool true) ∧ Below w.heap.size w w' := by
  have hb0 : Below w.heap.size w (w.alloc (.cells #[.int .i64 sg, .int .i64 od, .int .i64 N, .int .i64 D] 32)) := andAlloc (Below.refl _ _) _
  have hcall := sizes_any A l c sg od N D _ (by unfold maxLen; omega) (hrow.up hb0)
  have HC := Lib.hid hcall
  clear hcall
  by_cases hE : szE l sg od N D = 0
  · obtain ⟨hL, hfair, hpre⟩ := fair_all hE
    have hall := (rowE_zero (szE_zero hE).1).2
    have hD1 : sg ≠ 0 → 1 ≤ D := fun h => (rngOk_iff.1 (szE_zero hE).2.2.1).2.2.resolve_left h
    have HALL := Lib.hid hall
    have HD1 := Lib.hid hD1
    have HE := Lib.hid hE
    have HL := Lib.hid hL
    have HF := Lib.hid hfair
    have HP := Lib.hid hpre
    have HR := Lib.hid hrow
    clear hE hL hfair hpre hrow hall hD1
    go_enter Try.func4, Try.ntmps4
    go_wp2_with fail
    refine HC.out.mono ?_
    rintro e w2 ⟨hs, hb2⟩
    rw [if_pos HE.out] at hs
    obtain ⟨v, rfl, hown⟩ := hs
    obtain ⟨A2, c2, rfl, hc2, hm2, hseg⟩ := Seg.of_own hown
    have hbel := andThen hb0 hb2
    obtain ⟨ho, hf⟩ := old_cells hb2
    have hI : Ints w2 A2 (szL l sg od N D) := hseg
    have HI := Lib.hid hI
    have cw0 : w2.cell? ⟨w.heap.size, 0, none⟩ = some (.int .i64 sg) := (ho _ _ (by simp)).trans (by simp [go_sem])
    have cw1 : w2.cell? ⟨w.heap.size, 1, none⟩ = some (.int .i64 od) := (ho _ _ (by simp)).trans (by simp [go_sem])
    have cw2 : w2.cell? ⟨w.heap.size, 2, none⟩ = some (.int .i64 N) := (ho _ _ (by simp)).trans (by simp [go_sem])
    have cw3 : w2.cell? ⟨w.heap.size, 3, none⟩ = some (.int .i64 D) := (ho _ _ (by simp)).trans (by simp [go_sem])
    have hws : w.heap.size < w2.heap.size := by have := hb2.size; simp at this; omega
    clear hown hseg ho hf hI
    generalize hn : l.length = n at *
    have HN := Lib.hid hn
    clear hn
    go_wp2_with (go_at_call 11; refine (num_any _ _).mono ?_; rintro e w' ⟨rfl, rfl⟩)
    go_loopw [9, 10, 11] (fun i s o wr => ∃ k : Nat, k ≤ n ∧ i = .int .i64 k ∧ Below w2.heap.size w2 wr) (fun i _ _ _ => n - (intOf i).toNat)
    case atStart => exact ⟨0, Nat.zero_le _, rfl, Below.refl _ _⟩
    case round =>
      obtain ⟨k, hk, rfl, hb⟩ := hrel
      by_cases hlt : k < n
      · obtain ⟨g, hgk⟩ : ∃ g, l[k]? = some g := ⟨_, List.getElem?_eq_getElem (by rw [HN.out]; exact hlt)⟩
        obtain ⟨x, hx, hfx⟩ := HF.out k g hgk
        have hgok : g.ok = true := List.all_eq_true.1 HALL.out g (List.mem_of_getElem? hgk)
        obtain ⟨b, off, rfl, c0, c1, c2', c3, c4⟩ := HR.out.cells (hbel.trans (hb.mono hbel.size)) hgk
        obtain ⟨b2, off2, rfl, cx⟩ := (Ints.below HI.out hb).cell hx
        have d0 : wr.cell? ⟨w.heap.size, 0, none⟩ = some (.int .i64 sg) := (hb.cell (p := ⟨w.heap.size, 0, none⟩) hws).trans cw0
        have d1 : wr.cell? ⟨w.heap.size, 1, none⟩ = some (.int .i64 od) := (hb.cell (p := ⟨w.heap.size, 1, none⟩) hws).trans cw1
        have d2 : wr.cell? ⟨w.heap.size, 2, none⟩ = some (.int .i64 N) := (hb.cell (p := ⟨w.heap.size, 2, none⟩) hws).trans cw2
        have d3 : wr.cell? ⟨w.heap.size, 3, none⟩ = some (.int .i64 D) := (hb.cell (p := ⟨w.heap.size, 3, none⟩) hws).trans cw3
        obtain ⟨⟨m0, m1⟩, ⟨s0, s1⟩, ⟨t0, t1⟩, -, -⟩ := glueB_iff.1 hgok
        obtain ⟨f1, f2, f3, f4⟩ := hfx
        have hlt' : (k : Int) < (n : Int) := by omega
        have hk0 : (0 : Int) ≤ (k : Int) := by omega
        have hwr : w.heap.size < wr.heap.size := by have := hb.size; omega
        have y2 : ∀ (q : Nat) (X : Obj), ((wr.drewN q).alloc X).cell? ⟨w.heap.size, 2, none⟩ = some (.int .i64 N) := fun q X => (World.cell?_alloc_lt _ _ _ hwr).trans d2
        have y3 : ∀ (q : Nat) (X : Obj), ((wr.drewN q).alloc X).cell? ⟨w.heap.size, 3, none⟩ = some (.int .i64 D) := fun q X => (World.cell?_alloc_lt _ _ _ hwr).trans d3
        by_cases hs1 : sg = 1
        · subst hs1
          by_cases ha : g.a = od
          · have ha' : (g.a == od) = true := by simp [ha]
            have hso : sOf 1 od g = g.s := if_pos ⟨rfl, ha⟩
            rw [hso] at f1 f2
            clear hso ha
            have HF1 := Lib.hid f1
            have HF2 := Lib.hid f2
            clear f1 f2 hgk hx hgok
            by_cases hz : g.s = 0
            · have hz1 : (x - g.n != 0) = false := by rw [show x = g.n from HF1.out (by omega)]; simp
              have hz2 : (g.s == 0) = true := by simp [hz]
              have hz3 : (g.s != 0) = false := by simp [hz]
              have HZ := Lib.hid hz
              clear hz
              go_wp2_with fail
              go_quiet (fail)
              go_wp2_with fail
              go_quiet (fail)
              go_wp2_with fail
              go_quiet (fail)
              go_wp2_with (first | (go_at_call 14; refine (small_any _ _ _ _ _).mono ?_; rintro e w' ⟨rfl, rfl⟩) | (go_at_call 15; refine (small2_any _ _).mono ?_; rintro e w' ⟨rfl, rfl⟩))
              go_roundw
              case rel => exact ⟨k + 1, by omega, by go_num, by repeat (first | exact hb | refine below_drewN ?_ _ | refine Below.drew ?_ | refine Below.alloc ?_ (by first | exact hb.size | (have := hb.size; simp; omega)) _)⟩
              case measure => simp [intOf]; omega
            · have hz2 : (g.s == 0) = false := by simp; omega
              have hz3 : (g.s != 0) = true := by simp; omega
              have HZ := Lib.hid hz
              clear hz
              cases hsm : smallB N D
              · 
                go_wp2_with fail
                go_quiet (fail)
                go_wp2_with fail
                go_quiet (fail)
                go_wp2_with fail
                go_quiet (fail)
                go_wp2_with (first | (go_at_call 14; refine (small_any _ _ _ _ _).mono ?_; rintro e w' ⟨rfl, rfl⟩) | (go_at_call 15; refine (small2_any _ _).mono ?_; rintro e w' ⟨rfl, rfl⟩))
                go_roundw
                case rel => exact ⟨k + 1, by omega, by go_num, by repeat (first | exact hb | refine below_drewN ?_ _ | refine Below.drew ?_ | refine Below.alloc ?_ (by first | exact hb.size | (have := hb.size; simp; omega)) _)⟩
                case measure => simp [intOf]; omega
              · have hsm' : smB N = true ∧ D < 1073741824 := by
                  unfold smallB at hsm
                  simpa using hsm
                obtain ⟨hn1, hmD⟩ := hsm'
                obtain ⟨hn2, hn3⟩ : N < 1073741824 ∧ -1073741824 < N := of_decide_eq_true hn1
                have hmN : mag N < 1073741824 := by unfold mag; split <;> omega
                have hsq : smB (g.s) = true := decide_eq_true ⟨by omega, by omega⟩
                obtain ⟨r0, r1, r2, r3⟩ := fair_prod hmN (by unfold mag; split <;> omega) (HD1.out (by omega)) hmD (HF2.out hmN hmD (HD1.out (by omega))).1 (HF2.out hmN hmD (HD1.out (by omega))).2
                obtain ⟨r4, r5⟩ := HF2.out hmN hmD (HD1.out (by omega))
                clear hn1 hmN
                go_wp2_with fail
                go_quiet (fail)
                go_wp2_with fail
                go_quiet (fail)
                go_wp2_with fail
                go_quiet (fail)
                go_wp2_with (first | (go_at_call 14; refine (small_any _ _ _ _ _).mono ?_; rintro e w' ⟨rfl, rfl⟩) | (go_at_call 15; refine (small2_any _ _).mono ?_; rintro e w' ⟨rfl, rfl⟩))
                go_roundw
                case rel => exact ⟨k + 1, by omega, by go_num, by repeat (first | exact hb | refine below_drewN ?_ _ | refine Below.drew ?_ | refine Below.alloc ?_ (by first | exact hb.size | (have := hb.size; simp; omega)) _)⟩
                case measure => simp [intOf]; omega
          · have ha' : (g.a == od) = false := by simp [ha]
            have hso : sOf 1 od g = 0 := by unfold sOf; rw [if_neg (fun h => ha h.2), if_neg (by omega)]
            rw [hso] at f1 f2
            clear hso ha
            have HF1 := Lib.hid f1
            have HF2 := Lib.hid f2
            clear f1 f2 hgk hx hgok
            have hz1 : (x - g.n != 0) = false := by rw [show x = g.n from HF1.out rfl]; simp
            go_wp2_with fail
            go_quiet (fail)
            go_wp2_with fail
            go_quiet (fail)
            go_wp2_with fail
            go_quiet (fail)
            go_wp2_with (first | (go_at_call 14; refine (small_any _ _ _ _ _).mono ?_; rintro e w' ⟨rfl, rfl⟩) | (go_at_call 15; refine (small2_any _ _).mono ?_; rintro e w' ⟨rfl, rfl⟩))
            go_roundw
            case rel => exact ⟨k + 1, by omega, by go_num, by repeat (first | exact hb | refine below_drewN ?_ _ | refine Below.drew ?_ | refine Below.alloc ?_ (by first | exact hb.size | (have := hb.size; simp; omega)) _)⟩
            case measure => simp [intOf]; omega
        · by_cases hs2 : sg = 2
          · subst hs2
            by_cases hbo : g.b = od
            · have hb' : (g.b == od) = true := by simp [hbo]
              have hso : sOf 2 od g = -g.h := by unfold sOf; rw [if_neg (by omega), if_pos ⟨rfl, hbo⟩]
              rw [hso] at f1 f2
              clear hso hbo hs1
              have HF1 := Lib.hid f1
              have HF2 := Lib.hid f2
              clear f1 f2 hgk hx hgok
              by_cases hz : g.h = 0
              · have hz1 : (x - g.n != 0) = false := by rw [show x = g.n from HF1.out (by omega)]; simp
                have hz2 : (-g.h == 0) = true := by simp [hz]
                have hz3 : (-g.h != 0) = false := by simp [hz]
                have HZ := Lib.hid hz
                clear hz
                go_wp2_with fail
                go_quiet (fail)
                go_wp2_with fail
                go_quiet (fail)
                go_wp2_with fail
                go_quiet (fail)
                go_wp2_with (first | (go_at_call 14; refine (small_any _ _ _ _ _).mono ?_; rintro e w' ⟨rfl, rfl⟩) | (go_at_call 15; refine (small2_any _ _).mono ?_; rintro e w' ⟨rfl, rfl⟩))
                go_roundw
                case rel => exact ⟨k + 1, by omega, by go_num, by repeat (first | exact hb | refine below_drewN ?_ _ | refine Below.drew ?_ | refine Below.alloc ?_ (by first | exact hb.size | (have := hb.size; simp; omega)) _)⟩
                case measure => simp [intOf]; omega
              · have hz2 : (-g.h == 0) = false := by simp; omega
                have hz3 : (-g.h != 0) = true := by simp; omega
                have HZ := Lib.hid hz
                clear hz
                cases hsm : smallB N D
                · 
                  go_wp2_with fail
                  go_quiet (fail)
                  go_wp2_with fail
                  go_quiet (fail)
                  go_wp2_with fail
                  go_quiet (fail)
                  go_wp2_with (first | (go_at_call 14; refine (small_any _ _ _ _ _).mono ?_; rintro e w' ⟨rfl, rfl⟩) | (go_at_call 15; refine (small2_any _ _).mono ?_; rintro e w' ⟨rfl, rfl⟩))
                  go_roundw
                  case rel => exact ⟨k + 1, by omega, by go_num, by repeat (first | exact hb | refine below_drewN ?_ _ | refine Below.drew ?_ | refine Below.alloc ?_ (by first | exact hb.size | (have := hb.size; simp; omega)) _)⟩
                  case measure => simp [intOf]; omega
                · have hsm' : smB N = true ∧ D < 1073741824 := by
                    unfold smallB at hsm
                    simpa using hsm
                  obtain ⟨hn1, hmD⟩ := hsm'
                  obtain ⟨hn2, hn3⟩ : N < 1073741824 ∧ -1073741824 < N := of_decide_eq_true hn1
                  have hmN : mag N < 1073741824 := by unfold mag; split <;> omega
                  have hsq : smB (-g.h) = true := decide_eq_true ⟨by omega, by omega⟩
                  obtain ⟨r0, r1, r2, r3⟩ := fair_prod hmN (by unfold mag; split <;> omega) (HD1.out (by omega)) hmD (HF2.out hmN hmD (HD1.out (by omega))).1 (HF2.out hmN hmD (HD1.out (by omega))).2
                  obtain ⟨r4, r5⟩ := HF2.out hmN hmD (HD1.out (by omega))
                  have t2 := r2
                  have t3 := r3
                  have t4 := r4
                  have t5 := r5
                  rw [Int.mul_neg] at t2 t3 t4 t5
                  clear hn1 hmN
                  go_wp2_with fail
                  go_quiet (fail)
                  go_wp2_with fail
                  go_quiet (fail)
                  go_wp2_with fail
                  go_quiet (fail)
                  go_wp2_with (first | (go_at_call 14; refine (small_any _ _ _ _ _).mono ?_; rintro e w' ⟨rfl, rfl⟩) | (go_at_call 15; refine (small2_any _ _).mono ?_; rintro e w' ⟨rfl, rfl⟩))
                  go_roundw
                  case rel => exact ⟨k + 1, by omega, by go_num, by repeat (first | exact hb | refine below_drewN ?_ _ | refine Below.drew ?_ | refine Below.alloc ?_ (by first | exact hb.size | (have := hb.size; simp; omega)) _)⟩
                  case measure => simp [intOf]; omega
            · have hb' : (g.b == od) = false := by simp [hbo]
              have hso : sOf 2 od g = 0 := by unfold sOf; rw [if_neg (by omega), if_neg (fun h => hbo h.2)]
              rw [hso] at f1 f2
              clear hso hbo hs1
              have HF1 := Lib.hid f1
              have HF2 := Lib.hid f2
              clear f1 f2 hgk hx hgok
              have hz1 : (x - g.n != 0) = false := by rw [show x = g.n from HF1.out rfl]; simp
              go_wp2_with fail
              go_quiet (fail)
              go_wp2_with fail
              go_quiet (fail)
              go_wp2_with fail
              go_quiet (fail)
              go_wp2_with (first | (go_at_call 14; refine (small_any _ _ _ _ _).mono ?_; rintro e w' ⟨rfl, rfl⟩) | (go_at_call 15; refine (small2_any _ _).mono ?_; rintro e w' ⟨rfl, rfl⟩))
              go_roundw
              case rel => exact ⟨k + 1, by omega, by go_num, by repeat (first | exact hb | refine below_drewN ?_ _ | refine Below.drew ?_ | refine Below.alloc ?_ (by first | exact hb.size | (have := hb.size; simp; omega)) _)⟩
              case measure => simp [intOf]; omega
          · have hq1 : (sg == 1) = false := by simp [hs1]
            have hq2 : (sg == 2) = false := by simp [hs2]
            have hso : sOf sg od g = 0 := by unfold sOf; rw [if_neg (fun h => hs1 h.1), if_neg (fun h => hs2 h.1)]
            rw [hso] at f1 f2
            clear hso hs1 hs2
            have HF1 := Lib.hid f1
            have HF2 := Lib.hid f2
            clear f1 f2 hgk hx hgok
            have hz1 : (x - g.n != 0) = false := by rw [show x = g.n from HF1.out rfl]; simp
            go_wp2_with fail
            go_quiet (fail)
            go_wp2_with fail
            go_quiet (fail)
            go_wp2_with fail
            go_quiet (fail)
            go_wp2_with (first | (go_at_call 14; refine (small_any _ _ _ _ _).mono ?_; rintro e w' ⟨rfl, rfl⟩) | (go_at_call 15; refine (small2_any _ _).mono ?_; rintro e w' ⟨rfl, rfl⟩))
            go_roundw
            case rel => exact ⟨k + 1, by omega, by go_num, by repeat (first | exact hb | refine below_drewN ?_ _ | refine Below.drew ?_ | refine Below.alloc ?_ (by first | exact hb.size | (have := hb.size; simp; omega)) _)⟩
            case measure => simp [intOf]; omega
      · obtain rfl : k = n := by omega
        have hbw : Below w.heap.size w wr := andThen hbel hb
        have d0 : wr.cell? ⟨w.heap.size, 0, none⟩ = some (.int .i64 sg) := (hb.cell (p := ⟨w.heap.size, 0, none⟩) hws).trans cw0
        have d1 : wr.cell? ⟨w.heap.size, 1, none⟩ = some (.int .i64 od) := (hb.cell (p := ⟨w.heap.size, 1, none⟩) hws).trans cw1
        have d2 : wr.cell? ⟨w.heap.size, 2, none⟩ = some (.int .i64 N) := (hb.cell (p := ⟨w.heap.size, 2, none⟩) hws).trans cw2
        have d3 : wr.cell? ⟨w.heap.size, 3, none⟩ = some (.int .i64 D) := (hb.cell (p := ⟨w.heap.size, 3, none⟩) hws).trans cw3
        clear cw0 cw1 cw2 cw3
        by_cases hc1 : cut < 0
        · go_wp2_with (go_at_call 12; refine (live_any _).mono ?_; rintro e w3 ⟨rfl, hb3⟩)
          go_ret
          exact ⟨rfl, andThen hbw hb3⟩
        · by_cases hc3 : (k : Int) < cut
          · go_wp2_with (go_at_call 12; refine (live_any _).mono ?_; rintro e w3 ⟨rfl, hb3⟩)
            go_ret
            exact ⟨rfl, andThen hbw hb3⟩
          · obtain ⟨K, rfl⟩ := Int.eq_ofNat_of_zero_le (show 0 ≤ cut by omega)
            have hK : K ≤ k := by omega
            go_wp2_with fail
            have hKc : (K : Int) ≤ (c : Int) := by omega
            have hKk : (K : Int) ≤ (k : Int) := by omega
            have hK0 : (0 : Int) ≤ (K : Int) := by omega
            obtain ⟨hp1, hp2⟩ := HP.out K hK
            have hrowK : Row wr A (l.take K) := by
              have h := (HR.out.up hbw)
              unfold Row at h ⊢
              rw [flat_take G.vals_len]
              exact Seg.take h _
            have hcallK := sizes_any A (l.take K) c sg od N D wr.drew (by unfold maxLen; rw [List.length_take, HN.out]; omega) hrowK
            have hlK : (l.take K).length = K := by rw [List.length_take, HN.out]; omega
            simp only [hlK] at hcallK
            have hwz : w.heap.size < wr.heap.size := by have := hb.size; omega
            have HCK := Lib.hid hcallK
            have HP1 := Lib.hid hp1
            have HP2 := Lib.hid hp2
            have HLK := Lib.hid hlK
            clear hp1 hp2 hlK hcallK hrowK
            go_region_held3 (fun w' => w'.cell? ⟨w.heap.size, 0, none⟩ = some (.int .i64 sg) ∧ w'.cell? ⟨w.heap.size, 1, none⟩ = some (.int .i64 od) ∧ w'.cell? ⟨w.heap.size, 2, none⟩ = some (.int .i64 N) ∧ w'.cell? ⟨w.heap.size, 3, none⟩ = some (.int .i64 D)) (go_keep) (first | (go_at_call 13; refine HCK.out.mono ?_; rintro e w5 ⟨hs5, hb5⟩; rw [if_pos HP1.out] at hs5; obtain ⟨v5, rfl, hown5⟩ := hs5; rw [HLK.out] at hown5; obtain ⟨A5, c5, rfl, hc5, hm5, hseg5⟩ := Seg.of_own hown5; have e0 : w5.cell? ⟨w.heap.size, 0, none⟩ = some (.int .i64 sg) := (hb5.cell (p := ⟨w.heap.size, 0, none⟩) hwz).trans d0; have e1 : w5.cell? ⟨w.heap.size, 1, none⟩ = some (.int .i64 od) := (hb5.cell (p := ⟨w.heap.size, 1, none⟩) hwz).trans d1; have e2 : w5.cell? ⟨w.heap.size, 2, none⟩ = some (.int .i64 N) := (hb5.cell (p := ⟨w.heap.size, 2, none⟩) hwz).trans d2; have e3 : w5.cell? ⟨w.heap.size, 3, none⟩ = some (.int .i64 D) := (hb5.cell (p := ⟨w.heap.size, 3, none⟩) hwz).trans d3))
            have hb5' : Below wr.heap.size wr w5 := ((Below.refl wr.heap.size wr).drew).trans hb5
            have hX : ((szL l sg od N D).take K).length = K := by rw [List.length_take, HL.out]; omega
            rw [HP2.out] at hseg5
            have hI2 : Ints w5 A2 ((szL l sg od N D).take K) := by
              have h := Ints.below (Ints.below HI.out hb) hb5'
              unfold Ints at h ⊢
              rw [List.map_take]
              exact Seg.take h _
            have hints := ints_any A5 A2 _ _ c5 c2 w5 (by rw [hX]; unfold maxLen; omega) hseg5 hI2
            simp only [hX] at hints
            have HIN := Lib.hid hints
            have hrr : intsB ((szL l sg od N D).take K) ((szL l sg od N D).take K) = true := decide_eq_true rfl
            have hc2' : (K : Int) ≤ (c2 : Int) := by omega
            clear hints hX hI2 hseg5 hown5
            go_wp2_with (first | (go_at_call 11; refine (num_any _ _).mono ?_; rintro e w' ⟨rfl, rfl⟩) | (go_at_call 16; refine HIN.out.mono ?_; rintro e w' ⟨rfl, m, rfl⟩) | (go_at_call 12; refine (live_any _).mono ?_; rintro e w7 ⟨rfl, hb7⟩))
            go_ret
            exact ⟨rfl, andThen (below_drewN (andThen hbw hb5') _) hb7⟩
  · have hne : (szE l sg od N D != 0) = true := by simp [hE]
    have HE := Lib.hid hE
    clear hE hrow
    go_enter Try.func4, Try.ntmps4
    go_wp2_with fail
    refine HC.out.mono ?_
    rintro e w2 ⟨hs, hb2⟩
    rw [if_neg HE.out] at hs
    subst hs
    go_wp2_with (first | (go_at_call 11; refine (num_any _ _).mono ?_; rintro e w' ⟨rfl, rfl⟩) | (go_at_call 12; refine (live_any _).mono ?_; rintro e w3 ⟨rfl, hb3⟩))
    go_ret
    exact ⟨rfl, andThen (andThen hb0 hb2) hb3⟩
end Go.Proofs.Ytdjpfhmhcocfeaa.Gl

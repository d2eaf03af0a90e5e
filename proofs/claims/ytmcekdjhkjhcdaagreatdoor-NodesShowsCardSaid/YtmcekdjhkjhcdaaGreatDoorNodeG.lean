import Derived.Test.YtmcekdjhkjhcdaaGreatDoorNodeF
import Derived.Test.YtmcekdjhkjhcdaaGreatDoorNr
import Derived.WalkMore
/- Contracts of end, begins, Item, items, Count (printed by gen_nodeg.py). Conditions: those that each theorem names. -/
namespace Go.Proofs.YtmcekdjhkjhcdaaGreatDoor.No
open Go.ChangeShapes Go.WideShapes Go.ChangeAt Go.RowKit
open Me Np
set_option linter.unusedVariables false
set_option linter.unusedSimpArgs false

theorem get_drop {l : List Nd} {k : Nat} (h : k < l.length) : ∃ x, l[k]? = some x ∧ l.drop k = x :: l.drop (k + 1) := by
  refine ⟨l[k], List.getElem?_eq_getElem h, ?_⟩
  exact List.drop_eq_getElem_cons h
theorem endc_cons {x : Nd} {l : List Nd} {n : Int} {m : Nat} (h : endc (x :: l) n = some m) : (cnt x n = 0 ∧ m = 1) ∨ (¬ cnt x n = 0 ∧ 2 ≤ m ∧ endc l (cnt x n) = some (m - 1)) := by
  simp only [endc] at h
  split at h
  · rename_i h0
    simp at h
    exact .inl ⟨h0, h.symm⟩
  · rename_i h0
    rw [Option.map_eq_some_iff] at h
    obtain ⟨m', h1, rfl⟩ := h
    have := endc_bd h1
    exact .inr ⟨h0, by omega, by simpa using h1⟩
/-- What the loop of end holds. -/
structure InvE (ns : List Nd) (w : World) (a m i : Nat) (q : Int) (wr : World) : Prop where
  lt : i < m
  bd : -(i : Int) ≤ q ∧ q ≤ i
  rest : endc (ns.drop (a + i)) q = some (m - i)
  low : Below w.heap.size w wr
theorem end_num {a i : Nat} : Value.int .i64 ((a : Int) + i + 1) = Value.int .i64 ((a : Int) + ((i + 1 : Nat) : Int)) := by rw [Int.natCast_add]; rfl

set_option maxHeartbeats 1000000 in
set_option maxRecDepth 100000 in
theorem end_any (A : Option Addr) (ns : List Nd) (c a m : Nat) (w : World) (hl : ns.length ≤ 9223372036854775806) (hseg : Seg w w.heap.size A (ns.flatMap ncs)) (hm : endc (ns.drop a) 0 = some m) :
    Calls Tryz.prog 28 #[.slice A ns.length c, .int .i64 (a : Int)] w fun e w' => e = .returned (.int .i64 ((a + m : Nat) : Int)) ∧ Below w.heap.size w w' := by
  have hb0 := endc_bd hm
  rw [List.length_drop] at hb0
  have hb1 : a + m ≤ ns.length := by omega
  have HM := Lib.hid hm
  have HSEG := Lib.hid hseg
  clear hseg hm hb0
  generalize hlen : ns.length = len at *
  have HL := Lib.hid hlen
  clear hlen
  go_enter Tryz.func28, Tryz.ntmps28
  go_wp2_with fail
  go_step3
  go_wp2_with fail
  go_step3
  go_wp2_with fail
  go_loopw [1, 5] (fun v n wr => ∃ (i : Nat) (q : Int), v = .int .i64 ((a : Int) + (i : Int)) ∧ n = .int .i64 q ∧ InvE ns w a m i q wr) (fun v _ _ => a + m - (intOf v).toNat)
  case atStart =>
    have h1 := endc_bd HM.out
    exact ⟨0, 0, by simp, rfl, by omega, by simp, by simpa using HM.out, Below.refl _ _⟩
  case round =>
    obtain ⟨i, q, rfl, rfl, hI⟩ := hrel
    obtain ⟨b0, b1⟩ := hI.bd
    have hi := hI.lt
    have hi2 : a + i < len := by omega
    have hi3 : 0 ≤ (a : Int) + i := by omega
    have hi4 : (a : Int) + i < len := by omega
    obtain ⟨x, hx, hd⟩ := get_drop (l := ns) (k := a + i) (by rw [HL.out]; omega)
    obtain ⟨b, off, rfl, hb, hnode⟩ := seg_node HSEG.out hx
    have hnr : NodeAt wr b (off + (a + i) * 19) x := hnode.below hI.low hb
    have hrest := hI.rest
    rw [hd] at hrest
    have HE := Lib.hid (endc_cons hrest)
    have HI := Lib.hid hI
    have htn : ((a : Int) + (i : Int)).toNat = a + i := by omega
    clear hx hd hnode hrest hI

    have hc0 : wr.cell? ⟨b, off + (a + i) * 19, none⟩ = some (.int .i64 x.kind) := hnr 0 _ rfl
    have hbw := hnr.lt
    cases hO : opensB x
    · by_cases k6 : x.kind = 6
      · have e6 : (x.kind == 6) = true := by simp [k6]
        have hcn : cnt x q = q - 1 := by simp [cnt, hO, k6]
        have HO := Lib.hid hO
        clear hO k6
        have HC := Lib.hid hcn
        clear hcn
        by_cases hz : q - 1 = 0
        · have ez : (q - 1 == 0) = true := by simp [hz]
          have HZ := Lib.hid hz
          clear hz
          go_wp2_with (first | (go_at_call 23; (with_reducible refine (opens_any _ _).mono ?_); rintro e w' ⟨rfl, rfl⟩; simp only [HO.out]) | (refine wpList_load_node rfl _ rfl _ _ rfl _ (by repeat (first | apply NodeAt.row | (apply Blk.new'; first | rfl | (simp; done)) | (apply Blk.node; apply Blk.new'; first | rfl | (simp; done)) | assumption | apply NodeAt.alloc)) ?_))
          try rw [Exit.noGoto_ret]
          go_ret
          refine ⟨ret_int ?_, andAlloc HI.out.low _⟩
          have h1 := HE.out
          rw [HC.out] at h1
          have h2 := HZ.out
          rcases h1 with ⟨_, h1⟩ | ⟨h1, _⟩
          · omega
          · exact absurd h2 h1
        · have ez : (q - 1 == 0) = false := by simp [hz]
          have HZ := Lib.hid hz
          clear hz
          go_wp2_with (first | (go_at_call 23; (with_reducible refine (opens_any _ _).mono ?_); rintro e w' ⟨rfl, rfl⟩; simp only [HO.out]) | (refine wpList_load_node rfl _ rfl _ _ rfl _ (by repeat (first | apply NodeAt.row | (apply Blk.new'; first | rfl | (simp; done)) | (apply Blk.node; apply Blk.new'; first | rfl | (simp; done)) | assumption | apply NodeAt.alloc)) ?_))
          have h1 := HE.out
          rw [HC.out] at h1
          rcases h1 with ⟨h1, _⟩ | ⟨_, h1, h2⟩
          · exact absurd h1 HZ.out
          go_roundw
          case rel => exact ⟨i + 1, q - 1, end_num, rfl, by omega, by omega, h2, andAlloc HI.out.low _⟩
          case measure => simp [intOf]; omega
      · have e6 : (x.kind == 6) = false := by simp [k6]
        have hcn : cnt x q = q := by simp [cnt, hO, k6]
        have HO := Lib.hid hO
        clear hO k6
        have HC := Lib.hid hcn
        clear hcn
        by_cases hz : q = 0
        · have ez : (q == 0) = true := by simp [hz]
          have HZ := Lib.hid hz
          clear hz
          go_wp2_with (first | (go_at_call 23; (with_reducible refine (opens_any _ _).mono ?_); rintro e w' ⟨rfl, rfl⟩; simp only [HO.out]) | (refine wpList_load_node rfl _ rfl _ _ rfl _ (by repeat (first | apply NodeAt.row | (apply Blk.new'; first | rfl | (simp; done)) | (apply Blk.node; apply Blk.new'; first | rfl | (simp; done)) | assumption | apply NodeAt.alloc)) ?_))
          try rw [Exit.noGoto_ret]
          go_ret
          refine ⟨ret_int ?_, andAlloc HI.out.low _⟩
          have h1 := HE.out
          rw [HC.out] at h1
          have h2 := HZ.out
          rcases h1 with ⟨_, h1⟩ | ⟨h1, _⟩
          · omega
          · exact absurd h2 h1
        · have ez : (q == 0) = false := by simp [hz]
          have HZ := Lib.hid hz
          clear hz
          go_wp2_with (first | (go_at_call 23; (with_reducible refine (opens_any _ _).mono ?_); rintro e w' ⟨rfl, rfl⟩; simp only [HO.out]) | (refine wpList_load_node rfl _ rfl _ _ rfl _ (by repeat (first | apply NodeAt.row | (apply Blk.new'; first | rfl | (simp; done)) | (apply Blk.node; apply Blk.new'; first | rfl | (simp; done)) | assumption | apply NodeAt.alloc)) ?_))
          have h1 := HE.out
          rw [HC.out] at h1
          rcases h1 with ⟨h1, _⟩ | ⟨_, h1, h2⟩
          · exact absurd h1 HZ.out
          go_roundw
          case rel => exact ⟨i + 1, q, end_num, rfl, by omega, by omega, h2, andAlloc HI.out.low _⟩
          case measure => simp [intOf]; omega
    · have hcn : cnt x q = q + 1 := by simp [cnt, hO]
      have HO := Lib.hid hO
      clear hO
      have HC := Lib.hid hcn
      clear hcn
      by_cases hz : q + 1 = 0
      · have ez : (q + 1 == 0) = true := by simp [hz]
        have HZ := Lib.hid hz
        clear hz
        go_wp2_with (first | (go_at_call 23; (with_reducible refine (opens_any _ _).mono ?_); rintro e w' ⟨rfl, rfl⟩; simp only [HO.out]) | (refine wpList_load_node rfl _ rfl _ _ rfl _ (by repeat (first | apply NodeAt.row | (apply Blk.new'; first | rfl | (simp; done)) | (apply Blk.node; apply Blk.new'; first | rfl | (simp; done)) | assumption | apply NodeAt.alloc)) ?_))
        try rw [Exit.noGoto_ret]
        go_ret
        refine ⟨ret_int ?_, andAlloc HI.out.low _⟩
        have h1 := HE.out
        rw [HC.out] at h1
        have h2 := HZ.out
        rcases h1 with ⟨_, h1⟩ | ⟨h1, _⟩
        · omega
        · exact absurd h2 h1
      · have ez : (q + 1 == 0) = false := by simp [hz]
        have HZ := Lib.hid hz
        clear hz
        go_wp2_with (first | (go_at_call 23; (with_reducible refine (opens_any _ _).mono ?_); rintro e w' ⟨rfl, rfl⟩; simp only [HO.out]) | (refine wpList_load_node rfl _ rfl _ _ rfl _ (by repeat (first | apply NodeAt.row | (apply Blk.new'; first | rfl | (simp; done)) | (apply Blk.node; apply Blk.new'; first | rfl | (simp; done)) | assumption | apply NodeAt.alloc)) ?_))
        have h1 := HE.out
        rw [HC.out] at h1
        rcases h1 with ⟨h1, _⟩ | ⟨_, h1, h2⟩
        · exact absurd h1 HZ.out
        go_roundw
        case rel => exact ⟨i + 1, q + 1, end_num, rfl, by omega, by omega, h2, andAlloc HI.out.low _⟩
        case measure => simp [intOf]; omega

theorem begins_any (A : Option Addr) (ns : List Nd) (c : Nat) (a : Int) (w : World) (hl : ns.length ≤ 9223372036854775807) (hseg : Seg w w.heap.size A (ns.flatMap ncs)) :
    Calls Tryz.prog 37 #[.slice A ns.length c, .int .i64 a] w fun e w' => e = .returned (.bool (begB ns a)) ∧ w = w' := by
  have HSEG := Lib.hid hseg
  clear hseg
  by_cases h0 : 0 ≤ a
  · by_cases h1 : a < (ns.length : Int)
    · obtain ⟨x, hx, _⟩ := get_drop (l := ns) (k := a.toNat) (by omega)
      obtain ⟨b, off, rfl, hb, hnode⟩ := seg_node HSEG.out hx
      have hc0 : w.cell? ⟨b, off + a.toNat * 19, none⟩ = some (.int .i64 x.kind) := hnode 0 _ rfl
      have hv : begB ns a = (x.kind != 6 && x.kind != 11) := by simp [begB, h0, hx]
      have HV := Lib.hid hv
      have d0 : decide (0 ≤ a) = true := by simpa using h0
      clear hv hx hnode
      generalize ns.length = len at *
      cases k6 : (x.kind != 6)
      · go_enter Tryz.func37, Tryz.ntmps37
        go_wp2_with fail
        all_goals (go_ret; exact ⟨ret_bool (by rw [HV.out]; simp_all), rfl⟩)
      · cases k11 : (x.kind != 11)
        · go_enter Tryz.func37, Tryz.ntmps37
          go_wp2_with fail
          all_goals (go_ret; exact ⟨ret_bool (by rw [HV.out]; simp_all), rfl⟩)
        · go_enter Tryz.func37, Tryz.ntmps37
          go_wp2_with fail
          all_goals (go_ret; exact ⟨ret_bool (by rw [HV.out]; simp_all), rfl⟩)
    · have hn : ns[a.toNat]? = none := List.getElem?_eq_none (by omega)
      have hv : begB ns a = false := by simp [begB, hn]
      have HV := Lib.hid hv
      have d0 : decide (0 ≤ a) = true := by simpa using h0
      have d1 : decide (a < (ns.length : Int)) = false := by simpa using h1
      clear hv hn
      generalize ns.length = len at *
      go_enter Tryz.func37, Tryz.ntmps37
      go_wp2_with fail
      all_goals (go_ret; exact ⟨ret_bool (by rw [HV.out]), rfl⟩)
  · have hv : begB ns a = false := by simp [begB, h0]
    have HV := Lib.hid hv
    have d0 : decide (0 ≤ a) = false := by simpa using h0
    clear hv
    generalize ns.length = len at *
    go_enter Tryz.func37, Tryz.ntmps37
    go_wp2_with fail
    all_goals (go_ret; exact ⟨ret_bool (by rw [HV.out]), rfl⟩)
theorem chk_cases (l : List Nd) : chk l = 0 ∨ chk l = 6 ∨ chk l = 50 ∨ chk l = 51 := by
  unfold chk
  split
  · simp
  · split
    · simp
    · split
      · split <;> simp
      · simp
theorem Seg.belowW {w w' : World} {A : Option Addr} {xs : List Value} (h : Seg w w.heap.size A xs) (hb : Below w.heap.size w w') : Seg w' w'.heap.size A xs := (h.below hb).more hb.size
theorem ret_ints {a b c d : Int} (h : a = c) (k : b = d) : Ending.returned (.tuple #[.int .i64 a, .int .i64 b]) = .returned (.tuple #[.int .i64 c, .int .i64 d]) := by rw [h, k]
/-- Item: where an item ends. -/
theorem item_err (A : Option Addr) (ns : List Nd) (c : Nat) (a : Int) (w : World) (hl : ns.length ≤ 9223372036854775806) (hseg : Seg w w.heap.size A (ns.flatMap ncs)) (hc : ¬ chk ns = 0) :
    Calls Tryz.prog 19 #[.slice A ns.length c, .int .i64 a] w fun e w' => e = .returned (.tuple #[.int .i64 0, .int .i64 (chk ns)]) ∧ Below w.heap.size w w' := by
  have e0 : (chk ns != 0) = true := by simp [hc]
  have HC := Lib.hid (check_any A ns c w (by omega) hseg)
  have HX := Lib.hid hc
  clear hseg hc
  generalize chk ns = v at *
  generalize ns.length = len at *
  go_enter Tryz.func19, Tryz.ntmps19
  go_wp2_with fail
  refine HC.out.mono ?_
  rintro e w1 ⟨rfl, hb1⟩
  go_wp2_with fail
  go_ret2
  exact ⟨rfl, hb1⟩
theorem item_none (A : Option Addr) (ns : List Nd) (c : Nat) (a : Int) (w : World) (hl : ns.length ≤ 9223372036854775806) (hseg : Seg w w.heap.size A (ns.flatMap ncs)) (hc : chk ns = 0) (hb : begB ns a = false) :
    Calls Tryz.prog 19 #[.slice A ns.length c, .int .i64 a] w fun e w' => e = .returned (.tuple #[.int .i64 0, .int .i64 3]) ∧ Below w.heap.size w w' := by
  have HC := Lib.hid (check_any A ns c w (by omega) hseg)
  have HS := Lib.hid hseg
  have HB := Lib.hid hb
  have HE := Lib.hid hc
  have HBG := Lib.hid fun w1 (h : Below w.heap.size w w1) => begins_any A ns c a w1 (by omega) (Seg.belowW hseg h)
  clear hseg hc hb
  rw [HE.out] at HC
  rw [HB.out] at HBG
  generalize ns.length = len at *
  go_enter Tryz.func19, Tryz.ntmps19
  go_wp2_with fail
  refine HC.out.mono ?_
  rintro e w1 ⟨rfl, hb1⟩
  go_wp2_with fail
  refine (HBG.out w1 hb1).mono ?_
  rintro e w' ⟨rfl, rfl⟩
  go_wp2_with fail
  go_ret2
  exact ⟨rfl, hb1⟩
theorem item_ok (A : Option Addr) (ns : List Nd) (c : Nat) (a m : Nat) (w : World) (hl : ns.length ≤ 9223372036854775806) (hseg : Seg w w.heap.size A (ns.flatMap ncs)) (hc : chk ns = 0) (hb : begB ns a = true) (hm : endc (ns.drop a) 0 = some m) :
    Calls Tryz.prog 19 #[.slice A ns.length c, .int .i64 (a : Int)] w fun e w' => e = .returned (.tuple #[.int .i64 ((a + m : Nat) : Int), .int .i64 0]) ∧ Below w.heap.size w w' := by
  have HC := Lib.hid (check_any A ns c w (by omega) hseg)
  have HB := Lib.hid hb
  have HE := Lib.hid hc
  have HBG := Lib.hid fun w1 (h : Below w.heap.size w w1) => begins_any A ns c a w1 (by omega) (Seg.belowW hseg h)
  have HEN := Lib.hid fun w1 (h : Below w.heap.size w w1) => end_any A ns c a m w1 (by omega) (Seg.belowW hseg h) hm
  clear hseg hc hb hm
  rw [HE.out] at HC
  rw [HB.out] at HBG
  generalize ns.length = len at *
  generalize ((a + m : Nat) : Int) = v at *
  generalize (a : Int) = a' at *
  go_enter Tryz.func19, Tryz.ntmps19
  go_wp2_with fail
  refine HC.out.mono ?_
  rintro e w1 ⟨rfl, hb1⟩
  go_wp2_with fail
  refine (HBG.out w1 hb1).mono ?_
  rintro e w' ⟨rfl, rfl⟩
  go_wp2_with fail
  refine (HEN.out w1 hb1).mono ?_
  rintro e w2 ⟨rfl, hb2⟩
  go_wp2_with fail
  go_ret2
  exact ⟨rfl, andThen hb1 hb2⟩

end Go.Proofs.YtmcekdjhkjhcdaaGreatDoor.No

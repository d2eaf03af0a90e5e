import Derived.Test.YtmcekdjhkjhcdaaGreatDoorNodeE
import Derived.Test.YtmcekdjhkjhcdaaGreatDoorNq
/- The contract of Check: is it a list of nodes? (printed by gen_nodeck.py) Conditions: those that each theorem names. -/
namespace Go.Proofs.YtmcekdjhkjhcdaaGreatDoor.No
open Go.ChangeShapes Go.WideShapes Go.ChangeAt Go.RowKit
open Me Np
set_option linter.unusedVariables false
set_option linter.unusedSimpArgs false
/-- A whole node out of memory, behind a guard that says yes. -/
theorem wpList_load_nodeG {ops : Array Oper} {rest : List Oper} {o : Oper} {a : Act} {w : World} {Q : Exit → Act → World → Prop} (hw : Region.wanted o (yielded ops a.tmps) = true) (x : Operand) (ho : o.op = .load 36 x)
    (b q : Nat) (hx : a.eval x = .pointer (some ⟨b, q, none⟩)) (n : Nd) (hn : NodeAt w b q n)
    (h : wpList Tryz.prog ops Q rest (a.put o.dst (.agg (nc n))) w) : wpList Tryz.prog ops Q (o :: rest) a w :=
  BigFrame.wpList_want hw fun K hK => by
    unfold Oper.wp execOp
    simp only [ho, hx, Instr.loadAt, Instr.sureAddr, Sem.run_bind, Sem.run_pure, Result.andThen_ok, run_loadNode w b q n hn]
    exact hK _ _ h
theorem ret_int {k : IntKind} {a b : Int} (h : a = b) : Ending.returned (.int k a) = .returned (.int k b) := by rw [h]

theorem info_int : (Tryz.prog.info? 3).map (fun i => (i.zero, i.size, i.bytes)) = some (some (.int .i64 0), 1, 8) := by kernel_rfl
set_option maxHeartbeats 4000000 in
set_option maxRecDepth 100000 in
theorem check_any (A : Option Addr) (ns : List Nd) (c : Nat) (w : World) (hl : ns.length ≤ 9223372036854775807) (hseg : Seg w w.heap.size A (ns.flatMap ncs)) :
    Calls Tryz.prog 11 #[.slice A ns.length c] w fun e w' => e = .returned (.int .i64 (chk ns)) ∧ Below w.heap.size w w' := by
  have HSEG := Lib.hid hseg
  clear hseg
  generalize hlen : ns.length = len at *
  have HL := Lib.hid hlen
  clear hlen
  by_cases hbig : 2000 < len
  · go_enter Tryz.func11, Tryz.ntmps11
    go_wp2_with fail
    go_ret
    exact ⟨ret_int (by unfold chk; rw [HL.out, if_pos hbig]), Below.refl _ _⟩
  · go_enter Tryz.func11, Tryz.ntmps11
    go_wp2_with fail
    refine (kinds_any _).mono ?_
    rintro e w1 ⟨rfl, hq, hz1, hb1⟩
    have HQ := Lib.hid hq
    have HZ1 := Lib.hid hz1
    clear hq hz1
    go_wp2_with (first | (refine wpList_store_row rfl 62 _ _ rfl w1.heap.size (ktab (w.heap.size + 1)) rfl rfl 62 Tryz.zeroCells62 (Blk.new' rfl) (by rw [ktab_size]; exact kinds_info) (by rw [ktab_size]; exact zero_size) (ktab_one _) ?_))
    rw [HZ1.out]
    go_loopw [4, 5, 16] (fun v d i wr => ∃ (k : Nat) (st : List Int) (dp : Int), k ≤ len ∧ i = .int .i64 k ∧ d = .int .i64 dp ∧ InvC ns w k st dp v wr) (fun _ _ i _ => len - (intOf i).toNat)
    case atStart =>
      refine ⟨0, [], 0, by omega, rfl, rfl, rfl, World.ownsRow_nil _ _ _ _, ?_, ?_, ?_, ?_⟩
      · exact Blk.new' HZ1.out.symm
      · exact (World.cell?_alloc_past (w := w1) _ _ _ (by rw [HZ1.out]; omega)).trans HQ.out
      · exact andAlloc hb1 _
      · have := HZ1.out
        simp
        omega
    case round =>
      obtain ⟨k, st, dp, hk, rfl, rfl, hI⟩ := hrel
      have hbd := run_bd (k := 0) hI.run (by simp) (by simp) (by simp)
      have hel := run_el hI.run (by intro x hx; cases hx)
      have hlk : (ns.take k).length ≤ k := List.length_take_le _ _
      simp only at hbd hel
      have hst : st.length ≤ 2000 := by omega
      have hd0 : 0 ≤ dp := hbd.2.1
      have hd1 : dp ≤ 2000 := by omega
      have HEL := Lib.hid hel
      clear hbd hlk hel
      have HI := Lib.hid hI
      clear hI
      by_cases hlt : k < len
      · obtain ⟨n, hn⟩ : ∃ n, ns[k]? = some n := ⟨_, List.getElem?_eq_getElem (by rw [HL.out]; exact hlt)⟩
        obtain ⟨b, off, rfl, hb, hnode⟩ := seg_node HSEG.out hn
        have hnr : NodeAt wr b (off + k * 19) n := hnode.below HI.out.low hb
        have HN := Lib.hid hn
        clear hn hnode
        go_wp2_with (first | (refine wpList_load_node rfl _ rfl _ _ rfl _ (by repeat (first | apply NodeAt.row | (apply Blk.new'; first | rfl | (simp; done)) | (apply Blk.node; apply Blk.new'; first | rfl | (simp; done)) | assumption | apply NodeAt.alloc)) ?_) | (refine wpList_alloc_node rfl rfl ?_) | (refine wpList_store_node rfl _ _ rfl _ _ _ rfl rfl _ (by repeat (first | (apply Blk.new'; first | rfl | (simp; done)) | assumption | apply Blk.alloc)) ?_))
        refine (right_any n (w.heap.size + 2) (w.heap.size + 1) _ (HI.out.alloc _).tab (HI.out.alloc _).chr).mono ?_
        rintro e w9 ⟨rfl, hb9⟩
        have HI9 := Lib.hid ((HI.out.alloc _).below hb9)
        have hn9 : NodeAt w9 wr.heap.size 0 n := NodeAt.below (Blk.node (Blk.new' rfl)) hb9 (by simp)
        have hz9 : wr.heap.size < w9.heap.size := hn9.lt
        have hc9 : w9.cell? ⟨wr.heap.size, 0, none⟩ = some (.int .i64 n.kind) := hn9 0 _ rfl
        clear hb9 hnr
        cases hR : right n
        · have HR := Lib.hid hR
          clear hR
          go_wp2_with fail
          go_ret
          exact ⟨ret_int (chk_none (by rw [HL.out]; omega) HI.out.run HN.out (by simp [stp, HR.out])).symm, HI9.out.low⟩
        · have HR := Lib.hid hR
          clear hR
          by_cases k6 : n.kind = 6
          · have e6 : (n.kind == 6) = true := by simp [k6]
            have K6 := Lib.hid k6
            clear k6
            cases st with
            | nil =>
              obtain ⟨A', c', rfl, hc'⟩ := HI9.out.nilOpen
              go_wp2_with fail
              go_ret; exact ⟨ret_int (chk_none (by rw [HL.out]; omega) HI.out.run HN.out (by simp [stp, HR.out, K6.out])).symm, HI9.out.low⟩
            | cons t r =>
              obtain ⟨g, c', rfl, hc1, hc2, hg, hg3⟩ := HI9.out.top
              obtain ⟨ct, fz⟩ := HI9.out.topCell
              simp only [List.length_cons] at hst
              by_cases ht : 0 < t
              · go_wp2_with fail
                go_ret; exact ⟨ret_int (chk_none (by rw [HL.out]; omega) HI.out.run HN.out (by simp [stp, HR.out, K6.out, ht])).symm, HI9.out.low⟩
              · go_wp2_with fail
                go_roundw
                case rel => exact ⟨k + 1, r, dp, by omega, by go_num, rfl, HI9.out.grown (grown_of_below (Below.refl _ _) _) (run_take HI.out.run HN.out (by simp [stp, HR.out, K6.out, ht])) (by simpa using own_shrink HI9.out.own (m := r.length) (by simp))⟩
                case measure => simp [intOf]; omega
          · have e6 : (n.kind == 6) = false := by simp [k6]
            have K6 := Lib.hid k6
            clear k6
            by_cases k11 : n.kind = 11
            · have e11 : (n.kind == 11) = true := by simp [k11]
              have K11 := Lib.hid k11
              clear k11
              cases st with
              | nil =>
                obtain ⟨A', c', rfl, hc'⟩ := HI9.out.nilOpen
                go_wp2_with fail
                go_ret; exact ⟨ret_int (chk_none (by rw [HL.out]; omega) HI.out.run HN.out (by simp [stp, HR.out, K11.out])).symm, HI9.out.low⟩
              | cons t r =>
                obtain ⟨g, c', rfl, hc1, hc2, hg, hg3⟩ := HI9.out.top
                obtain ⟨ct, fz⟩ := HI9.out.topCell
                simp only [List.length_cons] at hst
                have ht2 : t ≤ 2 := (HEL.out t (by simp)).2
                by_cases ht : t < 1
                · go_wp2_with fail
                  go_ret; exact ⟨ret_int (chk_none (by rw [HL.out]; omega) HI.out.run HN.out (by simp [stp, HR.out, K11.out, ht])).symm, HI9.out.low⟩
                · have ht1 : 1 ≤ t := by omega
                  go_wp2_with fail
                  go_roundw
                  case rel =>
                    obtain ⟨o1, o2⟩ := World.ownsRow.stored HI9.out.own r.length (.int .i64 (t - 1))
                    exact ⟨k + 1, (t - 1) :: r, dp, by omega, by go_num, rfl, HI9.out.grown o2 (run_take HI.out.run HN.out (by simp [stp, HR.out, K11.out, ht])) (by simpa [List.set_append] using o1)⟩
                  case measure => simp [intOf]; omega
            · have e11 : (n.kind == 11) = false := by simp [k11]
              have K11 := Lib.hid k11
              clear k11
              cases st with
            | nil =>
              obtain ⟨A', c', rfl, hc'⟩ := HI9.out.nilOpen
              have hbk : Np.blocked [] n = false := rfl
              have HB := Lib.hid hbk
              clear hbk
              cases hO : opensB n
              · have HO := Lib.hid hO
                clear hO
                go_wp2_with (first | (go_at_call 23; (with_reducible refine (opens_any _ _).mono ?_); rintro e w' ⟨rfl, rfl⟩; simp only [HO.out]) | (refine wpList_load_node rfl _ rfl _ _ rfl _ (by repeat (first | apply NodeAt.row | (apply Blk.new'; first | rfl | (simp; done)) | (apply Blk.node; apply Blk.new'; first | rfl | (simp; done)) | assumption | apply NodeAt.alloc)) ?_) | (refine wpList_load_nodeG rfl _ rfl _ _ rfl _ (by assumption) ?_))
                go_roundw
                case rel => exact ⟨k + 1, [], max dp (([] : List Int).length + 1), by omega, by go_num, congrArg (Value.int .i64) (by simp only [List.length_cons, List.length_nil]; split <;> omega), (HI9.out.alloc _).grown (grown_of_below (Below.refl _ _) _) (run_take HI.out.run HN.out (by rw [stp_other HR.out K6.out K11.out HB.out]; simp [HO.out])) (HI9.out.alloc _).own⟩
                case measure => simp [intOf]; omega
              · have HO := Lib.hid hO
                clear hO
                by_cases k10 : n.kind = 10
                · have e10 : (n.kind == 10) = true := by simp [k10]
                  have K10 := Lib.hid k10
                  clear k10
                  go_wp2_with (first | (go_at_call 23; (with_reducible refine (opens_any _ _).mono ?_); rintro e w' ⟨rfl, rfl⟩; simp only [HO.out]) | (refine wpList_load_node rfl _ rfl _ _ rfl _ (by repeat (first | apply NodeAt.row | (apply Blk.new'; first | rfl | (simp; done)) | (apply Blk.node; apply Blk.new'; first | rfl | (simp; done)) | assumption | apply NodeAt.alloc)) ?_) | (refine wpList_load_nodeG rfl _ rfl _ _ rfl _ (by assumption) ?_) | (at_builtin; refine wpList_push rfl _ _ 64 rfl (w.heap.size + 3) 3 _ 1 8 Tryz.underlying64 info_int rfl (by decide) (by decide) _ _ _ rfl (HI9.out.alloc _).own (HI9.out.alloc _).size _ rfl rfl rfl (by simp) (by first | omega | (simp only [List.length_cons]; omega)) ?_; intro v6 w6 hown6 hg6 hnn6))
                  go_roundw
                  case rel => exact ⟨k + 1, (2) :: [], max dp (([] : List Int).length + 1), by omega, by go_num, congrArg (Value.int .i64) (by simp only [List.length_cons, List.length_nil]; split <;> omega), ((HI9.out.alloc _).alloc _).grown hg6 (run_take HI.out.run HN.out (by rw [stp_other HR.out K6.out K11.out HB.out]; simp [HO.out, K10.out])) (by simpa using hown6)⟩
                  case measure => simp [intOf]; omega
                · have e10 : (n.kind == 10) = false := by simp [k10]
                  have K10 := Lib.hid k10
                  clear k10
                  go_wp2_with (first | (go_at_call 23; (with_reducible refine (opens_any _ _).mono ?_); rintro e w' ⟨rfl, rfl⟩; simp only [HO.out]) | (refine wpList_load_node rfl _ rfl _ _ rfl _ (by repeat (first | apply NodeAt.row | (apply Blk.new'; first | rfl | (simp; done)) | (apply Blk.node; apply Blk.new'; first | rfl | (simp; done)) | assumption | apply NodeAt.alloc)) ?_) | (refine wpList_load_nodeG rfl _ rfl _ _ rfl _ (by assumption) ?_) | (at_builtin; refine wpList_push rfl _ _ 64 rfl (w.heap.size + 3) 3 _ 1 8 Tryz.underlying64 info_int rfl (by decide) (by decide) _ _ _ rfl (HI9.out.alloc _).own (HI9.out.alloc _).size _ rfl rfl rfl (by simp) (by first | omega | (simp only [List.length_cons]; omega)) ?_; intro v6 w6 hown6 hg6 hnn6))
                  go_roundw
                  case rel => exact ⟨k + 1, (-1) :: [], max dp (([] : List Int).length + 1), by omega, by go_num, congrArg (Value.int .i64) (by simp only [List.length_cons, List.length_nil]; split <;> omega), ((HI9.out.alloc _).alloc _).grown hg6 (run_take HI.out.run HN.out (by rw [stp_other HR.out K6.out K11.out HB.out]; simp [HO.out, K10.out])) (by simpa using hown6)⟩
                  case measure => simp [intOf]; omega
            | cons t r =>
              obtain ⟨g, c', rfl, hc1, hc2, hg, hg3⟩ := HI9.out.top
              obtain ⟨ct, fz⟩ := HI9.out.topCell
              simp only [List.length_cons] at hst
              by_cases h0 : 0 ≤ t
              · have d0 : decide (0 ≤ t) = true := by simpa using h0
                cases hS : smallB n
                · have hbk : Np.blocked (t :: r) n = true := by simp [Np.blocked, h0, hS]
                  have HB := Lib.hid hbk
                  have HS := Lib.hid hS
                  clear hbk hS
                  go_wp2_with (first | (go_at_call 22; (with_reducible refine (small_any _ _).mono ?_); rintro e w' ⟨rfl, rfl⟩; simp only [HS.out]) | (refine wpList_load_node rfl _ rfl _ _ rfl _ (by repeat (first | apply NodeAt.row | (apply Blk.new'; first | rfl | (simp; done)) | (apply Blk.node; apply Blk.new'; first | rfl | (simp; done)) | assumption | apply NodeAt.alloc)) ?_) | (refine wpList_load_nodeG rfl _ rfl _ _ rfl _ (by assumption) ?_))
                  go_ret; exact ⟨ret_int (chk_none (by rw [HL.out]; omega) HI.out.run HN.out (stp_blocked HR.out K6.out K11.out HB.out)).symm, (HI9.out.alloc _).low⟩
                · have hbk : Np.blocked (t :: r) n = false := by simp [Np.blocked, hS]
                  have HB := Lib.hid hbk
                  have HS := Lib.hid hS
                  clear hbk hS
                  cases hO : opensB n
                  · have HO := Lib.hid hO
                    clear hO
                    go_wp2_with (first | (go_at_call 22; (with_reducible refine (small_any _ _).mono ?_); rintro e w' ⟨rfl, rfl⟩; simp only [HS.out]) | (go_at_call 23; (with_reducible refine (opens_any _ _).mono ?_); rintro e w' ⟨rfl, rfl⟩; simp only [HO.out]) | (refine wpList_load_node rfl _ rfl _ _ rfl _ (by repeat (first | apply NodeAt.row | (apply Blk.new'; first | rfl | (simp; done)) | (apply Blk.node; apply Blk.new'; first | rfl | (simp; done)) | assumption | apply NodeAt.alloc)) ?_) | (refine wpList_load_nodeG rfl _ rfl _ _ rfl _ (by assumption) ?_))
                    go_roundw
                    case rel => exact ⟨k + 1, (t :: r), max dp (((t :: r) : List Int).length + 1), by omega, by go_num, congrArg (Value.int .i64) (by simp only [List.length_cons, List.length_nil]; split <;> omega), ((HI9.out.alloc _).alloc _).grown (grown_of_below (Below.refl _ _) _) (run_take HI.out.run HN.out (by rw [stp_other HR.out K6.out K11.out HB.out]; simp [HO.out])) ((HI9.out.alloc _).alloc _).own⟩
                    case measure => simp [intOf]; omega
                  · have HO := Lib.hid hO
                    clear hO
                    by_cases k10 : n.kind = 10
                    · have e10 : (n.kind == 10) = true := by simp [k10]
                      have K10 := Lib.hid k10
                      clear k10
                      go_wp2_with (first | (go_at_call 22; (with_reducible refine (small_any _ _).mono ?_); rintro e w' ⟨rfl, rfl⟩; simp only [HS.out]) | (go_at_call 23; (with_reducible refine (opens_any _ _).mono ?_); rintro e w' ⟨rfl, rfl⟩; simp only [HO.out]) | (refine wpList_load_node rfl _ rfl _ _ rfl _ (by repeat (first | apply NodeAt.row | (apply Blk.new'; first | rfl | (simp; done)) | (apply Blk.node; apply Blk.new'; first | rfl | (simp; done)) | assumption | apply NodeAt.alloc)) ?_) | (refine wpList_load_nodeG rfl _ rfl _ _ rfl _ (by assumption) ?_) | (at_builtin; refine wpList_push rfl _ _ 64 rfl (w.heap.size + 3) 3 _ 1 8 Tryz.underlying64 info_int rfl (by decide) (by decide) _ _ _ rfl ((HI9.out.alloc _).alloc _).own ((HI9.out.alloc _).alloc _).size _ rfl rfl rfl (by simp) (by first | omega | (simp only [List.length_cons]; omega)) ?_; intro v6 w6 hown6 hg6 hnn6))
                      go_roundw
                      case rel => exact ⟨k + 1, (2) :: (t :: r), max dp (((t :: r) : List Int).length + 1), by omega, by go_num, congrArg (Value.int .i64) (by simp only [List.length_cons, List.length_nil]; split <;> omega), (((HI9.out.alloc _).alloc _).alloc _).grown hg6 (run_take HI.out.run HN.out (by rw [stp_other HR.out K6.out K11.out HB.out]; simp [HO.out, K10.out])) (by simpa using hown6)⟩
                      case measure => simp [intOf]; omega
                    · have e10 : (n.kind == 10) = false := by simp [k10]
                      have K10 := Lib.hid k10
                      clear k10
                      go_wp2_with (first | (go_at_call 22; (with_reducible refine (small_any _ _).mono ?_); rintro e w' ⟨rfl, rfl⟩; simp only [HS.out]) | (go_at_call 23; (with_reducible refine (opens_any _ _).mono ?_); rintro e w' ⟨rfl, rfl⟩; simp only [HO.out]) | (refine wpList_load_node rfl _ rfl _ _ rfl _ (by repeat (first | apply NodeAt.row | (apply Blk.new'; first | rfl | (simp; done)) | (apply Blk.node; apply Blk.new'; first | rfl | (simp; done)) | assumption | apply NodeAt.alloc)) ?_) | (refine wpList_load_nodeG rfl _ rfl _ _ rfl _ (by assumption) ?_) | (at_builtin; refine wpList_push rfl _ _ 64 rfl (w.heap.size + 3) 3 _ 1 8 Tryz.underlying64 info_int rfl (by decide) (by decide) _ _ _ rfl ((HI9.out.alloc _).alloc _).own ((HI9.out.alloc _).alloc _).size _ rfl rfl rfl (by simp) (by first | omega | (simp only [List.length_cons]; omega)) ?_; intro v6 w6 hown6 hg6 hnn6))
                      go_roundw
                      case rel => exact ⟨k + 1, (-1) :: (t :: r), max dp (((t :: r) : List Int).length + 1), by omega, by go_num, congrArg (Value.int .i64) (by simp only [List.length_cons, List.length_nil]; split <;> omega), (((HI9.out.alloc _).alloc _).alloc _).grown hg6 (run_take HI.out.run HN.out (by rw [stp_other HR.out K6.out K11.out HB.out]; simp [HO.out, K10.out])) (by simpa using hown6)⟩
                      case measure => simp [intOf]; omega
              · have d0 : decide (0 ≤ t) = false := by simpa using h0
                have hbk : Np.blocked (t :: r) n = false := by simp [Np.blocked, h0]
                have HB := Lib.hid hbk
                clear hbk
                cases hO : opensB n
                · have HO := Lib.hid hO
                  clear hO
                  go_wp2_with (first | (go_at_call 23; (with_reducible refine (opens_any _ _).mono ?_); rintro e w' ⟨rfl, rfl⟩; simp only [HO.out]) | (refine wpList_load_node rfl _ rfl _ _ rfl _ (by repeat (first | apply NodeAt.row | (apply Blk.new'; first | rfl | (simp; done)) | (apply Blk.node; apply Blk.new'; first | rfl | (simp; done)) | assumption | apply NodeAt.alloc)) ?_) | (refine wpList_load_nodeG rfl _ rfl _ _ rfl _ (by assumption) ?_))
                  go_roundw
                  case rel => exact ⟨k + 1, (t :: r), max dp (((t :: r) : List Int).length + 1), by omega, by go_num, congrArg (Value.int .i64) (by simp only [List.length_cons, List.length_nil]; split <;> omega), (HI9.out.alloc _).grown (grown_of_below (Below.refl _ _) _) (run_take HI.out.run HN.out (by rw [stp_other HR.out K6.out K11.out HB.out]; simp [HO.out])) (HI9.out.alloc _).own⟩
                  case measure => simp [intOf]; omega
                · have HO := Lib.hid hO
                  clear hO
                  by_cases k10 : n.kind = 10
                  · have e10 : (n.kind == 10) = true := by simp [k10]
                    have K10 := Lib.hid k10
                    clear k10
                    go_wp2_with (first | (go_at_call 23; (with_reducible refine (opens_any _ _).mono ?_); rintro e w' ⟨rfl, rfl⟩; simp only [HO.out]) | (refine wpList_load_node rfl _ rfl _ _ rfl _ (by repeat (first | apply NodeAt.row | (apply Blk.new'; first | rfl | (simp; done)) | (apply Blk.node; apply Blk.new'; first | rfl | (simp; done)) | assumption | apply NodeAt.alloc)) ?_) | (refine wpList_load_nodeG rfl _ rfl _ _ rfl _ (by assumption) ?_) | (at_builtin; refine wpList_push rfl _ _ 64 rfl (w.heap.size + 3) 3 _ 1 8 Tryz.underlying64 info_int rfl (by decide) (by decide) _ _ _ rfl (HI9.out.alloc _).own (HI9.out.alloc _).size _ rfl rfl rfl (by simp) (by first | omega | (simp only [List.length_cons]; omega)) ?_; intro v6 w6 hown6 hg6 hnn6))
                    go_roundw
                    case rel => exact ⟨k + 1, (2) :: (t :: r), max dp (((t :: r) : List Int).length + 1), by omega, by go_num, congrArg (Value.int .i64) (by simp only [List.length_cons, List.length_nil]; split <;> omega), ((HI9.out.alloc _).alloc _).grown hg6 (run_take HI.out.run HN.out (by rw [stp_other HR.out K6.out K11.out HB.out]; simp [HO.out, K10.out])) (by simpa using hown6)⟩
                    case measure => simp [intOf]; omega
                  · have e10 : (n.kind == 10) = false := by simp [k10]
                    have K10 := Lib.hid k10
                    clear k10
                    go_wp2_with (first | (go_at_call 23; (with_reducible refine (opens_any _ _).mono ?_); rintro e w' ⟨rfl, rfl⟩; simp only [HO.out]) | (refine wpList_load_node rfl _ rfl _ _ rfl _ (by repeat (first | apply NodeAt.row | (apply Blk.new'; first | rfl | (simp; done)) | (apply Blk.node; apply Blk.new'; first | rfl | (simp; done)) | assumption | apply NodeAt.alloc)) ?_) | (refine wpList_load_nodeG rfl _ rfl _ _ rfl _ (by assumption) ?_) | (at_builtin; refine wpList_push rfl _ _ 64 rfl (w.heap.size + 3) 3 _ 1 8 Tryz.underlying64 info_int rfl (by decide) (by decide) _ _ _ rfl (HI9.out.alloc _).own (HI9.out.alloc _).size _ rfl rfl rfl (by simp) (by first | omega | (simp only [List.length_cons]; omega)) ?_; intro v6 w6 hown6 hg6 hnn6))
                    go_roundw
                    case rel => exact ⟨k + 1, (-1) :: (t :: r), max dp (((t :: r) : List Int).length + 1), by omega, by go_num, congrArg (Value.int .i64) (by simp only [List.length_cons, List.length_nil]; split <;> omega), ((HI9.out.alloc _).alloc _).grown hg6 (run_take HI.out.run HN.out (by rw [stp_other HR.out K6.out K11.out HB.out]; simp [HO.out, K10.out])) (by simpa using hown6)⟩
                    case measure => simp [intOf]; omega
      · obtain rfl : k = len := by omega
        have hrun := HI.out.run
        rw [List.take_of_length_le (by rw [HL.out]; exact Nat.le_refl _)] at hrun
        have hch := chk_end (by rw [HL.out]; omega) hrun
        have HCH := Lib.hid hch
        have hlow := HI.out.low
        clear hrun hch
        cases st with
        | nil =>
          obtain ⟨A', c', rfl, hc'⟩ := HI.out.nilOpen
          by_cases h40 : 40 < dp
          · go_wp2_with fail
            go_ret
            exact ⟨ret_int (by rw [HCH.out]; simp [h40]), hlow⟩
          · go_wp2_with fail
            go_ret
            exact ⟨ret_int (by rw [HCH.out]; simp [h40]), hlow⟩
        | cons t r =>
          obtain ⟨g, c', rfl, hc1, hc2, hg, hg3⟩ := HI.out.top
          simp only [List.length_cons] at hst
          go_wp2_with fail
          go_ret
          exact ⟨ret_int (by rw [HCH.out, if_neg (by simp)]), hlow⟩
end Go.Proofs.YtmcekdjhkjhcdaaGreatDoor.No

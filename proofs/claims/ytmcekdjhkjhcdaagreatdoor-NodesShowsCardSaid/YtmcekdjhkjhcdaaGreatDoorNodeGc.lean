import Derived.Test.YtmcekdjhkjhcdaaGreatDoorNodeGg
import Derived.Test.YtmcekdjhkjhcdaaGreatDoorNodeRo
/- The contract of the document's Check of a list of nodes (printed by gen_nodegc.py). Conditions: those that each theorem names. -/
namespace Go.Proofs.YtmcekdjhkjhcdaaGreatDoor.No
open Go.ChangeShapes Go.WideShapes Go.ChangeAt Go.RowKit
open Me Np
set_option linter.unusedVariables false
set_option linter.unusedSimpArgs false

/-- What is open, as the document keeps it: a Disc, and how many Seps came. -/
def rc (t : Int) : List Value := [.bool (decide (0 ≤ t)), .int .i64 (if 0 ≤ t then 2 - t else 0)]
def rcs (st : List Int) : List Value := st.reverse.flatMap rc
theorem rcs_cons (t : Int) (r : List Int) : rcs (t :: r) = rcs r ++ rc t := by simp [rcs]
theorem rcs_length : ∀ st : List Int, (rcs st).length = st.length * 2
  | [] => rfl
  | t :: r => by
    rw [rcs_cons, List.length_append, rcs_length r, List.length_cons]
    simp [rc]
    omega
theorem own_shrink2 {w : World} {base : Nat} {e : TypeId} {g n c m : Nat} {xs : List Value} (h : w.ownsRow base e 2 (.slice (some ⟨g, 0, none⟩) n c) n xs) (hm : m ≤ n) : w.ownsRow base e 2 (.slice (some ⟨g, 0, none⟩) m c) m (xs.take (m * 2)) := by
  have hl := h.1
  rcases h.2 with ⟨h', _⟩ | ⟨g', cap', cur, h', hb, hg, hnc, hcm, hcs, htake⟩
  · simp at h'
  · simp only [Value.slice.injEq, Option.some.injEq, Addr.mk.injEq, and_true, true_and] at h'
    obtain ⟨rfl, rfl⟩ := h'
    refine ⟨by rw [List.length_take]; omega, .inr ⟨g, c, cur, rfl, hb, hg, by omega, hcm, hcs, ?_⟩⟩
    rw [← htake, List.take_take]
    congr 1
    omega
/-- What the loop of the document's Check holds. -/
structure InvR (ns : List Nd) (w : World) (k : Nat) (st : List Int) (d : Int) (v : Value) (wr : World) : Prop where
  run : Np.run (ns.take k) ([], 0) = some (st, d)
  own : wr.ownsRow w.heap.size 81 2 v st.length (rcs st)
  low : Below w.heap.size w wr
theorem InvR.size {ns : List Nd} {w : World} {k : Nat} {st : List Int} {d : Int} {v : Value} {wr : World} (h : InvR ns w k st d v wr) : w.heap.size ≤ wr.heap.size := h.low.size
theorem InvR.grown {ns : List Nd} {w : World} {k : Nat} {st : List Int} {d : Int} {v : Value} {wr w' : World} {k' : Nat} {st' : List Int} {d' : Int} {v' : Value} (h : InvR ns w k st d v wr) (hg : wr.grownBy w' v.ownBlock)
    (hr : Np.run (ns.take k') ([], 0) = some (st', d')) (ho : w'.ownsRow w.heap.size 81 2 v' st'.length (rcs st')) : InvR ns w k' st' d' v' w' :=
  ⟨hr, ho, below_grown (Nat.le_refl _) h.low hg (fun k hk => by have := h.own.lt k hk; omega)⟩
theorem InvR.below {ns : List Nd} {w : World} {k : Nat} {st : List Int} {d : Int} {v : Value} {wr w' : World} (h : InvR ns w k st d v wr) (hb : Below wr.heap.size wr w') : InvR ns w k st d v w' :=
  h.grown (grown_of_below hb _) h.run (own_below h.own hb)
theorem InvR.alloc {ns : List Nd} {w : World} {k : Nat} {st : List Int} {d : Int} {v : Value} {wr : World} (h : InvR ns w k st d v wr) (o : Obj) : InvR ns w k st d v (wr.alloc o) := h.below (andAlloc (Below.refl _ _) o)
theorem InvR.top {ns : List Nd} {w : World} {k : Nat} {t : Int} {r : List Int} {d : Int} {v : Value} {wr : World} (h : InvR ns w k (t :: r) d v wr) :
    ∃ g c : Nat, v = .slice (some ⟨g, 0, none⟩) (r.length + 1) c ∧ r.length + 1 ≤ c ∧ c ≤ maxLen ∧ g < wr.heap.size ∧ w.heap.size ≤ g := by
  have ho := h.own
  rcases ho.2 with ⟨_, h'⟩ | ⟨g, c, cur, rfl, hb, hg, hnc, hcm, hcs, htake⟩
  · simp at h'
  · exact ⟨g, c, rfl, hnc, hcm, (Array.getElem?_eq_some_iff.1 hg).1, hb⟩
theorem InvR.topCell {ns : List Nd} {w : World} {k : Nat} {t : Int} {r : List Int} {d : Int} {g c : Nat} {wr : World} (h : InvR ns w k (t :: r) d (.slice (some ⟨g, 0, none⟩) (r.length + 1) c) wr) :
    wr.cell? ⟨g, r.length * 2, none⟩ = some (.bool (decide (0 ≤ t))) ∧ wr.cell? ⟨g, r.length * 2 + 1, none⟩ = some (.int .i64 (if 0 ≤ t then 2 - t else 0)) ∧ wr.frozen? ⟨g, r.length * 2 + 1, none⟩ = false := by
  have ho := h.own
  have hl := rcs_length r
  refine ⟨?_, ?_, World.ownsRow.frozenAt ho _⟩
  · rw [World.ownsRow.cellAt ho (r.length * 2) (by first | omega | (simp only [List.length_cons]; omega)), rcs_cons, List.getElem?_append_right (by omega), hl]
    simp [rc]
  · rw [World.ownsRow.cellAt ho (r.length * 2 + 1) (by first | omega | (simp only [List.length_cons]; omega)), rcs_cons, List.getElem?_append_right (by omega), hl]
    simp [rc]
theorem InvR.nilOpen {ns : List Nd} {w : World} {k : Nat} {d : Int} {v : Value} {wr : World} (h : InvR ns w k [] d v wr) : ∃ (A : Option Addr) (c : Nat), v = .slice A 0 c ∧ c ≤ maxLen := by
  rcases h.own.2 with ⟨rfl, _⟩ | ⟨g, c, cur, rfl, hb, hg, hnc, hcm, hcs, htake⟩
  · exact ⟨none, 0, rfl, by simp [maxLen]⟩
  · exact ⟨_, c, rfl, hcm⟩
theorem InvR.open_ {ns : List Nd} {w : World} {k : Nat} {st : List Int} {d : Int} {v : Value} {wr : World} (h : InvR ns w k st d v wr) : ∃ (A : Option Addr) (c : Nat), v = .slice A st.length c ∧ st.length ≤ c := by
  rcases h.own.2 with ⟨rfl, h0⟩ | ⟨g, c, cur, rfl, hb, hg, hnc, hcm, hcs, htake⟩
  · exact ⟨none, 0, by rw [h0], by omega⟩
  · exact ⟨_, c, rfl, hnc⟩
theorem rsmall_any (n : Nd) (w : World) : Calls Tryz.prog 30 #[.agg (nc n)] w fun e w' => e = .returned (.bool (smallB n)) ∧ w.alloc (.cells (nc n) 36) = w' := by
  go_enter Tryz.func30, Tryz.ntmps30
  go_wp2_with fail
  all_goals (go_ret; exact ⟨ret_bool (by simp_all [smallB]), rfl⟩)
theorem info_open : (Tryz.prog.info? 81).map (fun i => (i.zero, i.size, i.bytes)) = some (some (.agg #[.bool false, .int .i64 0]), 2, 16) := by kernel_rfl
theorem rc_new (b : Bool) : rc (if b = true then 2 else -1) = [.bool b, .int .i64 0] := by cases b <;> rfl
theorem rcs_set (t : Int) (r : List Int) (ht : 1 ≤ t) : (rcs (t :: r)).set (r.length * 2 + 1) (.int .i64 (2 - t + 1)) = rcs ((t - 1) :: r) := by
  have hl := rcs_length r
  rw [rcs_cons, rcs_cons, List.set_append_right _ _ (by omega), hl]
  congr 1
  simp only [rc, show r.length * 2 + 1 - r.length * 2 = 1 by omega]
  have h1 : 0 ≤ t := by omega
  have h2 : 0 ≤ t - 1 := by omega
  simp [h1, h2]
  omega

set_option maxHeartbeats 4000000 in
set_option maxRecDepth 100000 in
theorem rcheckl_any (A : Option Addr) (ns : List Nd) (c : Nat) (w : World) (hl : ns.length ≤ 9223372036854775807) (hseg : Seg w w.heap.size A (ns.flatMap ncs)) :
    Calls Tryz.prog 14 #[.slice A ns.length c] w fun e w' => e = .returned (.int .i64 (chk ns)) ∧ Below w.heap.size w w' := by
  have HSEG := Lib.hid hseg
  clear hseg
  generalize hlen : ns.length = len at *
  have HL := Lib.hid hlen
  clear hlen
  by_cases hbig : 2000 < len
  · go_enter Tryz.func14, Tryz.ntmps14
    go_wp2_with fail
    go_ret
    exact ⟨ret_int (by unfold chk; rw [HL.out, if_pos hbig]), Below.refl _ _⟩
  · go_enter Tryz.func14, Tryz.ntmps14
    go_wp2_with fail
    go_loopw [3, 4, 5] (fun v d i wr => ∃ (k : Nat) (st : List Int) (dp : Int), k ≤ len ∧ i = .int .i64 k ∧ d = .bool (decide (40 < dp)) ∧ InvR ns w k st dp v wr) (fun _ _ i _ => len - (intOf i).toNat)
    case atStart => exact ⟨0, [], 0, by omega, rfl, rfl, rfl, World.ownsRow_nil _ _ _ _, Below.refl _ _⟩
    case round =>
      obtain ⟨k, st, dp, hk, rfl, rfl, hI⟩ := hrel
      have hbd := run_bd (k := 0) hI.run (by simp) (by simp) (by simp)
      have hel := run_el hI.run (by intro x hx; cases hx)
      have hlk : (ns.take k).length ≤ k := List.length_take_le _ _
      simp only at hbd hel
      have hst : st.length ≤ 2000 := by omega
      have hd0 : 0 ≤ dp := hbd.2.1
      have hd1 : dp ≤ 2000 := by omega
      have HEL := Lib.hid hel
      clear hbd hlk hel
      have HI := Lib.hid hI
      clear hI
      by_cases hlt : k < len
      · obtain ⟨n, hn⟩ : ∃ n, ns[k]? = some n := ⟨_, List.getElem?_eq_getElem (by rw [HL.out]; exact hlt)⟩
        obtain ⟨b, off, rfl, hb, hnode⟩ := seg_node HSEG.out hn
        have hnr : NodeAt wr b (off + k * 19) n := hnode.below HI.out.low hb
        have HN := Lib.hid hn
        clear hn hnode
        obtain ⟨A', c', rfl, hA'⟩ := HI.out.open_
        go_wp2_with (first | (with_reducible show wpList _ _ _ (_ :: _) _ _; refine wpList_load_node rfl _ rfl _ _ rfl _ (by repeat (first | apply NodeAt.row | (apply Blk.new'; first | rfl | (simp; done)) | (apply Blk.node; apply Blk.new'; first | rfl | (simp; done)) | assumption | apply NodeAt.alloc)) ?_) | (with_reducible show wpList _ _ _ (_ :: _) _ _; refine wpList_alloc_node rfl rfl ?_) | (with_reducible show wpList _ _ _ (_ :: _) _ _; refine wpList_store_node rfl _ _ rfl _ _ _ rfl rfl _ (by repeat (first | (apply Blk.new'; first | rfl | (simp; done)) | assumption | apply Blk.alloc)) ?_))
        refine (good_any n _).mono ?_
        rintro e w9 ⟨rfl, hb9⟩
        have HI9 := Lib.hid ((HI.out.alloc _).below hb9)
        have hn9 : NodeAt w9 wr.heap.size 0 n := NodeAt.below (Blk.node (Blk.new' rfl)) hb9 (by simp)
        have hz9 : wr.heap.size < w9.heap.size := hn9.lt
        have hc9 : w9.cell? ⟨wr.heap.size, 0, none⟩ = some (.int .i64 n.kind) := hn9 0 _ rfl
        clear hb9 hnr
        cases hR : right n
        · have HR := Lib.hid hR
          clear hR
          go_wp2_with fail
          go_ret; exact ⟨ret_int (chk_none (by rw [HL.out]; omega) HI.out.run HN.out (by simp [stp, HR.out])).symm, HI9.out.low⟩
        · have HR := Lib.hid hR
          clear hR
          by_cases k6 : n.kind = 6
          · have e6 : (n.kind == 6) = true := by simp [k6]
            have K6 := Lib.hid k6
            clear k6
            cases st with
            | nil =>
              go_wp2_with fail
              go_ret; exact ⟨ret_int (chk_none (by rw [HL.out]; omega) HI.out.run HN.out (by simp [stp, HR.out, K6.out])).symm, HI9.out.low⟩
            | cons t r =>
              obtain ⟨g, c2, hv, hc1, hc2, hg, hg3⟩ := HI9.out.top
              obtain ⟨rfl, rfl⟩ : A' = some ⟨g, 0, none⟩ ∧ c' = c2 := by simp only [Value.slice.injEq] at hv; exact ⟨hv.1, hv.2.2⟩
              obtain ⟨ct0, ct1, fz⟩ := HI9.out.topCell
              simp only [List.length_cons] at hst hA' hv ⊢
              clear hv
              by_cases ht : 0 < t
              · rw [decide_eq_true (show 0 ≤ t by omega)] at ct0
                rw [if_pos (show 0 ≤ t by omega)] at ct1
                have q1 : (2 - t != 2) = true := by simp; omega
                go_wp2_with fail
                go_ret; exact ⟨ret_int (chk_none (by rw [HL.out]; omega) HI.out.run HN.out (by simp [stp, HR.out, K6.out, ht])).symm, HI9.out.low⟩
              · by_cases h0 : 0 ≤ t
                · rw [decide_eq_true h0] at ct0
                  rw [if_pos h0] at ct1
                  obtain rfl : t = 0 := by omega
                  go_wp2_with fail
                  go_roundw
                  case rel => exact ⟨k + 1, r, dp, by omega, by go_num, rfl, HI9.out.grown (grown_of_below (Below.refl _ _) _) (run_take HI.out.run HN.out (by simp [stp, HR.out, K6.out])) (by have hh := own_shrink2 HI9.out.own (m := r.length) (by simp); rw [rcs_cons, ← rcs_length r, List.take_left] at hh; exact hh)⟩
                  case measure => simp [intOf]; omega
                · rw [decide_eq_false h0] at ct0
                  rw [if_neg h0] at ct1
                  go_wp2_with fail
                  go_roundw
                  case rel => exact ⟨k + 1, r, dp, by omega, by go_num, rfl, HI9.out.grown (grown_of_below (Below.refl _ _) _) (run_take HI.out.run HN.out (by simp [stp, HR.out, K6.out, ht])) (by have hh := own_shrink2 HI9.out.own (m := r.length) (by simp); rw [rcs_cons, ← rcs_length r, List.take_left] at hh; exact hh)⟩
                  case measure => simp [intOf]; omega
          · have e6 : (n.kind == 6) = false := by simp [k6]
            have K6 := Lib.hid k6
            clear k6
            by_cases k11 : n.kind = 11
            · have e11 : (n.kind == 11) = true := by simp [k11]
              have K11 := Lib.hid k11
              clear k11
              cases st with
              | nil =>
                go_wp2_with fail
                go_ret; exact ⟨ret_int (chk_none (by rw [HL.out]; omega) HI.out.run HN.out (by simp [stp, HR.out, K11.out])).symm, HI9.out.low⟩
              | cons t r =>
                obtain ⟨g, c2, hv, hc1, hc2, hg, hg3⟩ := HI9.out.top
                obtain ⟨rfl, rfl⟩ : A' = some ⟨g, 0, none⟩ ∧ c' = c2 := by simp only [Value.slice.injEq] at hv; exact ⟨hv.1, hv.2.2⟩
                obtain ⟨ct0, ct1, fz⟩ := HI9.out.topCell
                simp only [List.length_cons] at hst hA' hv ⊢
                clear hv
                have ht2 : t ≤ 2 := (HEL.out t (by simp)).2
                by_cases ht : t < 1
                · by_cases h0 : 0 ≤ t
                  · rw [decide_eq_true h0] at ct0
                    rw [if_pos h0] at ct1
                    obtain rfl : t = 0 := by omega
                    go_wp2_with fail
                    go_ret; exact ⟨ret_int (chk_none (by rw [HL.out]; omega) HI.out.run HN.out (by simp [stp, HR.out, K11.out])).symm, HI9.out.low⟩
                  · rw [decide_eq_false h0] at ct0
                    rw [if_neg h0] at ct1
                    go_wp2_with fail
                    go_ret; exact ⟨ret_int (chk_none (by rw [HL.out]; omega) HI.out.run HN.out (by simp [stp, HR.out, K11.out, ht])).symm, HI9.out.low⟩
                · rw [decide_eq_true (show 0 ≤ t by omega)] at ct0
                  rw [if_pos (show 0 ≤ t by omega)] at ct1
                  have q1 : (2 - t == 2) = false := by simp; omega
                  have ht1 : 1 ≤ t := by omega
                  go_wp2_with fail
                  go_roundw
                  case rel =>
                    obtain ⟨o1, o2⟩ := World.ownsRow.stored HI9.out.own (r.length * 2 + 1) (.int .i64 (2 - t + 1))
                    rw [rcs_set t r ht1] at o1
                    exact ⟨k + 1, (t - 1) :: r, dp, by omega, by go_num, rfl, HI9.out.grown o2 (run_take HI.out.run HN.out (by simp [stp, HR.out, K11.out, ht])) o1⟩
                  case measure => simp [intOf]; omega
            · have e11 : (n.kind == 11) = false := by simp [k11]
              have K11 := Lib.hid k11
              clear k11
              cases st with
              | nil =>
                have hbk : Np.blocked [] n = false := rfl
                have HB := Lib.hid hbk
                clear hbk
                cases hO : opensB n
                · have HO := Lib.hid hO
                  clear hO
                  go_wp2_with (first | (go_at_call 31; (with_reducible refine (ropens_any _ _).mono ?_); rintro e w' ⟨rfl, rfl⟩; simp only [HO.out]) | (with_reducible show wpList _ _ _ (_ :: _) _ _; refine wpList_load_node rfl _ rfl _ _ rfl _ (by repeat (first | apply NodeAt.row | (apply Blk.new'; first | rfl | (simp; done)) | (apply Blk.node; apply Blk.new'; first | rfl | (simp; done)) | assumption | apply NodeAt.alloc)) ?_) | (with_reducible show wpList _ _ _ (_ :: _) _ _; refine wpList_load_nodeG rfl _ rfl _ _ rfl _ (by assumption) ?_))
                  all_goals go_roundw
                  all_goals first | (case measure => simp [intOf]; omega) | (case rel => exact ⟨k + 1, [], max dp (([] : List Int).length + 1), by omega, by go_num, (congrArg Value.bool (by rw [Bool.eq_iff_iff]; simp only [Bool.or_eq_true, decide_eq_true_eq, List.length_cons, List.length_nil, true_iff, Bool.false_eq_true, false_iff]; omega)), (HI9.out.alloc _).grown (grown_of_below (Below.refl _ _) _) (run_take HI.out.run HN.out (by rw [stp_other HR.out K6.out K11.out HB.out]; simp [HO.out])) (HI9.out.alloc _).own⟩)
                · have HO := Lib.hid hO
                  clear hO
                  by_cases k10 : n.kind = 10
                  · have e10 : (n.kind == 10) = true := by simp [k10]
                    have K10 := Lib.hid k10
                    clear k10
                    go_wp2_with (first | (go_at_call 31; (with_reducible refine (ropens_any _ _).mono ?_); rintro e w' ⟨rfl, rfl⟩; simp only [HO.out]) | (with_reducible show wpList _ _ _ (_ :: _) _ _; refine wpList_load_node rfl _ rfl _ _ rfl _ (by repeat (first | apply NodeAt.row | (apply Blk.new'; first | rfl | (simp; done)) | (apply Blk.node; apply Blk.new'; first | rfl | (simp; done)) | assumption | apply NodeAt.alloc)) ?_) | (with_reducible show wpList _ _ _ (_ :: _) _ _; refine wpList_load_nodeG rfl _ rfl _ _ rfl _ (by assumption) ?_) | (at_builtin; refine wpList_push rfl _ _ 79 rfl w.heap.size 81 _ 2 16 Tryz.underlying79 info_open rfl (by decide) (by decide) _ _ _ rfl (HI9.out.alloc _).own (HI9.out.alloc _).size _ rfl rfl rfl (by simp) (by first | omega | (simp only [List.length_cons]; omega)) ?_; intro v6 w6 hown6 hg6 hnn6))
                    all_goals go_roundw
                    all_goals first | (case measure => simp [intOf]; omega) | (case rel => exact ⟨k + 1, (2) :: [], max dp (([] : List Int).length + 1), by omega, by go_num, (congrArg Value.bool (by rw [Bool.eq_iff_iff]; simp only [Bool.or_eq_true, decide_eq_true_eq, List.length_cons, List.length_nil, true_iff, Bool.false_eq_true, false_iff]; omega)), ((HI9.out.alloc _).alloc _).grown hg6 (run_take HI.out.run HN.out (by rw [stp_other HR.out K6.out K11.out HB.out]; simp [HO.out, K10.out])) (by rw [rcs_cons]; exact hown6)⟩)
                  · have e10 : (n.kind == 10) = false := by simp [k10]
                    have K10 := Lib.hid k10
                    clear k10
                    go_wp2_with (first | (go_at_call 31; (with_reducible refine (ropens_any _ _).mono ?_); rintro e w' ⟨rfl, rfl⟩; simp only [HO.out]) | (with_reducible show wpList _ _ _ (_ :: _) _ _; refine wpList_load_node rfl _ rfl _ _ rfl _ (by repeat (first | apply NodeAt.row | (apply Blk.new'; first | rfl | (simp; done)) | (apply Blk.node; apply Blk.new'; first | rfl | (simp; done)) | assumption | apply NodeAt.alloc)) ?_) | (with_reducible show wpList _ _ _ (_ :: _) _ _; refine wpList_load_nodeG rfl _ rfl _ _ rfl _ (by assumption) ?_) | (at_builtin; refine wpList_push rfl _ _ 79 rfl w.heap.size 81 _ 2 16 Tryz.underlying79 info_open rfl (by decide) (by decide) _ _ _ rfl (HI9.out.alloc _).own (HI9.out.alloc _).size _ rfl rfl rfl (by simp) (by first | omega | (simp only [List.length_cons]; omega)) ?_; intro v6 w6 hown6 hg6 hnn6))
                    all_goals go_roundw
                    all_goals first | (case measure => simp [intOf]; omega) | (case rel => exact ⟨k + 1, (-1) :: [], max dp (([] : List Int).length + 1), by omega, by go_num, (congrArg Value.bool (by rw [Bool.eq_iff_iff]; simp only [Bool.or_eq_true, decide_eq_true_eq, List.length_cons, List.length_nil, true_iff, Bool.false_eq_true, false_iff]; omega)), ((HI9.out.alloc _).alloc _).grown hg6 (run_take HI.out.run HN.out (by rw [stp_other HR.out K6.out K11.out HB.out]; simp [HO.out, K10.out])) (by rw [rcs_cons]; exact hown6)⟩)
              | cons t r =>
                obtain ⟨g, c2, hv, hc1, hc2, hg, hg3⟩ := HI9.out.top
                obtain ⟨rfl, rfl⟩ : A' = some ⟨g, 0, none⟩ ∧ c' = c2 := by simp only [Value.slice.injEq] at hv; exact ⟨hv.1, hv.2.2⟩
                obtain ⟨ct0, ct1, fz⟩ := HI9.out.topCell
                simp only [List.length_cons] at hst hA' hv ⊢
                clear hv
                by_cases h0 : 0 ≤ t
                · rw [decide_eq_true h0] at ct0
                  rw [if_pos h0] at ct1
                  cases hS : smallB n
                  · have hbk : Np.blocked (t :: r) n = true := by simp [Np.blocked, h0, hS]
                    have HB := Lib.hid hbk
                    have HS := Lib.hid hS
                    clear hbk hS
                    go_wp2_with (first | (go_at_call 30; (with_reducible refine (rsmall_any _ _).mono ?_); rintro e w' ⟨rfl, rfl⟩; simp only [HS.out]) | (with_reducible show wpList _ _ _ (_ :: _) _ _; refine wpList_load_node rfl _ rfl _ _ rfl _ (by repeat (first | apply NodeAt.row | (apply Blk.new'; first | rfl | (simp; done)) | (apply Blk.node; apply Blk.new'; first | rfl | (simp; done)) | assumption | apply NodeAt.alloc)) ?_) | (with_reducible show wpList _ _ _ (_ :: _) _ _; refine wpList_load_nodeG rfl _ rfl _ _ rfl _ (by assumption) ?_))
                    go_ret; exact ⟨ret_int (chk_none (by rw [HL.out]; omega) HI.out.run HN.out (stp_blocked HR.out K6.out K11.out HB.out)).symm, (HI9.out.alloc _).low⟩
                  · have hbk : Np.blocked (t :: r) n = false := by simp [Np.blocked, hS]
                    have HB := Lib.hid hbk
                    have HS := Lib.hid hS
                    clear hbk hS
                    cases hO : opensB n
                    · have HO := Lib.hid hO
                      clear hO
                      go_wp2_with (first | (go_at_call 30; (with_reducible refine (rsmall_any _ _).mono ?_); rintro e w' ⟨rfl, rfl⟩; simp only [HS.out]) | (go_at_call 31; (with_reducible refine (ropens_any _ _).mono ?_); rintro e w' ⟨rfl, rfl⟩; simp only [HO.out]) | (with_reducible show wpList _ _ _ (_ :: _) _ _; refine wpList_load_node rfl _ rfl _ _ rfl _ (by repeat (first | apply NodeAt.row | (apply Blk.new'; first | rfl | (simp; done)) | (apply Blk.node; apply Blk.new'; first | rfl | (simp; done)) | assumption | apply NodeAt.alloc)) ?_) | (with_reducible show wpList _ _ _ (_ :: _) _ _; refine wpList_load_nodeG rfl _ rfl _ _ rfl _ (by assumption) ?_))
                      all_goals go_roundw
                      all_goals first | (case measure => simp [intOf]; omega) | (case rel => exact ⟨k + 1, (t :: r), max dp (((t :: r) : List Int).length + 1), by omega, by go_num, (congrArg Value.bool (by rw [Bool.eq_iff_iff]; simp only [Bool.or_eq_true, decide_eq_true_eq, List.length_cons, List.length_nil, true_iff, Bool.false_eq_true, false_iff]; omega)), ((HI9.out.alloc _).alloc _).grown (grown_of_below (Below.refl _ _) _) (run_take HI.out.run HN.out (by rw [stp_other HR.out K6.out K11.out HB.out]; simp [HO.out])) ((HI9.out.alloc _).alloc _).own⟩)
                    · have HO := Lib.hid hO
                      clear hO
                      by_cases k10 : n.kind = 10
                      · have e10 : (n.kind == 10) = true := by simp [k10]
                        have K10 := Lib.hid k10
                        clear k10
                        go_wp2_with (first | (go_at_call 30; (with_reducible refine (rsmall_any _ _).mono ?_); rintro e w' ⟨rfl, rfl⟩; simp only [HS.out]) | (go_at_call 31; (with_reducible refine (ropens_any _ _).mono ?_); rintro e w' ⟨rfl, rfl⟩; simp only [HO.out]) | (with_reducible show wpList _ _ _ (_ :: _) _ _; refine wpList_load_node rfl _ rfl _ _ rfl _ (by repeat (first | apply NodeAt.row | (apply Blk.new'; first | rfl | (simp; done)) | (apply Blk.node; apply Blk.new'; first | rfl | (simp; done)) | assumption | apply NodeAt.alloc)) ?_) | (with_reducible show wpList _ _ _ (_ :: _) _ _; refine wpList_load_nodeG rfl _ rfl _ _ rfl _ (by assumption) ?_) | (at_builtin; refine wpList_push rfl _ _ 79 rfl w.heap.size 81 _ 2 16 Tryz.underlying79 info_open rfl (by decide) (by decide) _ _ _ rfl ((HI9.out.alloc _).alloc _).own ((HI9.out.alloc _).alloc _).size _ rfl rfl rfl (by simp) (by first | omega | (simp only [List.length_cons]; omega)) ?_; intro v6 w6 hown6 hg6 hnn6))
                        all_goals go_roundw
                        all_goals first | (case measure => simp [intOf]; omega) | (case rel => exact ⟨k + 1, (2) :: (t :: r), max dp (((t :: r) : List Int).length + 1), by omega, by go_num, (congrArg Value.bool (by rw [Bool.eq_iff_iff]; simp only [Bool.or_eq_true, decide_eq_true_eq, List.length_cons, List.length_nil, true_iff, Bool.false_eq_true, false_iff]; omega)), (((HI9.out.alloc _).alloc _).alloc _).grown hg6 (run_take HI.out.run HN.out (by rw [stp_other HR.out K6.out K11.out HB.out]; simp [HO.out, K10.out])) (by rw [rcs_cons]; exact hown6)⟩)
                      · have e10 : (n.kind == 10) = false := by simp [k10]
                        have K10 := Lib.hid k10
                        clear k10
                        go_wp2_with (first | (go_at_call 30; (with_reducible refine (rsmall_any _ _).mono ?_); rintro e w' ⟨rfl, rfl⟩; simp only [HS.out]) | (go_at_call 31; (with_reducible refine (ropens_any _ _).mono ?_); rintro e w' ⟨rfl, rfl⟩; simp only [HO.out]) | (with_reducible show wpList _ _ _ (_ :: _) _ _; refine wpList_load_node rfl _ rfl _ _ rfl _ (by repeat (first | apply NodeAt.row | (apply Blk.new'; first | rfl | (simp; done)) | (apply Blk.node; apply Blk.new'; first | rfl | (simp; done)) | assumption | apply NodeAt.alloc)) ?_) | (with_reducible show wpList _ _ _ (_ :: _) _ _; refine wpList_load_nodeG rfl _ rfl _ _ rfl _ (by assumption) ?_) | (at_builtin; refine wpList_push rfl _ _ 79 rfl w.heap.size 81 _ 2 16 Tryz.underlying79 info_open rfl (by decide) (by decide) _ _ _ rfl ((HI9.out.alloc _).alloc _).own ((HI9.out.alloc _).alloc _).size _ rfl rfl rfl (by simp) (by first | omega | (simp only [List.length_cons]; omega)) ?_; intro v6 w6 hown6 hg6 hnn6))
                        all_goals go_roundw
                        all_goals first | (case measure => simp [intOf]; omega) | (case rel => exact ⟨k + 1, (-1) :: (t :: r), max dp (((t :: r) : List Int).length + 1), by omega, by go_num, (congrArg Value.bool (by rw [Bool.eq_iff_iff]; simp only [Bool.or_eq_true, decide_eq_true_eq, List.length_cons, List.length_nil, true_iff, Bool.false_eq_true, false_iff]; omega)), (((HI9.out.alloc _).alloc _).alloc _).grown hg6 (run_take HI.out.run HN.out (by rw [stp_other HR.out K6.out K11.out HB.out]; simp [HO.out, K10.out])) (by rw [rcs_cons]; exact hown6)⟩)
                · rw [decide_eq_false h0] at ct0
                  rw [if_neg h0] at ct1
                  have hbk : Np.blocked (t :: r) n = false := by simp [Np.blocked, h0]
                  have HB := Lib.hid hbk
                  clear hbk
                  cases hO : opensB n
                  · have HO := Lib.hid hO
                    clear hO
                    go_wp2_with (first | (go_at_call 31; (with_reducible refine (ropens_any _ _).mono ?_); rintro e w' ⟨rfl, rfl⟩; simp only [HO.out]) | (with_reducible show wpList _ _ _ (_ :: _) _ _; refine wpList_load_node rfl _ rfl _ _ rfl _ (by repeat (first | apply NodeAt.row | (apply Blk.new'; first | rfl | (simp; done)) | (apply Blk.node; apply Blk.new'; first | rfl | (simp; done)) | assumption | apply NodeAt.alloc)) ?_) | (with_reducible show wpList _ _ _ (_ :: _) _ _; refine wpList_load_nodeG rfl _ rfl _ _ rfl _ (by assumption) ?_))
                    all_goals go_roundw
                    all_goals first | (case measure => simp [intOf]; omega) | (case rel => exact ⟨k + 1, (t :: r), max dp (((t :: r) : List Int).length + 1), by omega, by go_num, (congrArg Value.bool (by rw [Bool.eq_iff_iff]; simp only [Bool.or_eq_true, decide_eq_true_eq, List.length_cons, List.length_nil, true_iff, Bool.false_eq_true, false_iff]; omega)), (HI9.out.alloc _).grown (grown_of_below (Below.refl _ _) _) (run_take HI.out.run HN.out (by rw [stp_other HR.out K6.out K11.out HB.out]; simp [HO.out])) (HI9.out.alloc _).own⟩)
                  · have HO := Lib.hid hO
                    clear hO
                    by_cases k10 : n.kind = 10
                    · have e10 : (n.kind == 10) = true := by simp [k10]
                      have K10 := Lib.hid k10
                      clear k10
                      go_wp2_with (first | (go_at_call 31; (with_reducible refine (ropens_any _ _).mono ?_); rintro e w' ⟨rfl, rfl⟩; simp only [HO.out]) | (with_reducible show wpList _ _ _ (_ :: _) _ _; refine wpList_load_node rfl _ rfl _ _ rfl _ (by repeat (first | apply NodeAt.row | (apply Blk.new'; first | rfl | (simp; done)) | (apply Blk.node; apply Blk.new'; first | rfl | (simp; done)) | assumption | apply NodeAt.alloc)) ?_) | (with_reducible show wpList _ _ _ (_ :: _) _ _; refine wpList_load_nodeG rfl _ rfl _ _ rfl _ (by assumption) ?_) | (at_builtin; refine wpList_push rfl _ _ 79 rfl w.heap.size 81 _ 2 16 Tryz.underlying79 info_open rfl (by decide) (by decide) _ _ _ rfl (HI9.out.alloc _).own (HI9.out.alloc _).size _ rfl rfl rfl (by simp) (by first | omega | (simp only [List.length_cons]; omega)) ?_; intro v6 w6 hown6 hg6 hnn6))
                      all_goals go_roundw
                      all_goals first | (case measure => simp [intOf]; omega) | (case rel => exact ⟨k + 1, (2) :: (t :: r), max dp (((t :: r) : List Int).length + 1), by omega, by go_num, (congrArg Value.bool (by rw [Bool.eq_iff_iff]; simp only [Bool.or_eq_true, decide_eq_true_eq, List.length_cons, List.length_nil, true_iff, Bool.false_eq_true, false_iff]; omega)), ((HI9.out.alloc _).alloc _).grown hg6 (run_take HI.out.run HN.out (by rw [stp_other HR.out K6.out K11.out HB.out]; simp [HO.out, K10.out])) (by rw [rcs_cons]; exact hown6)⟩)
                    · have e10 : (n.kind == 10) = false := by simp [k10]
                      have K10 := Lib.hid k10
                      clear k10
                      go_wp2_with (first | (go_at_call 31; (with_reducible refine (ropens_any _ _).mono ?_); rintro e w' ⟨rfl, rfl⟩; simp only [HO.out]) | (with_reducible show wpList _ _ _ (_ :: _) _ _; refine wpList_load_node rfl _ rfl _ _ rfl _ (by repeat (first | apply NodeAt.row | (apply Blk.new'; first | rfl | (simp; done)) | (apply Blk.node; apply Blk.new'; first | rfl | (simp; done)) | assumption | apply NodeAt.alloc)) ?_) | (with_reducible show wpList _ _ _ (_ :: _) _ _; refine wpList_load_nodeG rfl _ rfl _ _ rfl _ (by assumption) ?_) | (at_builtin; refine wpList_push rfl _ _ 79 rfl w.heap.size 81 _ 2 16 Tryz.underlying79 info_open rfl (by decide) (by decide) _ _ _ rfl (HI9.out.alloc _).own (HI9.out.alloc _).size _ rfl rfl rfl (by simp) (by first | omega | (simp only [List.length_cons]; omega)) ?_; intro v6 w6 hown6 hg6 hnn6))
                      all_goals go_roundw
                      all_goals first | (case measure => simp [intOf]; omega) | (case rel => exact ⟨k + 1, (-1) :: (t :: r), max dp (((t :: r) : List Int).length + 1), by omega, by go_num, (congrArg Value.bool (by rw [Bool.eq_iff_iff]; simp only [Bool.or_eq_true, decide_eq_true_eq, List.length_cons, List.length_nil, true_iff, Bool.false_eq_true, false_iff]; omega)), ((HI9.out.alloc _).alloc _).grown hg6 (run_take HI.out.run HN.out (by rw [stp_other HR.out K6.out K11.out HB.out]; simp [HO.out, K10.out])) (by rw [rcs_cons]; exact hown6)⟩)
      · obtain rfl : k = len := by omega
        have hrun := HI.out.run
        rw [List.take_of_length_le (by rw [HL.out]; exact Nat.le_refl _)] at hrun
        have hch := chk_end (by rw [HL.out]; omega) hrun
        have HCH := Lib.hid hch
        have hlow := HI.out.low
        obtain ⟨A', c', rfl, hA'⟩ := HI.out.open_
        clear hrun hch
        cases st with
        | nil =>
          by_cases h40 : 40 < dp
          · go_wp2_with fail
            go_ret
            exact ⟨ret_int (by rw [HCH.out]; simp [h40]), hlow⟩
          · go_wp2_with fail
            go_ret
            exact ⟨ret_int (by rw [HCH.out]; simp [h40]), hlow⟩
        | cons t r =>
          simp only [List.length_cons] at hst hA' ⊢
          go_wp2_with fail
          go_ret
          exact ⟨ret_int (by rw [HCH.out, if_neg (by simp)]), hlow⟩
end Go.Proofs.YtmcekdjhkjhcdaaGreatDoor.No

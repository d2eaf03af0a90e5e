import Derived.Test.YtmcekdjhkjhcdaaNodeKw
import Derived.Test.YtmcekdjhkjhcdaaNt
import Derived.Deep.RegionLaw
import Derived.Laws.AppendOwn
/- NodesBroken's walk: a list without one of the nodes that open or close is none. Conditions: those that each theorem names. -/
namespace Go.Proofs.Ytmcekdjhkjhcdaa.No
open Go.ChangeShapes Go.WideShapes Go.ChangeAt Go.RowKit
open Me Np
set_option linter.unusedVariables false
set_option linter.unusedSimpArgs false

theorem refOpens_any (n : Nd) (w : World) : Calls Try.prog 18 #[.agg (nc n)] w fun e w' => e = .returned (.bool (opensB n)) ∧ w.alloc (.cells (nc n) 31) = w' := by
  go_enter Try.func18, Try.ntmps18
  go_wp2_with fail
  all_goals (go_ret; exact ⟨ret_bool (by simp_all [opensB]), rfl⟩)
/-- 'append(s, l...)' onto what the call owns, at a step of a region that draws its order. -/
theorem step_append_src {P : Program} {ops : Array Oper} {o : Oper} {a : Act} {w : World} {K : Act → World → Prop} {Q : Exit → Act → World → Prop} {E : Prop} (hgd : o.guard = none) (s x : Operand) (t : TypeId)
    (ho : o.op = .call { callee := .builtin .append, args := #[s, x], argTypes := #[t, t] })
    (base : Nat) (e : TypeId) (z : Value) (size bytes : Nat) (ht : P.underlying t = some (.slice e)) (hinfo : (P.info? e).map (fun i => (i.zero, i.size, i.bytes)) = some (some z, size, bytes))
    (hzs : z.cells.size = size) (hsz : 0 < size)
    (v : Value) (n : Nat) (xs : List Value) (hs : a.eval s = v) (hown : w.ownsRow base e size v n xs)
    (ad : Addr) (m c : Nat) (news : List Value) (hx : a.eval x = .slice (some ad) m c) (hl : news.length = m * size) (hnews : ∀ j u, news[j]? = some u → w.cell? (ad.add j) = some u) (h1 : ∀ u ∈ news, u.oneCell' = true)
    (h63 : n + m ≤ maxLen) (hbytes : (n + m) * bytes ≤ 140737488355328) (hbase : base ≤ w.heap.size)
    (h : ∀ v' w', w'.ownsRow base e size v' (n + m) (xs ++ news) → w.grownBy w' v.ownBlock → K (a.put o.dst v') w') :
    if Region.wanted o (yielded ops a.tmps) = true then Oper.wp P o a w K Q else E := by
  obtain ⟨i, hi, hz, hsi, hbi⟩ := info_parts hinfo
  have hw : Region.wanted o (yielded ops a.tmps) = true := by simp [Region.wanted, hgd]
  rw [if_pos hw]
  obtain ⟨v', w', hr, h2, h3, _⟩ := run_append_own (P := P) w base t o.type e i z size bytes ht hi hz hsi hbi hzs hsz v n xs hown ad m c news hl hnews h1 h63 hbytes hbase
  unfold Oper.wp execOp
  simp only [ho, resolve, invoke, builtin, Sem.run_bind, Sem.run_pure, Result.andThen_ok, List.map_toArray, List.map_cons, List.map_nil, hs, hx, hr]
  exact h v' w' h2 h3
theorem seg_cells {w : World} {B b off : Nat} {xs : List Value} (h : Seg w B (some ⟨b, off, none⟩) xs) : ∀ j u, xs[j]? = some u → w.cell? ((⟨b, off, none⟩ : Addr).add j) = some u := by
  intro j u hu
  rcases h with rfl | ⟨b', off', he, _, hc⟩
  · simp at hu
  · simp only [Option.some.injEq, Addr.mk.injEq, and_true] at he
    obtain ⟨rfl, rfl⟩ := he
    have hadd : (⟨b, off, none⟩ : Addr).add j = ⟨b, off + j, none⟩ := by unfold Addr.add; split <;> simp_all
    rw [hadd]
    exact hc j u hu
theorem node_row : (Try.prog.info? 31).map (fun i => (i.zero, i.size, i.bytes)) = some (some (.agg (nc (nz 0))), 19, 160) := by kernel_rfl
theorem ncs_one (l : List Nd) : ∀ u ∈ l.flatMap ncs, u.oneCell' = true := by
  intro u hu
  obtain ⟨n, _, hn⟩ := List.mem_flatMap.1 hu
  have := nc_one n
  rw [Array.all_eq_true_iff_forall_mem] at this
  exact this u (by simpa [ncs] using hn)
theorem place (a : Int) (len : Nat) (h0 : (0 : Int) < len) (h1 : (len : Int) ≤ 2000) : ∃ k : Nat, (wrap64 (a.tmod len + len)).tmod len = (k : Int) ∧ k < len := by
  have t1 := Int.tmod_lt_of_pos a h0
  have t2 := Int.lt_tmod_of_pos a h0
  rw [IntWalk.wrap64_in _ (by omega)]
  have t3 := Int.tmod_lt_of_pos (a.tmod len + len) h0
  have t4 := Int.tmod_nonneg (a := a.tmod len + len) len (by omega)
  exact ⟨((a.tmod len + len).tmod len).toNat, by omega, by omega⟩
set_option maxHeartbeats 4000000 in
set_option maxRecDepth 100000 in
theorem broken_walk (A : Option Addr) (ns : List Nd) (c : Nat) (at_ : Int) (w : World) (hl : ns.length ≤ 9223372036854775806) (hc : ns.length ≤ c) (hseg : Seg w w.heap.size A (ns.flatMap ncs)) :
    Calls Try.prog 3 #[.slice A ns.length c, .int .i64 at_] w fun e w' => e = .returned (.bool true) ∧ Below w.heap.size w w' := by
  have HC := Lib.hid fun w1 (h : Below w.heap.size w w1) => check_any A ns c w1 (by omega) (Seg.belowW hseg h)
  have HSEG := Lib.hid hseg
  clear hseg
  by_cases h0 : chk ns = 0
  · have HCK := Lib.hid h0
    rw [h0] at HC
    clear h0
    by_cases hn : ns.length = 0
    · have e1 : ((ns.length : Int) == 0) = true := by simp [hn]
      clear hn
      generalize ns.length = len at *
      go_enter Try.func3, Try.ntmps3
      go_wp2_with fail
      refine (HC.out _ (Below.refl _ _)).mono ?_
      rintro e w1 ⟨rfl, hb1⟩
      go_wp2_with (first | (go_at_call 15; refine (num_any _ _).mono ?_; rintro e w' ⟨rfl, rfl⟩) | (go_at_call 17; refine (knows_any _).mono ?_; rintro e w2 ⟨rfl, hb2⟩))
      go_ret
      exact ⟨ret_bool (by simp), andThen hb1 hb2⟩
    · have e1 : ((ns.length : Int) == 0) = false := by rw [beq_eq_false_iff_ne]; omega
      have hn1 : (0 : Int) < ns.length := by omega
      have hn2 : (ns.length : Int) ≤ 2000 := by have := (chk_run HCK.out).1; omega
      clear hn
      obtain ⟨k, hk, hkl⟩ := place at_ ns.length hn1 hn2
      obtain ⟨x, hx, hxd⟩ := get_drop hkl
      obtain ⟨b, off, rfl, hb, hnode⟩ := seg_node HSEG.out hx
      have hke : ns = ns.take k ++ x :: ns.drop (k + 1) := by rw [← hxd, List.take_append_drop]
      have HKE := Lib.hid hke
      have HN := Lib.hid hnode
      clear hke hnode hx hxd
      have HL := Lib.hid (rfl : ns.length = ns.length)
      generalize hlen : ns.length = len at HC hl hc e1 hn1 hn2 HL hk hkl ⊢
      clear HL
      have HL := Lib.hid hlen
      clear hlen
      go_enter Try.func3, Try.ntmps3
      go_wp2_with fail
      refine (HC.out _ (Below.refl _ _)).mono ?_
      rintro e w1 ⟨rfl, hb1⟩
      by_cases hbr : opensB x = true ∨ x.kind = 6
      · have HBR := Lib.hid hbr
        have hfin := chk_without (l := ns.take k) (m := ns.drop (k + 1)) (x := x) (by rw [← HKE.out]; exact HCK.out) hbr
        have HFIN := Lib.hid hfin
        have hkk : 0 ≤ (k : Int) + 1 := by omega
        have hkl2 : (k : Int) + 1 ≤ len := by omega
        have hkc : (k : Int) + 1 ≤ c := by omega
        have hkc2 : (k : Int) ≤ c := by omega
        clear hfin hbr
        cases hO : opensB x
        · have e6 : (x.kind != 6) = false := by
            rw [bne_eq_false_iff_eq]
            rcases HBR.out with h | h
            · rw [h] at hO; cases hO
            · exact h
          have HO := Lib.hid hO
          clear hO
          go_wp2_with (first | (go_at_call 15; refine (num_any _ _).mono ?_; rintro e w' ⟨rfl, rfl⟩) | (go_at_call 17; refine (knows_any _).mono ?_; rintro e w2 ⟨rfl, hb2⟩; have hb12 := andThen hb1 hb2; have hn2' := HN.out.below hb12 hb; have hc0 : w2.cell? ⟨b, off + k * 19, none⟩ = some (.int .i64 x.kind) := hn2' 0 _ rfl; have hbw := hn2'.lt) | (go_at_call 18; (with_reducible refine (refOpens_any _ _).mono ?_); rintro e w' ⟨rfl, rfl⟩; simp only [HO.out]) | (refine wpList_load_node rfl _ rfl _ _ rfl _ (by assumption) ?_))
          have hwk : IntKind.i64.wrap ((k : Int) + 1) = (k : Int) + 1 := IntWalk.i64_in _ (by omega)
          have htn : ((k : Int) + 1).toNat = k + 1 := by omega
          clear hk hc0 hn2' e6 e1
          have hlowW : Below w.heap.size w ((w2.alloc (.cells (nc x) 31)).alloc (.cells #[] 31)).drew := below_drewN (andAlloc (andAlloc hb12 _) _) 1
          have HA0 := Lib.hid (by simpa using World.ownsRow_made (w2.alloc (.cells (nc x) 31)) #[] 0 (e := 31) (size := 19) (Nat.le_refl _) (by simp [maxLen]) (by simp) : ((w2.alloc (.cells (nc x) 31)).alloc (.cells #[] 31)).ownsRow (w2.heap.size + 1) 31 19 (.slice (some ⟨w2.heap.size + 1, 0, none⟩) 0 0) 0 [])
          have HS1 := Lib.hid (seg_cells ((Seg.take (HSEG.out.below hlowW) (k * 19))))
          have HT1 := Lib.hid (flat_take ncs_length ns k)
          obtain ⟨ad, hif, had⟩ : ∃ ad : Addr, (if c = k + 1 then some (⟨b, off, none⟩ : Addr) else some ⟨b, off + (k + 1) * 19, none⟩) = some ad ∧ ∀ w' : World, Below w.heap.size w w' → ∀ j u, ((ns.drop (k + 1)).flatMap ncs)[j]? = some u → w'.cell? (ad.add j) = some u := by
            by_cases hcap : c = k + 1
            · refine ⟨⟨b, off, none⟩, if_pos hcap, fun w' hw' j u hu => ?_⟩
              rw [List.drop_of_length_le (by rw [HL.out]; omega)] at hu
              simp at hu
            · refine ⟨⟨b, off + (k + 1) * 19, none⟩, if_neg hcap, fun w' hw' => ?_⟩
              rw [flat_drop ncs_length]
              exact seg_cells (Seg.drop (HSEG.out.below hw') _)
          have HAD := Lib.hid had
          have HLW := Lib.hid hlowW
          clear hlowW had
          go_region_law (first
            | (refine step_append_src rfl (.tmp 44) (.tmp 47) 22 rfl (w2.heap.size + 1) 31 _ 19 160 Try.underlying22 node_row rfl (by decide) _ 0 [] rfl HA0.out ⟨b, off, none⟩ k c ((ns.take k).flatMap ncs) rfl ?_ ?_ (ncs_one _) ?_ ?_ ?_ ?_; (rw [flat_length ncs_length, List.length_take, HL.out]; congr 1; omega); (rw [HT1.out]; exact HS1.out); (simp only [maxLen]; omega); omega; simp; intro v1 W1 hown1 hg1)
            | (refine step_append_src rfl (.tmp 48) (.tmp 52) 22 rfl (w2.heap.size + 1) 31 _ 19 160 Try.underlying22 node_row rfl (by decide) _ (0 + k) _ rfl hown1 ad (len - (k + 1)) (c - (k + 1)) ((ns.drop (k + 1)).flatMap ncs) ?_ ?_ (HAD.out _ (below_grown (Nat.le_refl _) HLW.out hg1 (fun g hg => ?_))) (ncs_one _) ?_ ?_ ?_ ?_; (first | rfl | exact congrArg (fun p => Value.slice p (len - (k + 1)) (c - (k + 1))) hif); (rw [flat_length ncs_length, List.length_drop, HL.out]); (have hh := hb12.size; have hg' : some (w2.heap.size + 1) = some g := hg; injection hg' with hg'; omega); (simp only [maxLen]; omega); omega; (have hh := hg1.size; simp at hh; omega); intro v2 W2 hown2 hg2))
          have hW1 : Below w.heap.size w W1 := below_grown (Nat.le_refl _) HLW.out hg1 (fun g hg => by
            have hh := hb12.size
            have hg' : some (w2.heap.size + 1) = some g := hg
            injection hg' with hg'
            omega)
          have hW2 : Below w.heap.size w W2 := below_grown (Nat.le_refl _) hW1 hg2 (fun g hg => by
            have h1 := hown1.lt g hg
            have h2 := hb12.size
            omega)
          obtain ⟨A2, c2, rfl, hc2, hm2, hs2⟩ := Seg.of_own hown2
          have hseg2 : Seg W2 W2.heap.size A2 ((ns.take k ++ ns.drop (k + 1)).flatMap ncs) := by simpa [List.flatMap_append] using hs2
          have hlen2 : 0 + k + (len - (k + 1)) = (ns.take k ++ ns.drop (k + 1)).length := by
            rw [List.length_append, List.length_take, List.length_drop, HL.out]
            omega
          rw [hlen2]
          have hch := check_any A2 _ c2 W2 (by rw [← hlen2]; omega) hseg2
          rw [HFIN.out] at hch
          have HC2 := Lib.hid hch
          clear hch hseg2 hlen2 hs2 hown2 hg2 hown1 hg1 hW1 hif hwk htn hbw hb12 hb2 hb1 HA0 HS1 HT1 HAD HLW hc2 hm2
          generalize (ns.take k ++ ns.drop (k + 1)).length = len2 at HC2 ⊢
          go_wp2_with fail
          refine HC2.out.mono ?_
          rintro e w5 ⟨rfl, hb5⟩
          go_wp2_with (go_at_call 15; refine (num_any _ _).mono ?_; rintro e w' ⟨rfl, rfl⟩)
          go_ret
          exact ⟨ret_bool (by simp), andThen hW2 hb5⟩
        · have HO := Lib.hid hO
          clear hO
          go_wp2_with (first | (go_at_call 15; refine (num_any _ _).mono ?_; rintro e w' ⟨rfl, rfl⟩) | (go_at_call 17; refine (knows_any _).mono ?_; rintro e w2 ⟨rfl, hb2⟩; have hb12 := andThen hb1 hb2; have hn2' := HN.out.below hb12 hb; have hc0 : w2.cell? ⟨b, off + k * 19, none⟩ = some (.int .i64 x.kind) := hn2' 0 _ rfl; have hbw := hn2'.lt) | (go_at_call 18; (with_reducible refine (refOpens_any _ _).mono ?_); rintro e w' ⟨rfl, rfl⟩; simp only [HO.out]) | (refine wpList_load_node rfl _ rfl _ _ rfl _ (by assumption) ?_))
          have hwk : IntKind.i64.wrap ((k : Int) + 1) = (k : Int) + 1 := IntWalk.i64_in _ (by omega)
          have htn : ((k : Int) + 1).toNat = k + 1 := by omega
          clear hk hc0 hn2' e1
          have hlowW : Below w.heap.size w ((w2.alloc (.cells (nc x) 31)).alloc (.cells #[] 31)).drew := below_drewN (andAlloc (andAlloc hb12 _) _) 1
          have HA0 := Lib.hid (by simpa using World.ownsRow_made (w2.alloc (.cells (nc x) 31)) #[] 0 (e := 31) (size := 19) (Nat.le_refl _) (by simp [maxLen]) (by simp) : ((w2.alloc (.cells (nc x) 31)).alloc (.cells #[] 31)).ownsRow (w2.heap.size + 1) 31 19 (.slice (some ⟨w2.heap.size + 1, 0, none⟩) 0 0) 0 [])
          have HS1 := Lib.hid (seg_cells ((Seg.take (HSEG.out.below hlowW) (k * 19))))
          have HT1 := Lib.hid (flat_take ncs_length ns k)
          obtain ⟨ad, hif, had⟩ : ∃ ad : Addr, (if c = k + 1 then some (⟨b, off, none⟩ : Addr) else some ⟨b, off + (k + 1) * 19, none⟩) = some ad ∧ ∀ w' : World, Below w.heap.size w w' → ∀ j u, ((ns.drop (k + 1)).flatMap ncs)[j]? = some u → w'.cell? (ad.add j) = some u := by
            by_cases hcap : c = k + 1
            · refine ⟨⟨b, off, none⟩, if_pos hcap, fun w' hw' j u hu => ?_⟩
              rw [List.drop_of_length_le (by rw [HL.out]; omega)] at hu
              simp at hu
            · refine ⟨⟨b, off + (k + 1) * 19, none⟩, if_neg hcap, fun w' hw' => ?_⟩
              rw [flat_drop ncs_length]
              exact seg_cells (Seg.drop (HSEG.out.below hw') _)
          have HAD := Lib.hid had
          have HLW := Lib.hid hlowW
          clear hlowW had
          go_region_law (first
            | (refine step_append_src rfl (.tmp 44) (.tmp 47) 22 rfl (w2.heap.size + 1) 31 _ 19 160 Try.underlying22 node_row rfl (by decide) _ 0 [] rfl HA0.out ⟨b, off, none⟩ k c ((ns.take k).flatMap ncs) rfl ?_ ?_ (ncs_one _) ?_ ?_ ?_ ?_; (rw [flat_length ncs_length, List.length_take, HL.out]; congr 1; omega); (rw [HT1.out]; exact HS1.out); (simp only [maxLen]; omega); omega; simp; intro v1 W1 hown1 hg1)
            | (refine step_append_src rfl (.tmp 48) (.tmp 52) 22 rfl (w2.heap.size + 1) 31 _ 19 160 Try.underlying22 node_row rfl (by decide) _ (0 + k) _ rfl hown1 ad (len - (k + 1)) (c - (k + 1)) ((ns.drop (k + 1)).flatMap ncs) ?_ ?_ (HAD.out _ (below_grown (Nat.le_refl _) HLW.out hg1 (fun g hg => ?_))) (ncs_one _) ?_ ?_ ?_ ?_; (first | rfl | exact congrArg (fun p => Value.slice p (len - (k + 1)) (c - (k + 1))) hif); (rw [flat_length ncs_length, List.length_drop, HL.out]); (have hh := hb12.size; have hg' : some (w2.heap.size + 1) = some g := hg; injection hg' with hg'; omega); (simp only [maxLen]; omega); omega; (have hh := hg1.size; simp at hh; omega); intro v2 W2 hown2 hg2))
          have hW1 : Below w.heap.size w W1 := below_grown (Nat.le_refl _) HLW.out hg1 (fun g hg => by
            have hh := hb12.size
            have hg' : some (w2.heap.size + 1) = some g := hg
            injection hg' with hg'
            omega)
          have hW2 : Below w.heap.size w W2 := below_grown (Nat.le_refl _) hW1 hg2 (fun g hg => by
            have h1 := hown1.lt g hg
            have h2 := hb12.size
            omega)
          obtain ⟨A2, c2, rfl, hc2, hm2, hs2⟩ := Seg.of_own hown2
          have hseg2 : Seg W2 W2.heap.size A2 ((ns.take k ++ ns.drop (k + 1)).flatMap ncs) := by simpa [List.flatMap_append] using hs2
          have hlen2 : 0 + k + (len - (k + 1)) = (ns.take k ++ ns.drop (k + 1)).length := by
            rw [List.length_append, List.length_take, List.length_drop, HL.out]
            omega
          rw [hlen2]
          have hch := check_any A2 _ c2 W2 (by rw [← hlen2]; omega) hseg2
          rw [HFIN.out] at hch
          have HC2 := Lib.hid hch
          clear hch hseg2 hlen2 hs2 hown2 hg2 hown1 hg1 hW1 hif hwk htn hbw hb12 hb2 hb1 HA0 HS1 HT1 HAD HLW hc2 hm2
          generalize (ns.take k ++ ns.drop (k + 1)).length = len2 at HC2 ⊢
          go_wp2_with fail
          refine HC2.out.mono ?_
          rintro e w5 ⟨rfl, hb5⟩
          go_wp2_with (go_at_call 15; refine (num_any _ _).mono ?_; rintro e w' ⟨rfl, rfl⟩)
          go_ret
          exact ⟨ret_bool (by simp), andThen hW2 hb5⟩
      · have hO : opensB x = false := by
          cases h : opensB x
          · rfl
          · exact absurd (.inl h) hbr
        have e6 : (x.kind != 6) = true := by
          rw [bne_iff_ne]
          exact fun h => hbr (.inr h)
        have HO := Lib.hid hO
        clear hO hbr
        go_wp2_with (first | (go_at_call 15; refine (num_any _ _).mono ?_; rintro e w' ⟨rfl, rfl⟩) | (go_at_call 17; refine (knows_any _).mono ?_; rintro e w2 ⟨rfl, hb2⟩; have hb12 := andThen hb1 hb2; have hn2' := HN.out.below hb12 hb; have hc0 : w2.cell? ⟨b, off + k * 19, none⟩ = some (.int .i64 x.kind) := hn2' 0 _ rfl; have hbw := hn2'.lt) | (go_at_call 18; (with_reducible refine (refOpens_any _ _).mono ?_); rintro e w' ⟨rfl, rfl⟩; simp only [HO.out]) | (refine wpList_load_node rfl _ rfl _ _ rfl _ (by assumption) ?_))
        go_ret
        exact ⟨ret_bool (by simp), andAlloc hb12 _⟩
  · have e0 : (chk ns != 0) = true := by simp [h0]
    generalize chk ns = v at *
    generalize ns.length = len at *
    go_enter Try.func3, Try.ntmps3
    go_wp2_with fail
    refine (HC.out _ (Below.refl _ _)).mono ?_
    rintro e w1 ⟨rfl, hb1⟩
    go_wp2_with (first | (go_at_call 15; refine (num_any _ _).mono ?_; rintro e w' ⟨rfl, rfl⟩) | (go_at_call 17; refine (knows_any _).mono ?_; rintro e w2 ⟨rfl, hb2⟩))
    go_ret
    exact ⟨ret_bool (by simp), andThen hb1 hb2⟩
end Go.Proofs.Ytmcekdjhkjhcdaa.No

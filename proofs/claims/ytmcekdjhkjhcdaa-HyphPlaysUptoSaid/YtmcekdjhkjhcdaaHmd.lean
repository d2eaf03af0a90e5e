import Derived.Test.YtmcekdjhkjhcdaaHmc
import Derived.Test.YtmcekdjhkjhcdaaHpc
/- The document's text of a pattern, and its Patterns. Conditions: those that each theorem names. -/
namespace Go.Proofs.Ytmcekdjhkjhcdaa.Hy
open Go.ChangeShapes Go.WideShapes Go.ChangeAt Go.RowKit
open Me Hp
set_option linter.unusedVariables false
set_option linter.unusedSimpArgs false
theorem conv_u8 (w : World) (b v : Nat) (hv : v < 256) (h : w.cell? ⟨b, 0, none⟩ = some (.int .u8 (v : Int))) : (convert 168 9 (.slice (some ⟨b, 0, none⟩) 1 1)).run Try.prog w = .ok (.string (S [UInt8.ofNat v])) w :=
  run_convert_bytes_back w 168 9 5 ⟨b, 0, none⟩ 1 [UInt8.ofNat v] Try.underlying168 Try.underlying5 Try.underlying9 (fun j hj => by
    obtain rfl : j = 0 := by simpa using hj
    have e : (⟨b, 0, none⟩ : Addr).add 0 = ⟨b, 0, none⟩ := rfl
    rw [e, h]
    simp only [List.getElem_cons_zero, UInt8.toNat_ofNat']
    rw [Nat.mod_eq_of_lt hv])
set_option maxHeartbeats 4000000 in
set_option maxRecDepth 100000 in
theorem rptext_any (s : Nm) (L : List Int) (A3 : Option Addr) (c3 : Nat) (w : World) (hl : L.length = s.length + 1) (hs : s.length ≤ 63) (hd : ∀ x ∈ L, 0 ≤ x ∧ x ≤ 9) (hrow : Seg w w.heap.size A3 (L.map iv)) :
    Calls Try.prog 138 #[.agg #[.string (S s), .slice A3 L.length c3]] w fun e w' => e = .returned (.string (S (txq s L L.length))) ∧ Below w.heap.size w w' := by
  obtain ⟨b3, o3, rfl, hb3, hc3⟩ := hrow.open_ (by intro e; have := congrArg List.length e; rw [List.length_map, hl] at this; simp at this)
  have HC3 := Lib.hid hc3
  have HL := Lib.hid hl
  have HD := Lib.hid hd
  have hSs : (S s).size = s.length := rfl
  generalize hLn : L.length = n at *
  have HLN := Lib.hid hLn
  have HSS := Lib.hid hSs
  generalize hZ : S s = Z at *
  have HZ := Lib.hid hZ
  have hzl : Z.size ≤ 63 := by omega
  have hzn : n = Z.size + 1 := by omega
  have HZN := Lib.hid hzn
  clear hc3 hl hd hLn hSs hZ hzn hrow
  go_enter Try.func138, Try.ntmps138
  go_upto_region 1 with fail
  have HB := Lib.hid (Blk.new w 48 #[.string Z, .slice (some ⟨b3, o3, none⟩) n c3])
  have HLO := Lib.hid (andAlloc (Below.refl w.heap.size w) (.cells #[.string Z, .slice (some ⟨b3, o3, none⟩) n c3] 48))
  generalize w.alloc (.cells #[.string Z, .slice (some ⟨b3, o3, none⟩) n c3] 48) = w5 at HB HLO ⊢
  have HHW := Lib.hid hb3
  generalize hg5 : w.heap.size = g5 at HB ⊢
  go_wp2_with fail
  go_loopw [3, 4] (fun v3 v4 wr => ∃ k : Nat, k ≤ n ∧ v4 = .int .i64 (k : Int) ∧ v3 = .string (S (txq s L k)) ∧ Below w5.heap.size w5 wr) (fun _ v4 _ => n - (intOf v4).toNat)
  case atStart => exact ⟨0, by omega, rfl, rfl, Below.refl _ _⟩
  case round =>
    obtain ⟨k, hk, rfl, rfl, hlow⟩ := hrel
    have hbr := HB.out.below hlow HB.out.lt
    have c0 : wr.cell? ⟨g5, 0, none⟩ = some (.string Z) := hbr.cell 0
    have c1 : wr.cell? ⟨g5, 1, none⟩ = some (.slice (some ⟨b3, o3, none⟩) n c3) := hbr.cell 1
    have hgr : g5 < wr.heap.size := hbr.lt
    have HLOW := Lib.hid hlow
    have hlw : Below w.heap.size w wr := andThen HLO.out hlow
    clear hbr hlow
    by_cases hlt : k < n
    · obtain ⟨x, hx⟩ := get_some (l := L) (k := k) (by rw [HLN.out]; exact hlt)
      have hcx : wr.cell? ⟨b3, o3 + k, none⟩ = some (.int .i64 x) := by
        rw [hlw.cell (p := ⟨b3, o3 + k, none⟩) HHW.out]
        exact HC3.out k _ (by rw [List.getElem?_map, hx]; rfl)
      obtain ⟨d0, d1⟩ := HD.out x (List.mem_of_getElem? hx)
      have hgx : L.getD k 0 = x := by rw [List.getD_eq_getElem?_getD, hx]; rfl
      have hkz : k ≤ 64 := by have := HZN.out; omega
      have hT : (S (txq s L k)).size ≤ 1048576 := by rw [S_size]; have := txq_len s L k; omega
      have HX := Lib.hid (show S (txq s L (k + 1)) = (S (txq s L k) ++ S (if 0 < x then [UInt8.ofNat (48 + x.toNat)] else [])) ++ S (if k < s.length then [s.getD k 0] else []) by
        rw [txq_succ]
        unfold tpc
        rw [hgx, S_app, S_app, List.append_assoc])
      have hki : (k : Int) ≤ (Z.size : Int) := by have := HZN.out; omega
      have hkn : (k : Int) < (n : Int) := by omega
      have HLW := Lib.hid hlw
      clear hx hgx hlw
      generalize hTT : S (txq s L k) = T at hT HX
      have HTT := Lib.hid hTT
      clear hTT
      have HEX := Lib.hid (fun h : k < s.length => (by rw [← HZ.out]; exact ext_one h : Z.extract k (k + 1) = S [s.getD k 0]))
      by_cases h0 : 0 < x
      · obtain ⟨m, rfl⟩ : ∃ m : Nat, x = m := ⟨x.toNat, by omega⟩
        have hwr : IntKind.i64.wrap (48 + (m : Int)) = 48 + (m : Int) := IntWalk.i64_in _ (by omega)
        have hwu : IntKind.u8.wrap (48 + (m : Int)) = 48 + (m : Int) := IntWalk.u8_in _ (by omega)
        have hcv : (convert 168 9 (.slice (some ⟨wr.heap.size, 0, none⟩) 1 1)).run Try.prog (wr.alloc (.cells #[.int .u8 (48 + (m : Int))] 5)) = .ok (.string (S [UInt8.ofNat (48 + m)])) (wr.alloc (.cells #[.int .u8 (48 + (m : Int))] 5)) := conv_u8 _ _ (48 + m) (by omega) (by rw [(Blk.new' rfl).cell 0]; simp)
        generalize hDD : S [UInt8.ofNat (48 + m)] = D at hcv
        have hD1 : D.size ≤ 1 := by rw [← hDD, S_size]; exact Nat.le_refl _
        have HDD := Lib.hid hDD
        clear hDD
        have hz1 : ¬ 9223372036854775807 < T.size + D.size := by omega
        by_cases h1 : (k : Int) < (Z.size : Int)
        · have hks : k < s.length := by have := HSS.out; omega
          have hz2 : ¬ 9223372036854775807 < (T ++ D).size + (Z.extract k (k + 1)).size := by rw [ByteArray.size_append, ByteArray.size_extract]; omega
          go_wp2_with fail
          go_roundw
          case rel => exact ⟨k + 1, by omega, by go_num, by rw [HX.out, if_pos h0, if_pos hks, Int.toNat_natCast, HDD.out, HEX.out hks], andAlloc HLOW.out _⟩
          case measure => simp [intOf]; omega
        · have hks : ¬ k < s.length := by have := HSS.out; omega
          go_wp2_with fail
          go_roundw
          case rel => exact ⟨k + 1, by omega, by go_num, by rw [HX.out, if_pos h0, if_neg hks, Int.toNat_natCast, HDD.out, S_nil], andAlloc HLOW.out _⟩
          case measure => simp [intOf]; omega
      · by_cases h1 : (k : Int) < (Z.size : Int)
        · have hks : k < s.length := by have := HSS.out; omega
          have hz2 : ¬ 9223372036854775807 < T.size + (Z.extract k (k + 1)).size := by rw [ByteArray.size_extract]; omega
          go_wp2_with fail
          go_roundw
          case rel => exact ⟨k + 1, by omega, by go_num, by rw [HX.out, if_neg h0, if_pos hks, S_nil, HEX.out hks], HLOW.out⟩
          case measure => simp [intOf]; omega
        · have hks : ¬ k < s.length := by have := HSS.out; omega
          go_wp2_with fail
          go_roundw
          case rel => exact ⟨k + 1, by omega, by go_num, by rw [HX.out, if_neg h0, if_neg hks, S_nil, S_nil], HLOW.out⟩
          case measure => simp [intOf]; omega
    · obtain rfl : k = n := by omega
      have hki : ¬ (k : Int) ≤ (Z.size : Int) := by have := HZN.out; omega
      have HF := Lib.hid hlw
      clear hlw
      go_wp2_with fail
      go_ret
      subst hg5
      exact ⟨rfl, HF.out⟩
/-- The texts of patterns. -/
def ltx (L : List Xc) : List Nm := L.map fun p => txq p.1 p.2 p.2.length
theorem ltx_take {L : List Xc} {k : Nat} {p : Xc} (h : L[k]? = some p) : (ltx (L.take (k + 1))).map tv = (ltx (L.take k)).map tv ++ [tv (txq p.1 p.2 p.2.length)] := by
  unfold ltx
  rw [List.take_add_one, h]
  simp
set_option maxHeartbeats 4000000 in
set_option maxRecDepth 100000 in
theorem rpatterns_any (B q : Nat) (L X : List Xc) (pv xv : Value) (w : World) (h : DAt w B q L X pv xv) (hf : L.length ≤ 5000) (hi : ∀ p ∈ L, p.2.length = p.1.length + 1 ∧ p.1.length ≤ 63 ∧ ∀ x ∈ p.2, 0 ≤ x ∧ x ≤ 9) :
    Calls Try.prog 93 #[.pointer (some ⟨q, 0, none⟩)] w fun e w' => ∃ v, e = .returned v ∧ w'.ownsRow w.heap.size 9 1 v L.length ((ltx L).map tv) ∧ Below w.heap.size w w' := by
  have HD := Lib.hid (fun W (hb : Below w.heap.size w W) => h.below hb)
  have HI := Lib.hid hi
  obtain ⟨A, cP, rfl, hnc, hcm, hA⟩ := h.pr.slice
  generalize hln : L.length = n at *
  have HLN := Lib.hid hln
  clear h hi hln
  go_enter Try.func93, Try.ntmps93
  go_wp2_with fail
  go_loopw [3, 4] (fun v3 v4 wr => ∃ k : Nat, k ≤ n ∧ v4 = .int .i64 (k : Int) ∧ wr.ownsRow w.heap.size 9 1 v3 k ((ltx (L.take k)).map tv) ∧ Below w.heap.size w wr) (fun _ v4 _ => n - (intOf v4).toNat)
  case atStart => exact ⟨0, by omega, rfl, World.ownsRow_nil _ _ _ _, Below.refl _ _⟩
  case round =>
    obtain ⟨k, hk, rfl, hown, hlow⟩ := hrel
    have hd := HD.out wr hlow
    have cq : wr.cell? ⟨q, 0, none⟩ = some (.slice A n cP) := hd.blk.cell 0
    have hq : q < wr.heap.size := hd.blk.lt
    have HOW := Lib.hid hown
    have HLO := Lib.hid hlow
    clear hown hlow
    by_cases hlt : k < n
    · obtain ⟨p, hp⟩ := get_some (l := L) (k := k) (by rw [HLN.out]; exact hlt)
      obtain ⟨gP, cP', u, he, _, _, hgl, cy, cu, hu⟩ := hd.pr.get hp
      injection he with he e2 e3
      subst he
      subst e3
      clear e2
      obtain ⟨Au, cu2, rfl, _, _, hsu⟩ := Seg.of_own hu
      obtain ⟨i1, i2, i3⟩ := HI.out p (List.mem_of_getElem? hp)
      have HT := Lib.hid (fun W (hb : Below wr.heap.size wr W) => rptext_any p.1 p.2 Au cu2 W i1 i2 i3 ((hsu.below hb).more hb.size))
      have HX := Lib.hid (ltx_take hp)
      have hkn : (k : Int) < (n : Int) := by omega
      clear hp hu hsu hd i1 i2 i3
      generalize hYY : S p.1 = Y at *
      generalize hTX : txq p.1 p.2 p.2.length = TX at *
      generalize p.2.length = m at *
      go_wp2_with fail
      refine (HT.out wr (Below.refl _ _)).mono ?_
      rintro e w6 ⟨rfl, hb6⟩
      have HO6 := Lib.hid (own_below HOW.out hb6)
      have HL6 := Lib.hid (andThen HLO.out hb6)
      clear hb6
      go_wp2_with (at_builtin; refine wpList_push rfl _ _ 41 rfl w.heap.size 9 _ 1 16 Try.underlying41 info_text rfl (by decide) (by decide) _ _ _ rfl HO6.out HL6.out.size _ rfl rfl rfl (by simp) (by omega) ?_; intro v7 w7 hown7 hg7 hn7; have HD7 := Lib.hid (And.intro hown7 (below_grown (Nat.le_refl _) (andAlloc HL6.out _) hg7 (fun k hk => (HO6.out.lt k hk).1))); clear hown7 hg7 hn7)
      go_roundw
      case rel => exact ⟨k + 1, by omega, by go_num, by rw [HX.out]; exact HD7.out.1, HD7.out.2⟩
      case measure => clear hkn; simp [intOf]; omega
    · obtain rfl : k = n := by omega
      have hkn : ¬ (k : Int) < (k : Int) := by omega
      have HX := Lib.hid (show L.take k = L from List.take_of_length_le (by rw [HLN.out]; exact Nat.le_refl _))
      clear hd
      go_wp2_with fail
      go_ret
      exact ⟨_, rfl, by have h := HOW.out; rw [HX.out] at h; exact h, HLO.out⟩
end Go.Proofs.Ytmcekdjhkjhcdaa.Hy

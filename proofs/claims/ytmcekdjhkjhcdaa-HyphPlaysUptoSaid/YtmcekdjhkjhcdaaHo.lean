import Derived.Test.YtmcekdjhkjhcdaaHn
/- ApartInts of one list that is nil; asks of none; HyphNil's walk. Conditions: those that each theorem names. -/
namespace Go.Proofs.Ytmcekdjhkjhcdaa.Hy
open Go.ChangeShapes Go.WideShapes Go.ChangeAt Go.RowKit
open Me Hp
set_option linter.unusedVariables false
set_option linter.unusedSimpArgs false

theorem info_sl : (Try.prog.info? 42).map (fun i => (i.zero, i.size, i.bytes)) = some (some (.slice none 0 0), 1, 24) := by kernel_rfl
theorem ne_sl : (42 : Nat) ≠ 3 := by decide
theorem own_cell {w : World} {B n : Nat} {e : TypeId} {u x : Value} {l : List Value} (h : w.ownsRow B e 1 u n l) {k : Nat} (hx : l[k]? = some x) : ∃ g c : Nat, u = .slice (some ⟨g, 0, none⟩) n c ∧ g < w.heap.size ∧ B ≤ g ∧ w.cell? ⟨g, k, none⟩ = some x := by
  have hl := h.1
  have hk := (List.getElem?_eq_some_iff.1 hx).1
  rcases h.2 with ⟨_, h0⟩ | ⟨g, cap, cur, h', hb, hg, hnc, hcm, hcs, htake⟩
  · omega
  · refine ⟨g, cap, h', (Array.getElem?_eq_some_iff.1 hg).1, hb, ?_⟩
    subst h'
    exact (h.cellAt k (by omega)).trans hx
/-- A list that grows, each time by a mark. -/
structure Gr (w : World) (k : Nat) (u : Value) (wr : World) : Prop where
  own : wr.ownsRow w.heap.size 3 1 u k (List.replicate k (iv 2000))
  low : Below w.heap.size w wr
theorem Gr.push {w : World} {k : Nat} {u u' : Value} {wr w' : World} (h : Gr w k u wr) {z : Int} (hz : z = 2000)
    (ho : w'.ownsRow w.heap.size 3 1 u' (k + 1) (List.replicate k (iv 2000) ++ #[iv z].toList)) (hg : (wr.alloc (.cells #[iv z] 3)).grownBy w' u.ownBlock) : Gr w (k + 1) u' w' := by
  subst hz
  have h1 := h.own.alloc (.cells #[iv 2000] 3)
  refine ⟨?_, below_grown (Nat.le_refl _) (andAlloc h.low _) hg fun k hk => (h1.lt k hk).1⟩
  rw [List.replicate_succ']
  simpa using ho
theorem Gr.other {w : World} {k : Nat} {u v : Value} {wr w' : World} {n : Nat} {xs : List Value} (h : Gr w k u wr) (hv : wr.ownsRow w.heap.size 42 1 v n xs) {y : Value} (hg : (wr.alloc (.cells #[y] 42)).grownBy w' v.ownBlock) : Gr w k u w' := by
  have h1 := h.own.alloc (.cells #[y] 42)
  have h2 := hv.alloc (.cells #[y] 42)
  refine ⟨h1.kept hg ?_, below_grown (Nat.le_refl _) (andAlloc h.low _) hg fun k hk => (h2.lt k hk).1⟩
  rcases own_apart h1 h2 ne_sl.symm with e | e
  · exact .inl e
  · exact .inr e
set_option maxRecDepth 100000 in
set_option maxHeartbeats 1000000 in
theorem apart_nil (b : Nat) (w : World) (hb : b < w.heap.size) (hc : w.cell? ⟨b, 0, none⟩ = some (.slice none 0 0)) : Calls Try.prog 89 #[.slice (some ⟨b, 0, none⟩) 1 1] w fun e w' => e = .returned (.bool true) ∧ Below w.heap.size w w' := by
  have HC := Lib.hid (And.intro hb hc)
  go_enter Try.func89, Try.ntmps89
  go_wp2_with fail
  go_loopw [4] (fun v4 wr => (v4 = .int .i64 0 ∨ v4 = .int .i64 1) ∧ w = wr) (fun v4 _ => 1 - (intOf v4).toNat)
  case atStart => exact ⟨.inl rfl, rfl⟩
  case round =>
    obtain ⟨rfl | rfl, rfl⟩ := hrel
    · go_wp2_with fail
      go_loopw [5] (fun v5 wr => v5 = .int .i64 0 ∧ w = wr) (fun _ _ => 0)
      case atStart => exact ⟨rfl, rfl⟩
      case round =>
        obtain ⟨rfl, rfl⟩ := hrel
        go_wp2_with fail
        go_roundw
        case rel => exact ⟨.inr rfl, trivial⟩
        case measure => decide
    · go_wp2_with fail
      go_loopw [3, 6] (fun v3 v6 wr => (v6 = .int .i64 0 ∧ w.ownsRow w.heap.size 42 1 v3 0 [] ∧ w = wr) ∨ (v6 = .int .i64 1 ∧ ∃ u, wr.ownsRow w.heap.size 42 1 v3 1 [u] ∧ Gr w 40 u wr)) (fun _ v6 _ => 1 - (intOf v6).toNat)
      case atStart => exact .inl ⟨rfl, World.ownsRow_nil _ _ _ _, rfl⟩
      case round =>
        rcases hrel with ⟨rfl, hown, rfl⟩ | ⟨rfl, u, hown, hgr⟩
        · have HO := Lib.hid hown
          clear hown
          go_wp2_with fail
          go_loopw [7, 8] (fun v7 v8 wr => ∃ k : Nat, k ≤ 40 ∧ v8 = .int .i64 (k : Int) ∧ Gr w k v7 wr) (fun _ v8 _ => 40 - (intOf v8).toNat)
          case atStart => exact ⟨0, by omega, rfl, World.ownsRow_nil _ _ _ _, Below.refl _ _⟩
          case round =>
            obtain ⟨k, hk, rfl, hG⟩ := hrel
            have HG := Lib.hid hG
            clear hG
            by_cases hlt : (k : Int) < 40
            · go_wp2_with (at_builtin; refine wpList_push rfl _ _ 42 rfl w.heap.size 3 _ 1 8 Try.underlying42 info_int rfl (by decide) (by decide) _ _ _ rfl HG.out.own HG.out.low.size _ rfl rfl rfl (by simp) (by omega) ?_; intro v7 w7 hown7 hg7 hn7; have HG7 := Lib.hid (HG.out.push (by rfl) hown7 hg7); clear hown7 hg7)
              go_roundw
              case rel => exact ⟨k + 1, by omega, by go_num, HG7.out⟩
              case measure => simp [intOf]; omega
            · obtain rfl : k = 40 := by omega
              obtain ⟨g, c, hu, hgl, hgb, hgc⟩ := own_cell HG.out.own (k := 0) (x := iv 2000) rfl
              subst hu
              have HO2 := Lib.hid (own_below HO.out HG.out.low)
              go_wp2_with (at_builtin; refine wpList_push rfl _ _ 164 rfl w.heap.size 42 _ 1 24 Try.underlying164 info_sl rfl (by decide) (by decide) _ _ _ rfl HO2.out HG.out.low.size _ rfl rfl rfl (by simp) (by decide) ?_; intro v7 w7 hown7 hg7 hn7; have HG7 := Lib.hid (HG.out.other HO2.out hg7); have HO7 := Lib.hid hown7; clear hown7 hg7)
              go_roundw
              case rel => exact .inr ⟨rfl, _, HO7.out, HG7.out⟩
              case measure => decide
        · obtain ⟨g3, c3, rfl, hg3, _, hc3⟩ := own_cell hown (k := 0) (x := u) rfl
          obtain ⟨gu, cu, rfl, hgu, _, _⟩ := own_cell hgr.own (k := 0) (x := iv 2000) rfl
          have HG := Lib.hid hgr
          have hb2 : wr.cell? ⟨b, 0, none⟩ = some (.slice none 0 0) := (hgr.low.cell (p := ⟨b, 0, none⟩) HC.out.1).trans HC.out.2
          clear hown hgr
          go_wp2_with fail
          obtain ⟨W, hW⟩ : ∃ W, W = wr := ⟨_, rfl⟩
          subst hW
          go_loopw [9] (fun v9 wr => (v9 = .int .i64 0 ∨ v9 = .int .i64 1) ∧ W = wr) (fun v9 _ => 1 - (intOf v9).toNat)
          case atStart => exact ⟨.inl rfl, rfl⟩
          case round =>
            obtain ⟨rfl | rfl, rfl⟩ := hrel
            · go_wp2_with fail
              go_loopw [10] (fun v10 wr => ∃ k : Nat, k ≤ 40 ∧ v10 = .int .i64 (k : Int) ∧ W = wr) (fun v10 _ => 40 - (intOf v10).toNat)
              case atStart => exact ⟨0, by omega, rfl, rfl⟩
              case round =>
                obtain ⟨k, hk, rfl, rfl⟩ := hrel
                by_cases hlt : (k : Int) < 40
                · obtain ⟨g4, c4, he, _, _, hck⟩ := own_cell HG.out.own (k := k) (x := iv 2000) (by rw [List.getElem?_replicate, if_pos (by omega)])
                  injection he with he _ _
                  injection he with he
                  injection he with he _ _
                  subst he
                  go_wp2_with fail
                  go_roundw
                  case rel => exact ⟨k + 1, by omega, by go_num, trivial⟩
                  case measure => simp [intOf]; omega
                · obtain rfl : k = 40 := by omega
                  go_wp2_with fail
                  go_roundw
                  case rel => exact ⟨.inr rfl, trivial⟩
                  case measure => decide
            · go_wp2_with fail
              go_ret
              exact ⟨rfl, HG.out.low⟩
end Go.Proofs.Ytmcekdjhkjhcdaa.Hy

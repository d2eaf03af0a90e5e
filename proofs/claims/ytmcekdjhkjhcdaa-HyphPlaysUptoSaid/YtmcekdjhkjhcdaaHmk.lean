import Derived.Test.YtmcekdjhkjhcdaaHo
import Derived.Test.YtmcekdjhkjhcdaaHdw
import Derived.Room.AppendOwn
import Derived.ArgAppend
/- ApartInts of one slice that lies anywhere in the call's own memory. Conditions: those that each theorem names. -/
namespace Go.Proofs.Ytmcekdjhkjhcdaa.Hy
open Go.ChangeShapes Go.WideShapes Go.ChangeAt Go.RowKit
open Me Hp
set_option linter.unusedVariables false
set_option linter.unusedSimpArgs false
/-- The row, as far as it is written over. -/
structure AF (w : World) (base b g o n c k : Nat) (wr : World) : Prop where
  blk : Blk wr b 42 #[.slice (some ⟨g, o, none⟩) n c]
  row : ∃ cs, Blk wr g 3 cs ∧ o + c ≤ cs.size ∧ ∀ j, j < k → cs[o + j]? = some (iv 1000)
  low : Below base w wr
/-- The same row, and v: it with k marks more. -/
structure AG (w : World) (base b g o n c k : Nat) (v : Value) (wr : World) : Prop where
  blk : Blk wr b 42 #[.slice (some ⟨g, o, none⟩) n c]
  row : ∃ cs, Blk wr g 3 cs ∧ o + c ≤ cs.size ∧ (∀ j, j < n → cs[o + j]? = some (iv 1000)) ∧
    ((n + k ≤ c ∧ v = .slice (some ⟨g, o, none⟩) (n + k) c ∧ ∀ j, j < k → cs[o + n + j]? = some (iv 2000)) ∨
     (wr.ownsRow base 3 1 v (n + k) (List.replicate n (iv 1000) ++ List.replicate k (iv 2000)) ∧ v.ownBlock ≠ some g))
  low : Below base w wr
section
variable {w wr w' : World} {base b g o n c k : Nat} {v v' : Value}
theorem apb_ne (h : Blk w b 42 #[v]) {cs : Array Value} (h2 : Blk w g 3 cs) : b ≠ g := by
  rintro rfl
  have a : w.heap[b]? = some (.cells _ 42 (0, 0)) := h
  have e : w.heap[b]? = some (.cells _ 3 (0, 0)) := h2
  rw [a] at e
  simp only [Option.some.injEq, Obj.cells.injEq] at e
  exact ne_sl e.2.1
theorem AF.next (h : AF w base b g o n c k wr) (hk : k < c) (hg : base ≤ g) : AF w base b g o n c (k + 1) (wr.setCell ⟨g, o + k, none⟩ (.int .i64 1000)) := by
  obtain ⟨cs, hb, hs, hx⟩ := h.row
  refine ⟨h.blk.far (p := ⟨g, o + k, none⟩) (apb_ne h.blk hb) _, ⟨_, hb.set (o + k) _, by simpa using hs, fun j hj => ?_⟩, below_set h.low hg _ _⟩
  by_cases hjk : j = k
  · subst hjk
    rw [Array.getElem?_setIfInBounds_self_of_lt (by omega)]
  · rw [Array.getElem?_setIfInBounds_ne (by omega)]
    exact hx j (by omega)
theorem AF.full (h : AF w base b g o n c n wr) (hn : n ≤ c) : AG w base b g o n c 0 (.slice (some ⟨g, o, none⟩) n c) wr := by
  obtain ⟨cs, hb, hs, hx⟩ := h.row
  exact ⟨h.blk, ⟨cs, hb, hs, hx, .inl ⟨hn, rfl, fun j hj => by omega⟩⟩, h.low⟩
theorem AG.kept {y : Value} {t : TypeId} (h : AG w base b g o n c k v wr) (hb : base ≤ wr.heap.size) (hg : (wr.alloc (.cells #[y] t)).grownBy w' none) : AG w base b g o n c k v w' := by
  have hk : Below wr.heap.size wr w' := below_grown (Nat.le_refl _) (andAlloc (Below.refl _ _) _) hg (by intro q hq; cases hq)
  obtain ⟨cs, h1, h2, h3, h4⟩ := h.row
  refine ⟨h.blk.below hk h.blk.lt, ⟨cs, h1.below hk h1.lt, h2, h3, ?_⟩, h.low.trans (hk.mono hb)⟩
  rcases h4 with h4 | ⟨h4, h5⟩
  · exact .inl h4
  · exact .inr ⟨own_below h4 hk, h5⟩
theorem AG.all (h : AG w base b g o n c k v wr) {j : Nat} (hj : j < n) : wr.cell? ⟨g, o + j, none⟩ = some (.int .i64 1000) := by
  obtain ⟨cs, h1, h2, h3, h4⟩ := h.row
  rw [h1.cell]
  exact h3 j hj
theorem AG.glt (h : AG w base b g o n c k v wr) : g < wr.heap.size := by
  obtain ⟨cs, h1, _⟩ := h.row
  exact h1.lt
theorem AG.cell (h : AG w base b g o n c k v wr) (hk : 0 < n + k) : ∃ g' o' c' : Nat, v = .slice (some ⟨g', o', none⟩) (n + k) c' ∧ g' < wr.heap.size ∧ ∀ j, j < n + k → wr.cell? ⟨g', o' + j, none⟩ = some (.int .i64 (if j < n then 1000 else 2000)) := by
  obtain ⟨cs, h1, h2, h3, h4⟩ := h.row
  rcases h4 with ⟨h4, rfl, h5⟩ | ⟨h4, h5⟩
  · refine ⟨g, o, c, rfl, h1.lt, fun j hj => ?_⟩
    rw [h1.cell]
    by_cases hjn : j < n
    · rw [if_pos hjn]; exact h3 j hjn
    · rw [if_neg hjn]
      have := h5 (j - n) (by omega)
      rw [show o + n + (j - n) = o + j by omega] at this
      exact this
  · rcases h4.2 with ⟨_, h0⟩ | ⟨g', cap, cur, h', _, hg', _⟩
    · omega
    · subst h'
      refine ⟨g', 0, cap, rfl, (Array.getElem?_eq_some_iff.1 hg').1, fun j hj => ?_⟩
      rw [Nat.zero_add, h4.cellAt j (by omega)]
      by_cases hjn : j < n
      · rw [if_pos hjn, List.getElem?_append_left (by simpa using hjn), List.getElem?_replicate, if_pos hjn]
      · rw [if_neg hjn, List.getElem?_append_right (by simp; omega), List.getElem?_replicate, if_pos (by simp; omega)]
end
theorem set_one (w : World) (g i : Nat) (u : Value) : w.setCells g i [u] = w.setCell ⟨g, i, none⟩ u := rfl
/-- One mark more. -/
theorem wpList_mark {ops : Array Oper} {rest : List Oper} {q : Oper} {a : Act} {Q : Exit → Act → World → Prop} {w wr : World} {base b g o n c k : Nat} {v : Value} (hgd : q.guard = none) (s x : Operand)
    (ho : q.op = .call { callee := .builtin .append, args := #[s, x], argTypes := #[42, 42] }) (h : AG w base b g o n c k v wr) (hs : a.eval s = v) (hB : base ≤ w.heap.size) (hle : base ≤ wr.heap.size) (hbg : base ≤ g) {g2 : Nat}
    (hx : a.eval x = .slice (some ⟨g2, 0, none⟩) 1 1) (hg2 : g2 = wr.heap.size) {z : Int} (hz : z = 2000) (hlen : n + k ≤ 1000000)
    (K : ∀ v' w', AG w base b g o n c (k + 1) v' w' → base ≤ w'.heap.size → wpList Try.prog ops Q rest (a.put q.dst v') w') :
    wpList Try.prog ops Q (q :: rest) a (wr.alloc (.cells #[.int .i64 z] 3)) := by
  subst hz
  obtain ⟨cs, h1, h2, h3, h4⟩ := h.row
  rcases h4 with ⟨h4, rfl, h5⟩ | ⟨h4, h5⟩
  · refine wpList_plain hgd fun K0 hK => ?_
    subst hg2
    obtain ⟨i, hi, hz, hsi, hbi⟩ := info_parts info_int
    have b1 := h1.alloc (.cells #[.int .i64 2000] 3)
    have hnew := Blk.new wr 3 #[.int .i64 2000]
    have hnews : ∀ j u, [Value.int .i64 2000][j]? = some u → (wr.alloc (.cells #[.int .i64 2000] 3)).cell? ((⟨wr.heap.size, 0, none⟩ : Addr).add j) = some u := by
      intro j u hu
      cases j with
      | zero =>
        have : (⟨wr.heap.size, 0, none⟩ : Addr).add 0 = ⟨wr.heap.size, 0, none⟩ := by simp [Addr.add]
        rw [this, hnew.cell]
        simpa using hu
      | succ j => simp at hu
    by_cases hroom : n + k + 1 ≤ c
    · have hr := run_append_room_cells (P := Try.prog) (wr.alloc (.cells #[.int .i64 2000] 3)) 42 q.type 3 i Try.underlying42 hi g o (n + k) c ⟨wr.heap.size, 0, none⟩ 1 1 [.int .i64 2000] (by simp [hsi]) hnews (by intro u hu; simp at hu; subst hu; rfl) hroom
        (fun j hj => by
          simp only [List.length_singleton] at hj
          rw [b1.cell, hsi]
          have : o + (n + k) * 1 + j < cs.size := by omega
          rw [Array.getElem?_eq_getElem this]
          rfl) (fun j hj => b1.free _)
      unfold Oper.wp execOp
      simp only [ho, resolve, invoke, builtin, Sem.run_bind, Sem.run_pure, Result.andThen_ok, List.map_toArray, List.map_cons, List.map_nil, hs, hx, hr]
      refine hK _ _ (K _ _ ?_ (by simp [set_one]; omega))
      rw [hsi, Nat.mul_one, set_one]
      have bb := h.blk.alloc (.cells #[.int .i64 2000] 3)
      refine ⟨bb.far (p := ⟨g, o + (n + k), none⟩) (apb_ne bb b1) _, ⟨_, b1.set _ _, by simpa using h2, fun j hj => ?_, .inl ⟨by omega, by congr 1, fun j hj => ?_⟩⟩, below_set (h.low.alloc hle _) hbg _ _⟩
      · rw [Array.getElem?_setIfInBounds_ne (by omega)]; exact h3 j hj
      · by_cases hjk : j = k
        · subst hjk
          rw [show o + n + j = o + (n + j) by omega, Array.getElem?_setIfInBounds_self_of_lt (by omega)]
        · rw [Array.getElem?_setIfInBounds_ne (by omega)]; exact h5 j (by omega)
    · obtain ⟨v', w', hr, h6, h7⟩ := run_append_arg_grows (P := Try.prog) (wr.alloc (.cells #[.int .i64 2000] 3)) 42 q.type 3 i _ 1 8 Try.underlying42 hi hz hsi hbi rfl (by decide) ⟨g, o, none⟩ (n + k) c (List.replicate n (iv 1000) ++ List.replicate k (iv 2000)) (by simp)
        (fun j u hu => by
          have hadd : (⟨g, o, none⟩ : Addr).add j = ⟨g, o + j, none⟩ := by unfold Addr.add; split <;> simp_all
          rw [hadd, b1.cell]
          by_cases hjn : j < n
          · rw [List.getElem?_append_left (by simpa using hjn), List.getElem?_replicate, if_pos hjn] at hu
            rw [← hu]; exact h3 j hjn
          · rw [List.getElem?_append_right (by simp; omega), List.getElem?_replicate] at hu
            simp only [List.length_replicate] at hu
            split at hu
            · have := h5 (j - n) (by assumption)
              rw [show o + n + (j - n) = o + j by omega] at this
              rw [this, hu]
            · cases hu) ⟨wr.heap.size, 0, none⟩ 1 1 [.int .i64 2000] (by simp) hnews (by omega) (by unfold maxLen; omega) (by omega)
      unfold Oper.wp execOp
      simp only [ho, resolve, invoke, builtin, Sem.run_bind, Sem.run_pure, Result.andThen_ok, List.map_toArray, List.map_cons, List.map_nil, hs, hx, hr]
      have bb := h.blk.alloc (.cells #[.int .i64 2000] 3)
      have hsz : (wr.alloc (.cells #[.int .i64 2000] 3)).heap.size ≤ w'.heap.size := h7.size
      have hsz2 : (wr.alloc (.cells #[.int .i64 2000] 3)).heap.size = wr.heap.size + 1 := by simp
      refine hK _ _ (K _ _ ⟨bb.grown h7 (by simp), ⟨cs, b1.grown h7 (by simp), h2, h3, .inr ⟨?_, ?_⟩⟩, below_grown hB (h.low.alloc hle _) h7 (by intro q hq; cases hq)⟩ (by omega))
      · rw [List.append_assoc, ← List.replicate_succ'] at h6
        exact own_base h6 (by omega)
      · intro e
        have := (h6.lt g e).1
        have := h1.lt
        omega
  · refine wpList_push_at hgd s x 42 ho base 3 _ 1 8 Try.underlying42 info_int rfl (by decide) (by decide) v (n + k) _ hs h4 hle #[.int .i64 2000] rfl rfl hx hg2 (by omega) fun v' w' ho' hg' h6 => ?_
    have b1 := h1.alloc (.cells #[.int .i64 2000] 3)
    have bb := h.blk.alloc (.cells #[.int .i64 2000] 3)
    have hne := own_not_blk h4 h.blk ne_sl.symm
    have hsz := hg'.size
    have hsz2 : (wr.alloc (.cells #[.int .i64 2000] 3)).heap.size = wr.heap.size + 1 := by simp
    refine K _ _ ⟨bb.grown hg' ?_, ⟨cs, b1.grown hg' (Ne.symm h5), h2, h3, .inr ⟨?_, ?_⟩⟩, below_grown hB (h.low.alloc hle _) hg' fun q hq => (h4.lt q hq).1⟩ (by omega)
    · rcases hne with h7 | h7
      · rw [h7]; simp
      · exact Ne.symm h7
    · have : List.replicate n (iv 1000) ++ List.replicate k (iv 2000) ++ (#[Value.int .i64 2000] : Array Value).toList = List.replicate n (iv 1000) ++ List.replicate (k + 1) (iv 2000) := by
        rw [List.append_assoc, List.replicate_succ']
      rw [this] at ho'
      exact ho'
    · rcases h6 with h6 | ⟨q, h6, h7⟩
      · rw [h6]; exact h5
      · rw [h6]
        intro e
        injection e with e
        have := h1.lt
        omega
set_option maxRecDepth 100000 in
set_option maxHeartbeats 2000000 in
theorem apart_at (w : World) (base b g o n c : Nat) (cs : Array Value) (hb : Blk w b 42 #[.slice (some ⟨g, o, none⟩) n c]) (ho : Blk w g 3 cs) (hs : o + c ≤ cs.size) (hnc : n ≤ c) (hn : n ≤ 1000) (hB : base ≤ w.heap.size) (hg : base ≤ g) :
    Calls Try.prog 89 #[.slice (some ⟨b, 0, none⟩) 1 1] w fun e w' => e = .returned (.bool true) ∧ Below base w w' := by
  have HF0 := Lib.hid (show AF w base b g o n c 0 w from ⟨hb, ⟨cs, ho, hs, fun j hj => absurd hj (Nat.not_lt_zero _)⟩, Below.refl _ _⟩)
  clear hb ho hs
  go_enter Try.func89, Try.ntmps89
  go_wp2_with fail
  go_loopw [4] (fun v4 wr => (v4 = .int .i64 0 ∧ AF w base b g o n c 0 wr) ∨ (v4 = .int .i64 1 ∧ AF w base b g o n c n wr)) (fun v4 _ => 1 - (intOf v4).toNat)
  case atStart => exact .inl ⟨rfl, HF0.out⟩
  case round =>
    rcases hrel with ⟨rfl, hF⟩ | ⟨rfl, hF⟩
    · have HF := Lib.hid hF
      clear hF
      go_wp2_with fail
      go_loopw [5] (fun v5 wr => ∃ k : Nat, k ≤ n ∧ v5 = .int .i64 (k : Int) ∧ AF w base b g o n c k wr) (fun v5 _ => n - (intOf v5).toNat)
      case atStart => exact ⟨0, by omega, rfl, HF.out⟩
      case round =>
        obtain ⟨k, hk, rfl, hF⟩ := hrel
        have b0 : wr.cell? ⟨b, 0, none⟩ = some (.slice (some ⟨g, o, none⟩) n c) := (hF.blk.cell 0).trans rfl
        have bl := hF.blk.lt
        by_cases hlt : k < n
        · obtain ⟨cs, ho, hs, hx⟩ := hF.row
          obtain ⟨x, hxk⟩ : ∃ x, cs[o + k]? = some x := ⟨cs[o + k]'(by omega), by simp⟩
          have g0 : wr.cell? ⟨g, o + k, none⟩ = some x := (ho.cell (o + k)).trans hxk
          have g1 := ho.free (o + k)
          have g2 := ho.lt
          have hki : (k : Int) < (n : Int) := by omega
          have HN := Lib.hid (hF.next (by omega) hg)
          clear hF ho hx hxk hs
          go_wp2_with fail
          go_roundw
          case rel => exact ⟨k + 1, by omega, by go_num, HN.out⟩
          case measure => simp [intOf]; omega
        · obtain rfl : k = n := by omega
          have HN := Lib.hid hF
          clear hF
          go_wp2_with fail
          go_roundw
          case rel => exact .inr ⟨rfl, HN.out⟩
          case measure => decide
    · have HF := Lib.hid (hF.full hnc)
      have HLE := Lib.hid (Nat.le_trans hB hF.low.size)
      clear hF HF0
      go_wp2_with fail
      go_loopw [3, 6] (fun v3 v6 wr => (v6 = .int .i64 0 ∧ v3 = .slice none 0 0 ∧ base ≤ wr.heap.size ∧ AG w base b g o n c 0 (.slice (some ⟨g, o, none⟩) n c) wr) ∨ (v6 = .int .i64 1 ∧ ∃ u, wr.ownsRow base 42 1 v3 1 [u] ∧ AG w base b g o n c 40 u wr)) (fun _ v6 _ => 1 - (intOf v6).toNat)
      case atStart => exact .inl ⟨rfl, rfl, HLE.out, HF.out⟩
      case round =>
        rcases hrel with ⟨rfl, rfl, hle, hG⟩ | ⟨rfl, u, hown, hG⟩
        · have HG := Lib.hid (And.intro hle hG)
          have b0 : wr.cell? ⟨b, 0, none⟩ = some (.slice (some ⟨g, o, none⟩) n c) := (hG.blk.cell 0).trans rfl
          have bl := hG.blk.lt
          clear hle hG
          go_wp2_with fail
          clear b0 bl
          go_loopw [7, 8] (fun v7 v8 wr => ∃ k : Nat, k ≤ 40 ∧ v8 = .int .i64 (k : Int) ∧ base ≤ wr.heap.size ∧ AG w base b g o n c k v7 wr) (fun _ v8 _ => 40 - (intOf v8).toNat)
          case atStart => exact ⟨0, by omega, rfl, HG.out.1, HG.out.2⟩
          case round =>
            obtain ⟨k, hk, rfl, hle, hG⟩ := hrel
            have HG := Lib.hid hG
            have HLE := Lib.hid hle
            clear hG hle
            by_cases hlt : (k : Int) < 40
            · go_wp2_with (at_builtin; refine wpList_mark rfl _ _ rfl HG.out rfl hB HLE.out hg rfl rfl (by rfl) (by omega) ?_; intro v7 w7 hag hle7; have HG7 := Lib.hid hag; have HL7 := Lib.hid hle7; clear hag hle7)
              go_roundw
              case rel => exact ⟨k + 1, by omega, by go_num, HL7.out, HG7.out⟩
              case measure => simp [intOf]; omega
            · obtain rfl : k = 40 := by omega
              obtain ⟨g7, o7, c7, rfl, hgl, _⟩ := HG.out.cell (by omega)
              go_wp2_with (at_builtin; refine wpList_push_at rfl _ _ 164 rfl base 42 _ 1 24 Try.underlying164 info_sl rfl (by decide) (by decide) _ _ _ rfl (World.ownsRow_nil _ _ _ _) HLE.out _ rfl rfl rfl rfl (by decide) ?_; intro v3 w3 hown3 hg3 hn3; have HG3 := Lib.hid (HG.out.kept HLE.out hg3); have HO3 := Lib.hid hown3; clear hown3 hg3 hn3)
              go_roundw
              case rel => exact .inr ⟨rfl, _, HO3.out, HG3.out⟩
              case measure => decide
        · obtain ⟨g3, c3, rfl, dl, _, d0⟩ := own_cell hown (k := 0) (x := u) rfl
          have b0 : wr.cell? ⟨b, 0, none⟩ = some (.slice (some ⟨g, o, none⟩) n c) := (hG.blk.cell 0).trans rfl
          have bl := hG.blk.lt
          obtain ⟨gu, ou, cu, rfl, hgu, hcu⟩ := hG.cell (by omega)
          have HCU := Lib.hid hcu
          have HG := Lib.hid hG
          clear hown hG hcu
          go_wp2_with fail
          obtain ⟨W, hW⟩ : ∃ W, W = wr := ⟨_, rfl⟩
          subst hW
          go_loopw [9] (fun v9 wr => (v9 = .int .i64 0 ∨ v9 = .int .i64 1) ∧ W = wr) (fun v9 _ => 1 - (intOf v9).toNat)
          case atStart => exact ⟨.inl rfl, rfl⟩
          case round =>
            obtain ⟨rfl | rfl, rfl⟩ := hrel
            · go_wp2_with fail
              go_loopw [10] (fun v10 wr => ∃ k : Nat, k ≤ n + 40 ∧ v10 = .int .i64 (k : Int) ∧ W = wr) (fun v10 _ => n + 40 - (intOf v10).toNat)
              case atStart => exact ⟨0, by omega, rfl, rfl⟩
              case round =>
                obtain ⟨k, hk, rfl, rfl⟩ := hrel
                by_cases hlt : k < n + 40
                · have hck := HCU.out k hlt
                  have hki : (k : Int) < (n : Int) + 40 := by omega
                  by_cases hkn : k < n
                  · rw [if_pos hkn] at hck
                    have hkn2 : (k : Int) < (n : Int) := by omega
                    have h9 : W.cell? ⟨g, o + k, none⟩ = some (.int .i64 1000) := HG.out.all hkn
                    go_wp2_with fail
                    go_roundw
                    case rel => exact ⟨k + 1, by omega, by go_num, trivial⟩
                    case measure => simp [intOf]; omega
                  · rw [if_neg hkn] at hck
                    have hkn2 : ¬ (k : Int) < (n : Int) := by omega
                    go_wp2_with fail
                    go_roundw
                    case rel => exact ⟨k + 1, by omega, by go_num, trivial⟩
                    case measure => simp [intOf]; omega
                · obtain rfl : k = n + 40 := by omega
                  go_wp2_with fail
                  go_roundw
                  case rel => exact ⟨.inr rfl, trivial⟩
                  case measure => decide
            · go_wp2_with fail
              go_ret
              exact ⟨rfl, HG.out.low⟩
end Go.Proofs.Ytmcekdjhkjhcdaa.Hy

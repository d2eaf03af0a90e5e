import Derived.Test.YtmcekdjhkjhcdaaHpa
import Derived.Test.YtmcekdjhkjhcdaaHf
import Derived.Test.YtmcekdjhkjhcdaaHr
import Derived.Test.YtmcekdjhkjhcdaaHrd
import Derived.Deep.RegionHeld3
import Derived.Deep.MidRow
/- Patterns: the closure that walks through the trie. Conditions: those that each theorem names. -/
namespace Go.Proofs.Ytmcekdjhkjhcdaa.Hy
open Go.ChangeShapes Go.WideShapes Go.ChangeAt Go.RowKit
open Me Hp
set_option linter.unusedVariables false
set_option linter.unusedSimpArgs false

theorem info_text : (Try.prog.info? 9).map (fun i => (i.zero, i.size, i.bytes)) = some (some (.string ⟨#[]⟩), 1, 16) := by kernel_rfl
def tv (x : Nm) : Value := .string (S x)
/-- A digit, as a rune, as a text. -/
theorem str_dig (n : Nat) (h0 : 0 < n) (h1 : n ≤ 9) (w : World) : (convert 21 9 (.int .i32 (48 + (n : Int)))).run Try.prog w = .ok (.string (S [UInt8.ofNat (48 + n)])) w := by
  rcases (by omega : n = 1 ∨ n = 2 ∨ n = 3 ∨ n = 4 ∨ n = 5 ∨ n = 6 ∨ n = 7 ∨ n = 8 ∨ n = 9) with rfl | rfl | rfl | rfl | rfl | rfl | rfl | rfl | rfl
  all_goals kernel_rfl
theorem S_app (a b : Nm) : S a ++ S b = S (a ++ b) := by
  apply ByteArray.ext
  rw [ByteArray.data_append]
  apply Array.ext'
  simp [S]
theorem ext_one {s : Nm} {k : Nat} (h : k < s.length) : (S s).extract k (k + 1) = S [s.getD k 0] := by
  rw [ext_eq]
  congr 1
  rw [S_list, List.take_add_one, List.getElem?_eq_getElem h, Option.toList_some, List.drop_append, List.drop_of_length_le (by simp; omega)]
  have hl : (s.take k).length = k := by rw [List.length_take]; omega
  rw [hl, Nat.sub_self, List.getD_eq_getElem?_getD, List.getElem?_eq_getElem h]
  rfl
theorem S_nil (T : ByteArray) : T ++ S [] = T := by
  apply ByteArray.ext
  rw [ByteArray.data_append]
  exact Array.append_empty
def abc : ByteArray := ⟨#[46, 97, 98, 99, 100, 101, 102, 103, 104, 105, 106, 107, 108, 109, 110, 111, 112, 113, 114, 115, 116, 117, 118, 119, 120, 121, 122]⟩
theorem abc_ok : (List.range 27).all (fun k => decide ((abc.extract k (k + 1)).data.toList = [chr k])) = true := by kernel_rfl
theorem abc_get {k : Nat} (h : k < 27) : abc.extract k (k + 1) = S [chr k] := by
  have h1 := abc_ok
  rw [List.all_eq_true] at h1
  have h2 := of_decide_eq_true (h1 k (List.mem_range.2 h))
  rw [← h2, S_eq]
theorem slice_abc (k : Nat) (hk : k < 27) (w : World) : (Instr.slice 9 (.string abc) (some (.int .i64 (k : Int))) (some (.int .i64 ((k : Int) + 1))) none).run Try.prog w = .ok (.string (S [chr k])) w := by
  rw [run_slice_string w _ _ _ _ _ _ Try.underlying9 (by omega) (by omega) (by have : abc.size = 27 := rfl; omega)]
  congr 2
  exact abc_get hk
theorem index27 (cs : List Value) (hl : cs.length = 27) (k : Nat) (hk : k < 27) (z : Int) (h : cs[k]? = some (.int .i64 z)) (w : World) : (Instr.index 139 (.agg cs.toArray) (.int .i64 (k : Int))).run Try.prog w = .ok (.int .i64 z) w := by
  have hu : Try.prog.underlying 139 = some (.array 27 3) := by kernel_rfl
  have h1 : (0 : Int) ≤ (k : Int) ∧ (k : Int) < 27 := ⟨by omega, by omega⟩
  have ha : ∀ w, (isAgg 3).run Try.prog w = .ok false w := fun w => by kernel_rfl
  have hsz : ∀ w, (sizeOf 3).run Try.prog w = .ok 1 w := fun w => by kernel_rfl
  simp [Instr.index, run_underlying hu, asIntOf, h1, go_sem, hsz, part, ha, h]
  intro hh
  omega
theorem kids_le (P : List Pt) (f : Nat) (s : Nm) : ∀ d n, (kids P f s n).length ≤ (kids P f s (n + d)).length
  | 0, n => Nat.le_refl _
  | d + 1, n => by
    have h1 := kids_le P f s d n
    rw [show n + (d + 1) = n + d + 1 by omega, kids_succ, List.length_append]
    omega
theorem ne_sts : (9 : Nat) ≠ 41 := by decide
theorem ne_sth : (9 : Nat) ≠ 44 := by decide
theorem ne_stw : (9 : Nat) ≠ 138 := by decide
/-- What the closure holds: the three captured variables; the texts so far. -/
structure DI (w0 : World) (p ph po pw : Nat) (l : List Nm) (wr : World) : Prop where
  low : Below w0.heap.size w0 wr
  hc : Blk wr ph 44 #[.pointer (some ⟨p, 0, none⟩)]
  wc : Blk wr pw 138 #[.func (.func 83) #[] #[.pointer (some ⟨ph, 0, none⟩), .pointer (some ⟨po, 0, none⟩), .pointer (some ⟨pw, 0, none⟩)]]
  out : ∃ vo, Blk wr po 41 #[vo] ∧ wr.ownsRow w0.heap.size 9 1 vo l.length (l.map tv)
  apart : po ≠ ph ∧ po ≠ pw ∧ w0.heap.size ≤ po
theorem DI.below {w0 : World} {p ph po pw : Nat} {l : List Nm} {wr w' : World} (h : DI w0 p ph po pw l wr) (hb : Below wr.heap.size wr w') : DI w0 p ph po pw l w' := by
  obtain ⟨vo, h1, h2⟩ := h.out
  exact ⟨andThen h.low hb, h.hc.below hb h.hc.lt, h.wc.below hb h.wc.lt, ⟨vo, h1.below hb h1.lt, own_below h2 hb⟩, h.apart⟩
/-- A text more, but the variable does not hold it yet. -/
structure DM (w0 : World) (p ph po pw : Nat) (l : List Nm) (v7 : Value) (wr : World) : Prop where
  low : Below w0.heap.size w0 wr
  hc : Blk wr ph 44 #[.pointer (some ⟨p, 0, none⟩)]
  wc : Blk wr pw 138 #[.func (.func 83) #[] #[.pointer (some ⟨ph, 0, none⟩), .pointer (some ⟨po, 0, none⟩), .pointer (some ⟨pw, 0, none⟩)]]
  out : ∃ vo, Blk wr po 41 #[vo]
  row : wr.ownsRow w0.heap.size 9 1 v7 l.length (l.map tv)
  apart : po ≠ ph ∧ po ≠ pw ∧ w0.heap.size ≤ po
theorem DM.set {w0 : World} {p ph po pw : Nat} {l : List Nm} {v7 : Value} {wr : World} (h : DM w0 p ph po pw l v7 wr) : DI w0 p ph po pw l (wr.setCell ⟨po, 0, none⟩ v7) := by
  obtain ⟨vo, h1⟩ := h.out
  refine ⟨below_set h.low h.apart.2.2 _ _, h.hc.far (by simpa using Ne.symm h.apart.1) _, h.wc.far (by simpa using Ne.symm h.apart.2.1) _, ⟨v7, h1.set 0 v7, h.row.kept (grown_set wr _ _ _) (own_not_blk h.row h1 ne_sts)⟩, h.apart⟩
theorem DI.push {w0 : World} {p ph po pw : Nat} {l : List Nm} {wr w' : World} {vo v7 : Value} {x : Nm} (h : DI w0 p ph po pw l wr) (h1 : Blk wr po 41 #[vo]) (h2 : wr.ownsRow w0.heap.size 9 1 vo l.length (l.map tv))
    (ho : w'.ownsRow w0.heap.size 9 1 v7 (l.length + 1) (l.map tv ++ #[.string (S x)].toList)) (hg : (wr.alloc (.cells #[.string (S x)] 9)).grownBy w' vo.ownBlock) : DM w0 p ph po pw (l ++ [x]) v7 w' := by
  have k2 := h2.alloc (.cells #[.string (S x)] 9)
  have keep : ∀ {q : Nat} {t : TypeId} {cs : Array Value}, Blk wr q t cs → (9 : Nat) ≠ t → Blk w' q t cs := by
    intro q t cs hb hne
    refine (hb.alloc _).grown hg ?_
    intro e
    rcases own_not_blk h2 hb hne with h3 | h3
    · rw [h3] at e; cases e
    · exact h3 e.symm
  refine ⟨below_grown (Nat.le_refl _) (andAlloc h.low _) hg fun k hk => (k2.lt k hk).1, keep h.hc ne_sth, keep h.wc ne_stw, ⟨vo, keep h1 ne_sts⟩, ?_, h.apart⟩
  simpa [tv] using ho
theorem rangeAt_next {w : World} {B p g cap : Nat} {ns : List Nm} {P : List Pt} {xv : Value} (h : TrAt w B p ns P (.slice (some ⟨g, 0, none⟩) ns.length cap) xv) {s : Nm} (hs : s ∈ ns) : w.rangeAt g (ix ns s * 28) (nx ns s) := by
  intro j v hv
  have hj : j < 27 := by
    have := (List.getElem?_eq_some_iff.1 hv).1
    simpa [nx] using this
  obtain ⟨c1, c2⟩ := sgn_chr hj
  rw [(h.next hs c1 c2).1]
  unfold nx at hv
  rw [List.getElem?_map, List.getElem?_range hj] at hv
  simpa using hv
theorem own_cell0 {w : World} {B n : Nat} {e : TypeId} {u : Value} {l : List Value} (h : w.ownsRow B e 1 u n l) (hn : 0 < n) : ∃ g c : Nat, u = .slice (some ⟨g, 0, none⟩) n c ∧ g < w.heap.size ∧ ∀ (k : Nat) (x : Value), l[k]? = some x → w.cell? ⟨g, k, none⟩ = some x := by
  have hl := h.1
  rcases h.2 with ⟨_, h0⟩ | ⟨g, cap, cur, h', hb, hg, hnc, hcm, hcs, htake⟩
  · omega
  · refine ⟨g, cap, h', (Array.getElem?_eq_some_iff.1 hg).1, fun k x hx => ?_⟩
    have hk := (List.getElem?_eq_some_iff.1 hx).1
    subst h'
    exact (h.cellAt k (by omega)).trans hx
set_option maxRecDepth 100000 in
set_option maxHeartbeats 4000000 in
theorem walk_step (w0 : World) (B p : Nat) (P : List Pt) (v xv : Value) (ph po pw : Nat) (hh : HyAt w0 B p P v xv) (f : Nat) (s : Nm) (l : List Nm) (w : World) (hs : s ∈ nsOf P) (hN : l.length + (dfs P (f + 1) s).length ≤ 5000) (hD : DI w0 p ph po pw l w)
    (hih : ∀ k, k < 27 → s ++ [chr k] ∈ nsOf P → ∀ (l : List Nm) (w : World), l.length + (dfs P f (s ++ [chr k])).length ≤ 5000 → DI w0 p ph po pw l w →
      Calls Try.prog 83 #[.int .i64 (ix (nsOf P) (s ++ [chr k]) : Int), .string (S (s ++ [chr k])), .pointer (some ⟨ph, 0, none⟩), .pointer (some ⟨po, 0, none⟩), .pointer (some ⟨pw, 0, none⟩)] w fun e w' => (∃ u, e = .returned u) ∧ DI w0 p ph po pw (l ++ (dfs P f (s ++ [chr k])).map (tx P)) w') :
    Calls Try.prog 83 #[.int .i64 (ix (nsOf P) s : Int), .string (S s), .pointer (some ⟨ph, 0, none⟩), .pointer (some ⟨po, 0, none⟩), .pointer (some ⟨pw, 0, none⟩)] w fun e w' => (∃ u, e = .returned u) ∧ DI w0 p ph po pw (l ++ (dfs P (f + 1) s).map (tx P)) w' := by
  have HIH := Lib.hid hih
  have HN := Lib.hid hN
  have hs63 := nsOf_len63 hh.pats hs
  have HS := Lib.hid (And.intro hs hs63)
  obtain ⟨g, c, rfl, hgc, hBg, hgl, hcm, hn0, hpg⟩ := hh.tr.slice
  have HH := Lib.hid hh
  have HD := Lib.hid hD
  have hix := ix_lt hh.tr.tri s
  have hixi : (ix (nsOf P) s : Int) < ((nsOf P).length : Int) := by omega
  have hh1 := HH.out.below hD.low
  obtain ⟨u, hcu, hva⟩ := hh1.tr.val hs
  have hc0 := hh1.tr.blk.cell 0
  have hcc := hD.hc.cell 0
  have hsz : (S s).size ≤ 63 := hs63
  have HU : Hid (valAt w B P s u) := Lib.hid hva
  clear hih hN hs hs63 hD hh1 hva hgc hBg hgl hcm hn0 hh hix
  generalize hX : ix (nsOf P) s = X at hcu hixi
  have HX := Lib.hid hX
  clear hX
  have hown : (luk P s = none ∧ u = .slice none 0 0) ∨ ∃ L b cc, luk P s = some L ∧ u = .slice (some ⟨b, 0, none⟩) L.length cc ∧ w.ownsRow B 3 1 u L.length (L.map iv) := by
    have h := HU.out
    unfold valAt at h
    cases hl : luk P s with
    | none => rw [hl] at h; exact .inl ⟨rfl, h⟩
    | some L =>
      rw [hl] at h
      have hp := HH.out.pats.is _ ((luk_some HH.out.pats.nodup).1 hl)
      obtain ⟨k, hk⟩ : ∃ k, L.length = k + 1 := ⟨s.length, hp.1⟩
      have h2 := h.2
      obtain ⟨g, c, hu, _⟩ := own_cell0 h2 (by omega)
      exact .inr ⟨L, g, c, rfl, hu, h2⟩
  have hne : ∀ w : World, (binOp .neq 42 u (.slice none 0 0)).run Try.prog w = .ok (.bool (luk P s).isSome) w := by
    intro w
    rcases hown with ⟨h1, rfl⟩ | ⟨L, b, cc, h1, rfl, _⟩
    · rw [h1]; kernel_rfl
    · rw [h1]; kernel_rfl
  have heg : ∀ w : World, (eqGuard .neq 42 (.tmp 21) (.const (.slice none 0 0)) u (.slice none 0 0)).run Try.prog w = .ok () w := by
    intro w
    rcases hown with ⟨h1, rfl⟩ | ⟨L, b, cc, h1, rfl, _⟩
    · kernel_rfl
    · kernel_rfl
  have HOWN := Lib.hid hown
  clear hown
  generalize hB : (luk P s).isSome = bb at hne
  have HB := Lib.hid hB
  clear hB
  go_enter Try.func83, Try.ntmps83
  go_upto_if 22 with fail
  go_cut [] (fun wx => DI w0 p ph po pw (l ++ (own1 P s).map (tx P)) wx)
  case first =>
    cases bb
    · go_wp2_with fail
      go_meet
      case rel =>
        have : own1 P s = [] := if_neg (by rw [HB.out]; exact Bool.false_ne_true)
        rw [this, List.map_nil, List.append_nil]
        exact HD.out
    · obtain ⟨L, b, cc, hl, rfl, hrow⟩ : ∃ L b cc, luk P s = some L ∧ u = .slice (some ⟨b, 0, none⟩) L.length cc ∧ w.ownsRow B 3 1 u L.length (L.map iv) := by
        rcases HOWN.out with ⟨h1, _⟩ | h
        · have := HB.out; rw [h1] at this; cases this
        · exact h
      have hp := HH.out.pats.is _ ((luk_some HH.out.pats.nodup).1 hl)
      simp only at hp
      have hLl : L.length ≤ 64 := by omega
      have HP := Lib.hid hp
      have HROW := Lib.hid hrow
      have HL := Lib.hid hl
      clear hp hrow hl hne heg hcu HU
      go_wp2_with fail
      go_loopw [8, 25] (fun v8 v25 wr => ∃ k : Nat, k ≤ L.length ∧ v25 = .int .i64 (k : Int) ∧ v8 = .string (S (txq s L k)) ∧ w = wr) (fun _ v25 _ => L.length - (intOf v25).toNat)
      case atStart => exact ⟨0, by omega, rfl, rfl, rfl⟩
      case round =>
        obtain ⟨k, hk, rfl, rfl, rfl⟩ := hrel
        by_cases hlt : k < L.length
        · obtain ⟨x, hx⟩ := get_some hlt
          obtain ⟨b', c', he, _, hcs⟩ := own_cell0 HROW.out (by omega)
          injection he with he _ _
          injection he with he
          injection he with he _ _
          subst he
          have hcx := hcs k (.int .i64 x) (by rw [List.getElem?_map, hx]; rfl)
          obtain ⟨d0, d1⟩ := HP.out.2.2.2.2 x (List.mem_of_getElem? hx)
          have hgx : L.getD k 0 = x := by rw [List.getD_eq_getElem?_getD, hx]; rfl
          have hT : (S (txq s L k)).size ≤ 1048576 := by rw [S_size]; have := txq_len s L k; omega
          have HX := Lib.hid (show S (txq s L (k + 1)) = (S (txq s L k) ++ S (if 0 < x then [UInt8.ofNat (48 + x.toNat)] else [])) ++ S (if k < s.length then [s.getD k 0] else []) by
            rw [txq_succ]
            unfold tpc
            rw [hgx, S_app, S_app, List.append_assoc])
          have hki : (k : Int) < (L.length : Int) := by omega
          clear hx hcs hgx
          generalize hTT : S (txq s L k) = T at hT HX
          have HTT := Lib.hid hTT
          clear hTT
          by_cases h0 : 0 < x
          · obtain ⟨n, rfl⟩ : ∃ n : Nat, x = n := ⟨x.toNat, by omega⟩
            have hstr := str_dig n (by omega) (by omega)
            have hwr : IntKind.i32.wrap (48 + (n : Int)) = 48 + (n : Int) := IntWalk.i32_in _ (by omega)
            generalize hDD : S [UInt8.ofNat (48 + n)] = D at hstr
            have hD1 : D.size ≤ 1 := by rw [← hDD, S_size]; exact Nat.le_refl _
            have HDD := Lib.hid hDD
            clear hDD
            by_cases h1 : (k : Int) < ((S s).size : Int)
            · go_wp2_with fail
              go_roundw
              case rel => exact ⟨k + 1, by omega, by go_num, by rw [HX.out, if_pos h0, if_pos (show k < s.length by rw [S_size] at h1; omega), Int.toNat_natCast, HDD.out, ext_one (show k < s.length by rw [S_size] at h1; omega)], trivial⟩
              case measure => simp [intOf]; omega
            · go_wp2_with fail
              go_roundw
              case rel => exact ⟨k + 1, by omega, by go_num, by rw [HX.out, if_pos h0, if_neg (show ¬ k < s.length by rw [S_size] at h1; omega), Int.toNat_natCast, HDD.out, S_nil], trivial⟩
              case measure => simp [intOf]; omega
          · by_cases h1 : (k : Int) < ((S s).size : Int)
            · go_wp2_with fail
              go_roundw
              case rel => exact ⟨k + 1, by omega, by go_num, by rw [HX.out, if_neg h0, if_pos (show k < s.length by rw [S_size] at h1; omega), S_nil, ext_one (show k < s.length by rw [S_size] at h1; omega)], trivial⟩
              case measure => simp [intOf]; omega
            · go_wp2_with fail
              go_roundw
              case rel => exact ⟨k + 1, by omega, by go_num, by rw [HX.out, if_neg h0, if_neg (show ¬ k < s.length by rw [S_size] at h1; omega), S_nil, S_nil], trivial⟩
              case measure => simp [intOf]; omega
        · obtain rfl : k = L.length := by omega
          obtain ⟨vo, hbo, hro⟩ := HD.out.out
          have hco := hbo.cell 0
          have hfo := hbo.free 0
          have hown1 : own1 P s = [s] := if_pos (by rw [HL.out]; rfl)
          have htx : tx P s = txq s L L.length := by unfold tx; rw [HL.out]; rfl
          have hl5 : l.length + 1 ≤ 5000 := by
            have := HN.out
            rw [dfs_succ, hown1] at this
            simp at this
            omega
          have HBO := Lib.hid (And.intro hbo hro)
          have HTX := Lib.hid (And.intro hown1 htx)
          have HLW := Lib.hid HD.out.low.size
          clear hbo hro hown1 htx hlt
          generalize txq s L L.length = T at HTX
          go_wp2_with (at_builtin; refine wpList_push rfl _ _ 41 rfl w0.heap.size 9 _ 1 16 Try.underlying41 info_text rfl (by decide) (by decide) _ _ _ rfl HBO.out.2 HLW.out _ rfl rfl rfl (by simp) (by omega) ?_; intro v7 w7 hown7 hg7 hn7; have HM7 := Lib.hid (HD.out.push HBO.out.1 HBO.out.2 hown7 hg7); obtain ⟨vo7, hb7⟩ := HM7.out.out; have hc7 := hb7.cell 0; have hf7 := hb7.free 0; clear hb7; obtain ⟨g7, c7, rfl, _⟩ := own_cell0 hown7 (by omega); clear hown7 hg7)
          go_meet
          case rel =>
            have h := HM7.out.set
            rw [HTX.out.1, List.map_singleton, HTX.out.2]
            exact h
  case rest =>
    have HD2 := Lib.hid hcut
    clear hcut hne heg hcu HU HOWN HB hc0 hcc
    have hh1 := HH.out.below HD2.out.low
    have hc0 := hh1.tr.blk.cell 0
    have hcc := HD2.out.hc.cell 0
    have hrg : wc.rangeAt g (X * 28) (nx (nsOf P) s) := by rw [← HX.out]; exact rangeAt_next hh1.tr HS.out.1
    clear hh1
    go_wp2_with (refine wpList_load_mid rfl _ _ rfl _ _ rfl _ _ hrg Try.underlying139 rfl (by kernel_rfl) ?_)
    have HIX := Lib.hid (fun k z h1 h2 => index27 (nx (nsOf P) s) (by simp [nx]) k h1 z h2)
    clear hc0 hcc hrg
    generalize (nx (nsOf P) s).toArray = AR at HIX
    go_loopw [62] (fun v62 wr => ∃ k : Nat, k ≤ 27 ∧ v62 = .int .i64 (k : Int) ∧ DI w0 p ph po pw (l ++ (own1 P s ++ kids P f s k).map (tx P)) wr) (fun v62 _ => 27 - (intOf v62).toNat)
    case atStart => exact ⟨0, by omega, rfl, by rw [kids_zero, List.append_nil]; exact HD2.out⟩
    case round =>
      obtain ⟨k, hk, rfl, hD3⟩ := hrel
      have HD3 := Lib.hid hD3
      clear hD3
      by_cases hlt : (k : Int) < 27
      · have hnx : (nx (nsOf P) s)[k]? = some (.int .i64 (ix (nsOf P) (s ++ [chr k]) : Int)) := by
          unfold nx
          rw [List.getElem?_map, List.getElem?_range (by omega)]
          rfl
        have hidx := HIX.out k _ (by omega) hnx
        have HKS := Lib.hid (kids_succ P f s k)
        clear hnx
        by_cases hm : s ++ [chr k] ∈ nsOf P
        · have hpos := ix_pos HH.out.pats.tri hm (by simp)
          have hkid : kid P f s k = dfs P f (s ++ [chr k]) := if_pos hm
          have hlen : (l ++ (own1 P s ++ kids P f s k).map (tx P)).length + (dfs P f (s ++ [chr k])).length ≤ 5000 := by
            have h1 := HN.out
            have h2 := kids_le P f s (26 - k) (k + 1)
            rw [show k + 1 + (26 - k) = 27 by omega, kids_succ, hkid] at h2
            rw [dfs_succ] at h1
            simp only [List.length_append, List.length_map] at h1 h2 ⊢
            omega
          have hcall := HIH.out k (by omega) hm _ wr hlen HD3.out
          have HC := Lib.hid (fun nq => HIH.out k (by omega) hm _ (wr.drewN nq) hlen (HD3.out.below (below_drewN (Below.refl _ _) nq)))
          have hwc := HD3.out.wc.cell 0
          have hsl : ∀ w : World, (Instr.slice 9 (.string (⟨#[46, 97, 98, 99, 100, 101, 102, 103, 104, 105, 106, 107, 108, 109, 110, 111, 112, 113, 114, 115, 116, 117, 118, 119, 120, 121, 122]⟩ : ByteArray)) (some (.int .i64 (k : Int))) (some (.int .i64 ((k : Int) + 1))) none).run Try.prog w = .ok (.string (S [chr k])) w := slice_abc k (by omega)
          have hk0 : (0 : Int) ≤ (k : Int) := by omega
          have hk1 : (k : Int) + 1 ≤ 27 := by omega
          have hs1 : (S [chr k]).size ≤ 63 := by rw [S_size]; show 1 ≤ 63; omega
          have HKD := Lib.hid hkid
          have hsa : S s ++ S [chr k] = S (s ++ [chr k]) := S_app s [chr k]
          have hip : (0 : Int) < (ix (nsOf P) (s ++ [chr k]) : Int) := by omega
          clear hcall hkid hlen hm hpos
          generalize ix (nsOf P) (s ++ [chr k]) = Y at hidx hip HC
          go_upto_region 16 with fail
          refine wp_region_held_drew (S := fun w' => w'.cell? ⟨pw, 0, none⟩ = some (.func (.func 83) #[] #[.pointer (some ⟨ph, 0, none⟩), .pointer (some ⟨po, 0, none⟩), .pointer (some ⟨pw, 0, none⟩)])) (by kernel_rfl) hwc (fun hH => ?_)
          refine take_lit (i := 0) (v := .func (.func 83) #[] #[.pointer (some ⟨ph, 0, none⟩), .pointer (some ⟨po, 0, none⟩), .pointer (some ⟨pw, 0, none⟩)]) (by kernel_rfl) (by kernel_rfl) (by kernel_rfl) (by kernel_rfl) (fun _ _ _ _ h => h) hH (fun oi hoi => ?_)
          simp only [List.getElem?_toArray, List.getElem?_cons_succ, List.getElem?_cons_zero, Option.some.injEq] at hoi
          subst hoi
          refine ⟨(yields_load (by rfl) _ _ rfl _ rfl (fun w' hw' => run_loadVar_one (by kernel_rfl) hw')), ?_⟩
          simp only [Act.put, List.setIfInBounds_toArray, List.set_cons_zero, List.set_cons_succ]
          refine take_lit (i := 1) (v := .int .i64 (Y : Int)) (by kernel_rfl) (by kernel_rfl) (by kernel_rfl) (by kernel_rfl) (fun _ _ _ _ h => h) hH (fun oi hoi => ?_)
          simp only [List.getElem?_toArray, List.getElem?_cons_succ, List.getElem?_cons_zero, Option.some.injEq] at hoi
          subst hoi
          refine ⟨(.inl ⟨by rfl, fun _ _ => by kernel_rfl⟩), ?_⟩
          simp only [Act.put, List.setIfInBounds_toArray, List.set_cons_zero, List.set_cons_succ]
          refine take_lit (i := 2) (v := .string (S s)) (by kernel_rfl) (by kernel_rfl) (by kernel_rfl) (by kernel_rfl) (fun _ _ _ _ h => h) hH (fun oi hoi => ?_)
          simp only [List.getElem?_toArray, List.getElem?_cons_succ, List.getElem?_cons_zero, Option.some.injEq] at hoi
          subst hoi
          refine ⟨(.inl ⟨by rfl, fun _ _ => by kernel_rfl⟩), ?_⟩
          simp only [Act.put, List.setIfInBounds_toArray, List.set_cons_zero, List.set_cons_succ]
          refine take_lit (i := 3) (v := .int .i64 (k : Int)) (by kernel_rfl) (by kernel_rfl) (by kernel_rfl) (by kernel_rfl) (fun _ _ _ _ h => h) hH (fun oi hoi => ?_)
          simp only [List.getElem?_toArray, List.getElem?_cons_succ, List.getElem?_cons_zero, Option.some.injEq] at hoi
          subst hoi
          refine ⟨(.inl ⟨by rfl, fun _ _ => by kernel_rfl⟩), ?_⟩
          simp only [Act.put, List.setIfInBounds_toArray, List.set_cons_zero, List.set_cons_succ]
          refine take_lit (i := 4) (v := .int .i64 (k : Int)) (by kernel_rfl) (by kernel_rfl) (by kernel_rfl) (by kernel_rfl) (fun _ _ _ _ h => h) hH (fun oi hoi => ?_)
          simp only [List.getElem?_toArray, List.getElem?_cons_succ, List.getElem?_cons_zero, Option.some.injEq] at hoi
          subst hoi
          refine ⟨(.inl ⟨by rfl, fun _ _ => by kernel_rfl⟩), ?_⟩
          simp only [Act.put, List.setIfInBounds_toArray, List.set_cons_zero, List.set_cons_succ]
          refine take_lit (i := 5) (v := .int .i64 ((k : Int) + 1)) (by kernel_rfl) (by kernel_rfl) (by kernel_rfl) (by kernel_rfl) (fun _ _ _ _ h => h) hH (fun oi hoi => ?_)
          simp only [List.getElem?_toArray, List.getElem?_cons_succ, List.getElem?_cons_zero, Option.some.injEq] at hoi
          subst hoi
          refine ⟨(.inl ⟨by rfl, fun w' hw' => by go_simp; exact IntWalk.i64_in _ (by omega)⟩), ?_⟩
          simp only [Act.put, List.setIfInBounds_toArray, List.set_cons_zero, List.set_cons_succ]
          refine take_lit (i := 6) (v := .string (S [chr k])) (by kernel_rfl) (by kernel_rfl) (by kernel_rfl) (by kernel_rfl) (fun _ _ _ _ h => h) hH (fun oi hoi => ?_)
          simp only [List.getElem?_toArray, List.getElem?_cons_succ, List.getElem?_cons_zero, Option.some.injEq] at hoi
          subst hoi
          refine ⟨(.inl ⟨by rfl, fun w' hw' => by go_simp⟩), ?_⟩
          simp only [Act.put, List.setIfInBounds_toArray, List.set_cons_zero, List.set_cons_succ]
          refine take_lit (i := 7) (v := .string (S (s ++ [chr k]))) (by kernel_rfl) (by kernel_rfl) (by kernel_rfl) (by kernel_rfl) (fun _ _ _ _ h => h) hH (fun oi hoi => ?_)
          simp only [List.getElem?_toArray, List.getElem?_cons_succ, List.getElem?_cons_zero, Option.some.injEq] at hoi
          subst hoi
          refine ⟨(.inl ⟨by rfl, fun w' hw' => by go_simp; omega⟩), ?_⟩
          simp only [Act.put, List.setIfInBounds_toArray, List.set_cons_zero, List.set_cons_succ]
          refine wpAnyH_ready (rs := [8]) (by kernel_rfl) (by simp) (AllReadyH.cons rfl (fun K hK => ?_) AllReadyH.nil)
          go_simp
          refine (HC.out 1).mono ?_
          rintro e w9 ⟨⟨uu, rfl⟩, hd9⟩
          have HD9 := Lib.hid hd9
          refine hK.out _ _ (hd9.wc.cell 0) (fun hH9 => ?_)
          clear hd9
          try simp only [Act.put, List.setIfInBounds_toArray, List.set_cons_zero, List.set_cons_succ]
          refine wpAnyH_done (by kernel_rfl) ?_ _
          go_wp2_with fail
          go_roundw
          case rel =>
            refine ⟨k + 1, by omega, by go_num, ?_⟩
            rw [HKS.out, HKD.out, ← List.append_assoc, List.map_append, ← List.append_assoc]
            exact HD9.out
          case measure => simp [intOf]; omega
        · have hz : ix (nsOf P) (s ++ [chr k]) = 0 := ix_no hm
          have hkid : kid P f s k = [] := if_neg hm
          rw [hz] at hidx
          have hidx' : ∀ w : World, (Instr.index 139 (.agg AR) (.int .i64 (k : Int))).run Try.prog w = .ok (.int .i64 0) w := hidx
          have HKD := Lib.hid hkid
          clear hidx hkid hm hz
          go_wp2_with fail
          go_roundw
          case rel => exact ⟨k + 1, by omega, by go_num, by rw [HKS.out, HKD.out, List.append_nil]; exact HD3.out⟩
          case measure => simp [intOf]; omega
      · obtain rfl : k = 27 := by omega
        go_wp2_with fail
        go_end0
        exact ⟨⟨_, rfl⟩, by rw [dfs_succ]; exact HD3.out⟩
end Go.Proofs.Ytmcekdjhkjhcdaa.Hy

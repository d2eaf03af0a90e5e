import Derived.Test.YtmcekdjhkjhcdaaHma
import Derived.Test.YtmcekdjhkjhcdaaHr
import Derived.BigQuiet
/- The document's Pattern (printed by gen_hmb.py). Conditions: those that each theorem names. -/
namespace Go.Proofs.Ytmcekdjhkjhcdaa.Hy
open Go.ChangeShapes Go.WideShapes Go.ChangeAt Go.RowKit
open Me Hp
set_option linter.unusedVariables false
set_option linter.unusedSimpArgs false
theorem S_lst (l : Nm) : (S l).toList = l := by rw [ByteArray.toList_eq]; rfl
theorem xk_stop {X : List Xc} {w : Nm} {k : Nat} {x : Xc} (hk : k ≤ xk X w) (hx : X[k]? = some x) (h : lw x.1 w = false) : k = xk X w := by
  rcases Nat.lt_or_ge k (xk X w) with h1 | h1
  · rw [xk_before h1 hx] at h; cases h
  · omega
theorem xk_on {X : List Xc} {w : Nm} {k : Nat} {x : Xc} (hs : Sor X) (hk : k ≤ xk X w) (hx : X[k]? = some x) (h : lw x.1 w = true) : k + 1 ≤ xk X w := by
  rcases Nat.lt_or_ge k (xk X w) with h1 | h1
  · exact h1
  · rw [xk_after hs h1 hx] at h; cases h
theorem xhas_is {X : List Xc} {w : Nm} {x : Xc} (hx : X[xk X w]? = some x) : xhas X w = decide (x.1 = w) := by
  unfold xhas
  rw [hx]
  simp
theorem xhas_end {X : List Xc} {w : Nm} (hk : X.length ≤ xk X w) : xhas X w = false := by
  unfold xhas
  rw [List.getElem?_eq_none hk]
  simp
/-- What the document is told. -/
def dtell (L : List Xc) (t : Nm) : List Xc := match rd t with
  | none => L
  | some p => if xhas L p.1 = true then L else if L.length = 5000 then L else insAt L (xk L p.1) p
def dtellE (L : List Xc) (t : Nm) : Int := match rd t with
  | none => 70
  | some p => if xhas L p.1 = true then 11 else if L.length = 5000 then 6 else 0
/-- What the document's call leaves. -/
def DOut (B q : Nat) (xv : Value) (L X : List Xc) (w w' : World) : Prop := Below B w w' ∧ ∃ pv' xv', DAt w' B q L X pv' xv' ∧ Frm w q xv w' xv'
theorem ret_in {a b : Int} (h : a = b) : Ending.returned (.int .i64 a) = .returned (.int .i64 b) := by rw [h]
theorem own_made0 {t : TypeId} (W : World) : (W.alloc (.cells #[] t)).ownsRow W.heap.size t 2 (.slice (some ⟨W.heap.size, 0, none⟩) 0 0) 0 [] := World.ownsRow_made W #[] 0 (Nat.le_refl _) (by simp [maxLen]) (by simp)
theorem wpList_append_low {P : Program} {ops : Array Oper} {rest : List Oper} {o : Oper} {a : Act} {w : World} {Q : Exit → Act → World → Prop} (hgd : o.guard = none) (s x : Operand) (t : TypeId) (ho : o.op = .call { callee := .builtin .append, args := #[s, x], argTypes := #[t, t] })
    (e : TypeId) (z : Value) (size bytes : Nat) (ht : P.underlying t = some (.slice e)) (hinfo : (P.info? e).map (fun i => (i.zero, i.size, i.bytes)) = some (some z, size, bytes)) (hzs : z.cells.size = size) (hsz : 0 < size)
    (w1 : World) (hlow : Below w1.heap.size w1 w) (v : Value) (n : Nat) (xs : List Value) (hs : a.eval s = v) (hown : w.ownsRow w1.heap.size e size v n xs) (B : Nat) (A : Option Addr) (m c : Nat) (news : List Value) (hx : a.eval x = .slice A m c) (hl : news.length = m * size) (hseg : Seg w B A news) (hA : A = none → c = 0) (h1 : ∀ u ∈ news, u.oneCell' = true) (h63 : n + m ≤ maxLen) (hbytes : (n + m) * bytes ≤ 140737488355328)
    (h : ∀ v' w', w'.ownsRow w1.heap.size e size v' (n + m) (xs ++ news) → Below w1.heap.size w1 w' → wpList P ops Q rest (a.put o.dst v') w') : wpList P ops Q (o :: rest) a w :=
  wpList_append_rows hgd s x t ho e z size bytes ht hinfo hzs hsz w1.heap.size hlow.size v n xs hs hown B A m c news hx hl hseg hA h1 h63 hbytes fun v' w' ho' hg => h v' w' ho' (below_grown (Nat.le_refl _) hlow hg fun k hk => (hown.lt k hk).1)
theorem wpList_push_low {P : Program} {ops : Array Oper} {rest : List Oper} {o : Oper} {a : Act} {Q : Exit → Act → World → Prop} {w : World} (hgd : o.guard = none) (s x : Operand) (t : TypeId)
    (ho : o.op = .call { callee := .builtin .append, args := #[s, x], argTypes := #[t, t] }) (e : TypeId) (z : Value) (size bytes : Nat) (ht : P.underlying t = some (.slice e))
    (hinfo : (P.info? e).map (fun i => (i.zero, i.size, i.bytes)) = some (some z, size, bytes)) (hzs : z.cells.size = size) (hsz : 0 < size) (hby : 0 < bytes)
    (w1 : World) (hlow : Below w1.heap.size w1 w) (v : Value) (n : Nat) (xs : List Value) (hs : a.eval s = v) (hown : w.ownsRow w1.heap.size e size v n xs)
    (cs : Array Value) (hc : cs.size = size) (h1 : cs.toList.all (fun u => u.oneCell') = true) {g : Nat} {te : TypeId} (hx : a.eval x = .slice (some ⟨g, 0, none⟩) 1 1) (hg : Blk w g te cs) (hlen : (n + 1) * bytes ≤ 140737488355328)
    (h : ∀ v' w', w'.ownsRow w1.heap.size e size v' (n + 1) (xs ++ cs.toList) → Below w1.heap.size w1 w' → wpList P ops Q rest (a.put o.dst v') w') : wpList P ops Q (o :: rest) a w :=
  wpList_push_from hgd s x t ho w1.heap.size e z size bytes ht hinfo hzs hsz hby v n xs hs hown hlow.size cs hc h1 hx hg hlen fun v' w' ho' hg' _ => h v' w' ho' (below_grown (Nat.le_refl _) hlow hg' fun k hk => (hown.lt k hk).1)
theorem pattern_row : (Try.prog.info? 48).map (fun i => (i.zero, i.size, i.bytes)) = some (some (.agg #[.string ⟨#[]⟩, .slice none 0 0]), 2, 40) := by kernel_rfl
/-- The new row is in its place. -/
theorem DAt.pattern_fin {B q : Nat} {L X : List Xc} {pv xv v' : Value} {w w1 w' : World} {x : Xc} {u : Value} (h : DAt w B q L X pv xv) (hb1 : Below w.heap.size w w1) (hB : B ≤ w.heap.size) {us : List Value} (hus : us.length = L.length)
    (hi : ∀ (k : Nat) (y : Xc) (z : Value), L[k]? = some y → us[k]? = some z → w.ownsRow B 3 1 z y.2.length (y.2.map iv)) (hu : w1.ownsRow w.heap.size 3 1 u x.2.length (x.2.map iv)) (hlow : Below w1.heap.size w1 w') {K : Nat} (hK : K ≤ L.length) {n : Nat} (hn : n = L.length + 1)
    (ho : w'.ownsRow w1.heap.size 48 2 v' n ((xcells L us).take (K * 2) ++ [.string (S x.1), u] ++ (xcells L us).drop (K * 2))) :
    Below B w (w'.setCell ⟨q, 0, none⟩ v') ∧ DAt (w'.setCell ⟨q, 0, none⟩ v') B q (insAt L K x) X v' xv ∧ Frm w q xv (w'.setCell ⟨q, 0, none⟩ v') xv := by
  subst hn
  have hlow0 : Below w.heap.size w w' := andThen hb1 hlow
  have hd := h.below hlow0
  have hne : ∀ {t : TypeId} {n z : Nat} {v : Value} {xs : List Value}, w'.ownsRow B t z v n xs → t ≠ 97 → (w'.setCell ⟨q, 0, none⟩ v').ownsRow B t z v n xs := fun ho ht => ho.kept (grown_set w' q 0 v') (own_not_blk ho hd.blk ht)
  have hr : RowS 48 (w'.setCell ⟨q, 0, none⟩ v') B (insAt L K x) v' := by
    refine RowS.ins hus hK (hne (own_base ho (Nat.le_trans hB hb1.size)) (by decide)) (fun k y z hy hz => hne (own_below (hi k y z hy hz) hlow0) (by decide)) (hne (own_base (own_below hu hlow) hB) (by decide))
  have hx : RowS 86 (w'.setCell ⟨q, 0, none⟩ v') B X xv := by
    obtain ⟨vs, h1, h2, h3⟩ := hd.xr
    exact ⟨vs, h1, hne h2 (by decide), fun k y z hy hz => hne (h3 k y z hy hz) (by decide)⟩
  refine ⟨below_set (hlow0.mono hB) h.low _ _, ⟨hd.blk.set 0 v', h.low, hr, hx⟩, fun k hk h1 h2 => (heap_setCell_other w' ⟨q, 0, none⟩ k v' (fun e => h1 (by simpa using e))).trans (hlow0.block k hk), .inl rfl⟩
set_option maxHeartbeats 8000000 in
set_option maxRecDepth 100000 in
theorem rpattern_any (B q : Nat) (L X : List Xc) (pv xv : Value) (s : ByteArray) (w : World) (hs : s.size ≤ 1048576) (h : DAt w B q L X pv xv) (hL : Sor L) (hB : B ≤ w.heap.size) (hf : L.length ≤ 5000) :
    Calls Try.prog 86 #[.pointer (some ⟨q, 0, none⟩), .string s] w fun e w' => e = .returned (.int .i64 (dtellE L s.data.toList)) ∧ DOut B q xv (dtell L s.data.toList) X w w' := by
  have HR := Lib.hid (read_any s w hs)
  have HD := Lib.hid h
  have HSO := Lib.hid hL
  obtain ⟨us, hus, hou, hu1, hui⟩ := h.pr.one
  have HUI := Lib.hid (And.intro hus hui)
  have HC1 := Lib.hid (xcells_one (X := L) hu1)
  have HCL := Lib.hid (xcells_length hus)
  have HOU := Lib.hid hou
  have HB := Lib.hid hB
  have SAME := Lib.hid (show ∀ W, Below w.heap.size w W → ∀ T, L = T → DOut B q xv T X w W from fun W hW T hT => by
    subst hT
    exact ⟨hW.mono hB, _, _, h.below hW, Frm.of_below q xv hW⟩)
  clear h hL hou hu1 hui hus hB
  go_enter Try.func86, Try.ntmps86
  go_wp2_with fail
  refine HR.out.mono ?_
  clear HR
  rintro e w1 ⟨hb1, hr⟩
  cases hp : rd s.data.toList with
  | none =>
    rw [hp] at hr
    subst hr
    have HE := Lib.hid (show (70 : Int) = dtellE L s.data.toList by unfold dtellE; rw [hp])
    have HT := Lib.hid (show L = dtell L s.data.toList by unfold dtell; rw [hp])
    have HB1 := Lib.hid hb1
    clear hb1 hp
    unfold pz
    go_wp2_with fail
    go_ret
    exact ⟨ret_in HE.out, SAME.out _ (andAlloc HB1.out _) _ HT.out⟩
  | some x =>
    rw [hp] at hr
    obtain ⟨g3, c3, rfl, hown⟩ := hr
    generalize (some ⟨g3, 0, none⟩ : Option Addr) = A3 at hown ⊢
    have HP := Lib.hid hp
    have HB1 := Lib.hid hb1
    have hKle := xk_le L x.1
    generalize hn3 : x.2.length = n3 at *
    have HOW := Lib.hid hown
    have HN3 := Lib.hid hn3
    have HDA := Lib.hid (fun W (h : Below w1.heap.size w1 W) => (HD.out.below hb1).below h)
    have FIN := Lib.hid (fun v' w' n (hn : n = L.length + 1) (hlow : Below w1.heap.size w1 w') => DAt.pattern_fin (v' := v') HD.out hb1 HB.out HUI.out.1 HUI.out.2 (by rw [hn3]; exact hown) hlow hKle hn)
    have HSG := Lib.hid (fun W (h : Below w1.heap.size w1 W) => show ∀ A c, pv = .slice A L.length c → Seg W W.heap.size A (xcells L us) from fun A c e => by
      obtain ⟨A', c', e2, _, _, hs⟩ := Seg.of_own (own_below (own_below HOU.out hb1) h)
      rw [e] at e2
      injection e2 with e3 _ e4
      subst e3
      exact hs)
    have SAME := Lib.hid (fun W (h : Below w1.heap.size w1 W) T (hT : L = T) => SAME.out W (andThen hb1 h) T hT)
    generalize hZ : S x.1 = Z at *
    have HZ := Lib.hid hZ
    generalize hC : xcells L us = C at *
    clear hown hb1 hp hn3 hZ hC
    generalize hKK : xk L x.1 = K at *
    have HKK := Lib.hid hKK
    generalize hln : L.length = ln at *
    have HLN := Lib.hid hln
    clear hKK hln
    go_upto_region 4 with fail
    have HPB := Lib.hid (fun W (h : Below (w1.alloc (.cells #[.string Z, .slice A3 n3 c3] 48)).heap.size (w1.alloc (.cells #[.string Z, .slice A3 n3 c3] 48)) W) => (Blk.new w1 48 #[.string Z, .slice A3 n3 c3]).below h (by simp))
    have hbl5 : Below w1.heap.size w1 (w1.alloc (.cells #[.string Z, .slice A3 n3 c3] 48)) := andAlloc (Below.refl w1.heap.size w1) _
    have HBL5 := Lib.hid hbl5
    have HD5 := Lib.hid (fun W (h : Below (w1.alloc (.cells #[.string Z, .slice A3 n3 c3] 48)).heap.size (w1.alloc (.cells #[.string Z, .slice A3 n3 c3] 48)) W) => HDA.out W (andThen hbl5 h))
    clear hbl5
    generalize w1.alloc (.cells #[.string Z, .slice A3 n3 c3] 48) = w5 at HPB HD5 HBL5 ⊢
    generalize w1.heap.size = g5 at HPB ⊢
    go_wp2_with fail
    go_loopw [7] (fun v7 wr => ∃ k : Nat, v7 = .int .i64 (k : Int) ∧ k ≤ K ∧ Below w5.heap.size w5 wr) (fun v7 _ => K + 1 - (intOf v7).toNat)
    case atStart => exact ⟨0, rfl, Nat.zero_le _, Below.refl _ _⟩
    case round =>
      obtain ⟨k, rfl, hk, hlow⟩ := hrel
      have HLO := Lib.hid (andThen HBL5.out hlow)
      have hdr := HD5.out wr hlow
      have cq : wr.cell? ⟨q, 0, none⟩ = some pv := hdr.blk.cell 0
      have cz : wr.cell? ⟨g5, 0, none⟩ = some (.string Z) := (HPB.out wr hlow).cell 0
      have HPB := Lib.hid (fun W (h : Below wr.heap.size wr W) => HPB.out W (andThen hlow h))
      have HLOW := Lib.hid hlow
      have hql : q < wr.heap.size := hdr.blk.lt
      have hgl5 : g5 < wr.heap.size := (HPB.out wr (Below.refl _ _)).lt
      clear hlow
      by_cases hkl : k < ln
      · obtain ⟨y, hy⟩ := get_some (l := L) (k := k) (by rw [HLN.out]; exact hkl)
        obtain ⟨gP, cP, uy, rfl, hnc, hBg, hgl, cy, cyu, _⟩ := hdr.pr.get hy
        rw [HLN.out] at hnc cq
        have HSG := Lib.hid (fun W h => HSG.out W h (some ⟨gP, 0, none⟩) cP (by rw [HLN.out]))
        have HY := Lib.hid hy
        have hint : (k : Int) < (ln : Int) := by omega
        have hdk : decide ((k : Int) < (ln : Int)) = true := decide_eq_true hint
        have hcm : Op.bytesLess (S y.1).toList Z.toList = lw y.1 x.1 := by rw [← HZ.out, S_lst, S_lst]; rfl
        have hce : ((S y.1).toList == Z.toList) = decide (y.1 = x.1) := by
          rw [← HZ.out, S_lst, S_lst]
          by_cases e : y.1 = x.1
          · rw [e, decide_eq_true rfl]; exact beq_self_eq_true _
          · rw [decide_eq_false e, beq_eq_false_iff_ne]; exact e
        have hon := fun h : lw y.1 x.1 = true => xk_on HSO.out (by rw [HKK.out]; exact hk) hy h
        have hst := fun h : lw y.1 x.1 = false => xk_stop (by rw [HKK.out]; exact hk) hy h
        rw [HKK.out] at hon hst
        
        clear hy hdr
        generalize hYY : S y.1 = Y at *
        cases hl : lw y.1 x.1
        · rw [hl] at hcm
          have hkK := hst hl
          subst hkK
          clear hon hst hl
          go_wp2_with fail
          go_quiet (fail)
          go_wp2_with fail
          by_cases he : y.1 = x.1
          · rw [decide_eq_true he] at hce
            have HH := Lib.hid (show xhas L x.1 = true by rw [xhas_is (by rw [HKK.out]; exact HY.out)]; exact decide_eq_true he)
            clear he hcm

            have HE := Lib.hid (show (11 : Int) = dtellE L s.data.toList by unfold dtellE; rw [HP.out]; simp only [HH.out, if_true])
            have HT := Lib.hid (show L = dtell L s.data.toList by unfold dtell; rw [HP.out]; simp only [HH.out, if_true])
            go_quiet (fail)
            go_wp2_with fail
            go_ret
            exact ⟨ret_in HE.out, SAME.out _ (by repeat (first | exact HLO.out | refine andAlloc ?_ _ | refine below_drewN ?_ _ | refine Below.drew ?_)) _ HT.out⟩
          · rw [decide_eq_false he] at hce
            have HNH := Lib.hid (show xhas L x.1 = false by rw [xhas_is (by rw [HKK.out]; exact HY.out)]; exact decide_eq_false he)
            clear he hcm
            have hkc : k ≤ cP := by omega
            have hkn : k ≤ ln := by omega
            have hkci : (k : Int) ≤ (cP : Int) := by omega
            by_cases h5 : ln = 5000
            · have hl5 : ((ln : Int) == 5000) = true := by rw [beq_iff_eq]; omega
              have HE := Lib.hid (show (6 : Int) = dtellE L s.data.toList by unfold dtellE; rw [HP.out]; simp only [HNH.out, Bool.false_eq_true, if_false]; rw [if_pos (by rw [HLN.out]; exact h5)])
              have HT := Lib.hid (show L = dtell L s.data.toList by unfold dtell; rw [HP.out]; simp only [HNH.out, Bool.false_eq_true, if_false]; rw [if_pos (by rw [HLN.out]; exact h5)])
              clear h5
              go_wp2_with fail
              go_quiet (fail)
              go_wp2_with fail
              go_ret
              exact ⟨ret_in HE.out, SAME.out _ (by repeat (first | exact HLO.out | refine andAlloc ?_ _ | refine below_drewN ?_ _ | refine Below.drew ?_)) _ HT.out⟩
            · have hl5 : ((ln : Int) == 5000) = false := by rw [beq_eq_false_iff_ne]; omega
              have HE := Lib.hid (show (0 : Int) = dtellE L s.data.toList by unfold dtellE; rw [HP.out]; simp only [HNH.out, Bool.false_eq_true, if_false]; rw [if_neg (by rw [HLN.out]; exact h5)])
              have HT := Lib.hid (show insAt L k x = dtell L s.data.toList by rw [← HKK.out]; unfold dtell; rw [HP.out]; simp only [HNH.out, Bool.false_eq_true, if_false]; rw [if_neg (by rw [HLN.out]; exact h5)])
              skip
              go_wp2_with fail
              go_quiet (fail)
              go_upto_region 13 with fail
              generalize hW : World.drewN wr _ = W
              have hlowW : Below w5.heap.size w5 W := by rw [← hW]; exact below_drewN HLOW.out _
              have HLO := Lib.hid (andThen HBL5.out hlowW)
              have cq : W.cell? ⟨q, 0, none⟩ = some (.slice (some ⟨gP, 0, none⟩) ln cP) := by rw [← hW]; exact cq
              have hql : q < W.heap.size := by rw [← hW]; exact hql
              have HPB := Lib.hid (fun W' (h : Below W.heap.size W W') => HPB.out W' (by rw [← hW] at h; exact andThen (below_drewN (Below.refl _ _) _) h))
              clear hlowW hW
              have HO0 := Lib.hid (own_made0 (t := 48) W)
              have HLA := Lib.hid (andAlloc (Below.refl W.heap.size W) (.cells #[] 48))
              have HSG0 := Lib.hid ((HSG.out _ (andThen HLO.out HLA.out)).take (k * 2))
              have HN0 := Lib.hid (show (C.take (k * 2)).length = k * 2 by rw [List.length_take, HCL.out]; omega)
              have HC0 := Lib.hid (fun u (hu : u ∈ C.take (k * 2)) => HC1.out u (List.mem_of_mem_take hu))
              have hm0 : 0 + k ≤ maxLen := by unfold maxLen; omega
              have hm1 : (0 + k) * 40 ≤ 140737488355328 := by omega
              have HA0 := Lib.hid (show ((some ⟨gP, 0, none⟩) : Option Addr) = none → cP = 0 from fun e => by cases e)
              go_upto_region 14 with (at_builtin; refine wpList_append_low rfl _ _ 94 rfl 48 _ 2 40 Try.underlying94 pattern_row rfl (by decide) W HLA.out _ 0 [] rfl HO0.out _ (some ⟨gP, 0, none⟩) k cP (C.take (k * 2)) rfl HN0.out HSG0.out HA0.out HC0.out hm0 hm1 ?_; intro v8 w8 hown8 hlow8; rw [Nat.zero_add, List.nil_append] at hown8; have HO8 := Lib.hid hown8; have HL8 := Lib.hid hlow8; have cp0 := (HPB.out w8 hlow8).cell 0; have cp1 := (HPB.out w8 hlow8).cell 1; clear hown8 hlow8)
              go_upto_region 15 with (at_builtin; refine wpList_push_low rfl _ _ 94 rfl 48 _ 2 40 Try.underlying94 pattern_row rfl (by decide) (by decide) W (andAlloc HL8.out _) _ k (C.take (k * 2)) rfl (HO8.out.alloc _) #[.string Z, .slice A3 n3 c3] rfl rfl rfl (Blk.new _ _ _) (by omega) ?_; intro v9 w9 hown9 hlow9; have HO9 := Lib.hid hown9; have HL9 := Lib.hid hlow9; have cq9 : w9.cell? ⟨q, 0, none⟩ = some (.slice (some ⟨gP, 0, none⟩) ln cP) := (by have h := (HDA.out w9 (andThen HLO.out hlow9)).blk.cell 0; first | exact h | (rw [HLN.out] at h; exact h)); have cqf := (HDA.out w9 (andThen HLO.out hlow9)).blk.free 0; clear hown9 hlow9)
              clear cp0 cp1
              have hck : ¬ cP = k := by omega
              have HND := Lib.hid (show (C.drop (k * 2)).length = (ln - k) * 2 by have := HCL.out; rw [List.length_drop]; omega)
              go_wp2_with (at_builtin; refine wpList_append_low rfl _ _ 94 rfl 48 _ 2 40 Try.underlying94 pattern_row rfl (by decide) W HL9.out _ (k + 1) (C.take (k * 2) ++ [Value.string Z, .slice A3 n3 c3]) rfl HO9.out _ (some ⟨gP, k * 2, none⟩) (ln - k) (cP - k) (C.drop (k * 2)) rfl HND.out (by have h := (HSG.out w9 (andThen HLO.out HL9.out)).drop (k * 2); rw [Nat.zero_add] at h; exact h) (by intro e; first | (cases e; done) | rfl) (fun u hu => HC1.out u (List.mem_of_mem_drop hu)) (by unfold maxLen; omega) (by omega) ?_; intro v10 w10 hown10 hlow10; obtain ⟨A10, c10, rfl, -, -, -⟩ := own_sl hown10; have HO10 := Lib.hid hown10; have HL10 := Lib.hid hlow10; have cq10 := (HDA.out w10 (andThen HLO.out hlow10)).blk.cell 0; have cqf10 := (HDA.out w10 (andThen HLO.out hlow10)).blk.free 0; clear hown10 hlow10)
              go_ret
              skip
              have hF := FIN.out _ w10 (k + 1 + (ln - k)) (by omega) (andThen HLO.out HL10.out) (own_base HO10.out HLO.out.size)
              rw [HT.out] at hF
              exact ⟨ret_in HE.out, hF.1, Exists.intro _ (Exists.intro _ hF.2)⟩
        · rw [hl] at hcm
          have hkK := hon hl
          clear hon hst hl hce
          go_wp2_with fail
          go_quiet (fail)
          go_wp2_with fail
          go_roundw
          case rel => exact ⟨k + 1, by go_num, hkK, by repeat (first | exact HLOW.out | refine below_drewN ?_ _ | refine Below.drew ?_)⟩
          case measure => clear hint hdk; simp [intOf]; omega
      · have HNH := Lib.hid (show xhas L x.1 = false from xhas_end (by rw [HLN.out, HKK.out]; omega))
        have hkK : k = K := by omega
        subst hkK
        have hkn : k ≤ ln := by omega
        have hdk : decide (k < ln) = false := decide_eq_false (by omega)
        have hkl2 : k = ln := by omega
        have HKL := Lib.hid hkl2
        clear hkl2 hkl
        obtain ⟨us2, -, ho2, -⟩ := hdr.pr
        rcases ho2.2 with ⟨hnil, h0⟩ | ⟨gP, cP, cur, hrow, hBg, hg, hnc, hcm, -⟩
        · rw [HLN.out] at h0
          have hk0 : k = 0 := by have := HKL.out; omega
          subst hnil
          subst hk0
          subst h0
          clear ho2 hdr
          · have h5 : ¬ (0 : Nat) = 5000 := by decide
            have HE := Lib.hid (show (0 : Int) = dtellE L s.data.toList by unfold dtellE; rw [HP.out]; simp only [HNH.out, Bool.false_eq_true, if_false]; rw [if_neg (by rw [HLN.out]; exact h5)])
            have HT := Lib.hid (show insAt L 0 x = dtell L s.data.toList by rw [← HKK.out]; unfold dtell; rw [HP.out]; simp only [HNH.out, Bool.false_eq_true, if_false]; rw [if_neg (by rw [HLN.out]; exact h5)])
            skip
            go_wp2_with fail
            go_quiet (fail)
            go_wp2_with fail
            go_quiet (fail)
            go_upto_region 13 with fail
            generalize hW : World.drewN wr _ = W
            have hlowW : Below w5.heap.size w5 W := by rw [← hW]; exact below_drewN HLOW.out _
            have HLO := Lib.hid (andThen HBL5.out hlowW)
            have cq : W.cell? ⟨q, 0, none⟩ = some (.slice none 0 0) := by rw [← hW]; exact cq
            have hql : q < W.heap.size := by rw [← hW]; exact hql
            have HPB := Lib.hid (fun W' (h : Below W.heap.size W W') => HPB.out W' (by rw [← hW] at h; exact andThen (below_drewN (Below.refl _ _) _) h))
            clear hlowW hW
            go_upto_region 14 with fail
            have HO8 := Lib.hid (own_made0 (t := 48) W)
            have HL8 := Lib.hid (andAlloc (Below.refl W.heap.size W) (.cells #[] 48))
            have hb8 : Below W.heap.size W (W.alloc (.cells #[] 48)) := andAlloc (Below.refl W.heap.size W) _
            have cp0 := (HPB.out _ hb8).cell 0
            have cp1 := (HPB.out _ hb8).cell 1
            generalize W.alloc (.cells #[] 48) = w8 at HO8 HL8 cp0 cp1 hb8 ⊢
            go_upto_region 15 with (at_builtin; refine wpList_push_low rfl _ _ 94 rfl 48 _ 2 40 Try.underlying94 pattern_row rfl (by decide) (by decide) W (andAlloc HL8.out _) _ 0 (C.take (0 * 2)) rfl (HO8.out.alloc _) #[.string Z, .slice A3 n3 c3] rfl rfl rfl (Blk.new _ _ _) (by omega) ?_; intro v9 w9 hown9 hlow9; have HO9 := Lib.hid hown9; have HL9 := Lib.hid hlow9; have cq9 : w9.cell? ⟨q, 0, none⟩ = some (.slice none 0 0) := (by have h := (HDA.out w9 (andThen HLO.out hlow9)).blk.cell 0; first | exact h | (rw [HLN.out] at h; exact h)); have cqf := (HDA.out w9 (andThen HLO.out hlow9)).blk.free 0; clear hown9 hlow9)
            clear cp0 cp1
            have HNIL := Lib.hid (show C.drop (0 * 2) = [] from List.eq_nil_of_length_eq_zero (by have := HCL.out; rw [List.length_drop]; omega))
            have HND := Lib.hid (show (C.drop (0 * 2)).length = (0 - 0) * 2 by have := HCL.out; rw [List.length_drop]; omega)
            go_wp2_with (at_builtin; refine wpList_append_low rfl _ _ 94 rfl 48 _ 2 40 Try.underlying94 pattern_row rfl (by decide) W HL9.out _ (0 + 1) (C.take (0 * 2) ++ [Value.string Z, .slice A3 n3 c3]) rfl HO9.out 0 none (0 - 0) (0 - 0) (C.drop (0 * 2)) rfl HND.out (.inl HNIL.out) (by intro e; first | (cases e; done) | rfl) (fun u hu => HC1.out u (List.mem_of_mem_drop hu)) (by unfold maxLen; omega) (by omega) ?_; intro v10 w10 hown10 hlow10; obtain ⟨A10, c10, rfl, -, -, -⟩ := own_sl hown10; have HO10 := Lib.hid hown10; have HL10 := Lib.hid hlow10; have cq10 := (HDA.out w10 (andThen HLO.out hlow10)).blk.cell 0; have cqf10 := (HDA.out w10 (andThen HLO.out hlow10)).blk.free 0; clear hown10 hlow10)
            go_ret
            skip
            have hF := FIN.out _ w10 (0 + 1 + (0 - 0)) (by omega) (andThen HLO.out HL10.out) (own_base HO10.out HLO.out.size)
            rw [HT.out] at hF
            exact ⟨ret_in HE.out, hF.1, Exists.intro _ (Exists.intro _ hF.2)⟩
        · rw [HLN.out] at hrow hnc
          subst hrow
          have HSG := Lib.hid (fun W h => HSG.out W h (some ⟨gP, 0, none⟩) cP rfl)
          have hkc : k ≤ cP := by omega
          have hkci : (k : Int) ≤ (cP : Int) := by omega
          clear ho2 hdr hg hcm
          by_cases h5 : ln = 5000
          · have hl5 : ((ln : Int) == 5000) = true := by rw [beq_iff_eq]; omega
            have HE := Lib.hid (show (6 : Int) = dtellE L s.data.toList by unfold dtellE; rw [HP.out]; simp only [HNH.out, Bool.false_eq_true, if_false]; rw [if_pos (by rw [HLN.out]; exact h5)])
            have HT := Lib.hid (show L = dtell L s.data.toList by unfold dtell; rw [HP.out]; simp only [HNH.out, Bool.false_eq_true, if_false]; rw [if_pos (by rw [HLN.out]; exact h5)])
            clear h5
            go_wp2_with fail
            go_quiet (fail)
            go_wp2_with fail
            go_quiet (fail)
            go_wp2_with fail
            go_ret
            exact ⟨ret_in HE.out, SAME.out _ (by repeat (first | exact HLO.out | refine andAlloc ?_ _ | refine below_drewN ?_ _ | refine Below.drew ?_)) _ HT.out⟩
          · have hl5 : ((ln : Int) == 5000) = false := by rw [beq_eq_false_iff_ne]; omega
            have HE := Lib.hid (show (0 : Int) = dtellE L s.data.toList by unfold dtellE; rw [HP.out]; simp only [HNH.out, Bool.false_eq_true, if_false]; rw [if_neg (by rw [HLN.out]; exact h5)])
            have HT := Lib.hid (show insAt L k x = dtell L s.data.toList by rw [← HKK.out]; unfold dtell; rw [HP.out]; simp only [HNH.out, Bool.false_eq_true, if_false]; rw [if_neg (by rw [HLN.out]; exact h5)])
            skip
            go_wp2_with fail
            go_quiet (fail)
            go_wp2_with fail
            go_quiet (fail)
            go_upto_region 13 with fail
            generalize hW : World.drewN wr _ = W
            have hlowW : Below w5.heap.size w5 W := by rw [← hW]; exact below_drewN HLOW.out _
            have HLO := Lib.hid (andThen HBL5.out hlowW)
            have cq : W.cell? ⟨q, 0, none⟩ = some (.slice (some ⟨gP, 0, none⟩) ln cP) := by rw [← hW]; exact cq
            have hql : q < W.heap.size := by rw [← hW]; exact hql
            have HPB := Lib.hid (fun W' (h : Below W.heap.size W W') => HPB.out W' (by rw [← hW] at h; exact andThen (below_drewN (Below.refl _ _) _) h))
            clear hlowW hW
            have HO0 := Lib.hid (own_made0 (t := 48) W)
            have HLA := Lib.hid (andAlloc (Below.refl W.heap.size W) (.cells #[] 48))
            have HSG0 := Lib.hid ((HSG.out _ (andThen HLO.out HLA.out)).take (k * 2))
            have HN0 := Lib.hid (show (C.take (k * 2)).length = k * 2 by rw [List.length_take, HCL.out]; omega)
            have HC0 := Lib.hid (fun u (hu : u ∈ C.take (k * 2)) => HC1.out u (List.mem_of_mem_take hu))
            have hm0 : 0 + k ≤ maxLen := by unfold maxLen; omega
            have hm1 : (0 + k) * 40 ≤ 140737488355328 := by omega
            have HA0 := Lib.hid (show ((some ⟨gP, 0, none⟩) : Option Addr) = none → cP = 0 from fun e => by cases e)
            go_upto_region 14 with (at_builtin; refine wpList_append_low rfl _ _ 94 rfl 48 _ 2 40 Try.underlying94 pattern_row rfl (by decide) W HLA.out _ 0 [] rfl HO0.out _ (some ⟨gP, 0, none⟩) k cP (C.take (k * 2)) rfl HN0.out HSG0.out HA0.out HC0.out hm0 hm1 ?_; intro v8 w8 hown8 hlow8; rw [Nat.zero_add, List.nil_append] at hown8; have HO8 := Lib.hid hown8; have HL8 := Lib.hid hlow8; have cp0 := (HPB.out w8 hlow8).cell 0; have cp1 := (HPB.out w8 hlow8).cell 1; clear hown8 hlow8)
            go_upto_region 15 with (at_builtin; refine wpList_push_low rfl _ _ 94 rfl 48 _ 2 40 Try.underlying94 pattern_row rfl (by decide) (by decide) W (andAlloc HL8.out _) _ k (C.take (k * 2)) rfl (HO8.out.alloc _) #[.string Z, .slice A3 n3 c3] rfl rfl rfl (Blk.new _ _ _) (by omega) ?_; intro v9 w9 hown9 hlow9; have HO9 := Lib.hid hown9; have HL9 := Lib.hid hlow9; have cq9 : w9.cell? ⟨q, 0, none⟩ = some (.slice (some ⟨gP, 0, none⟩) ln cP) := (by have h := (HDA.out w9 (andThen HLO.out hlow9)).blk.cell 0; first | exact h | (rw [HLN.out] at h; exact h)); have cqf := (HDA.out w9 (andThen HLO.out hlow9)).blk.free 0; clear hown9 hlow9)
            clear cp0 cp1
            by_cases hck : cP = k
            · skip
              have HNIL := Lib.hid (show C.drop (k * 2) = [] from List.eq_nil_of_length_eq_zero (by have := HCL.out; have := HKL.out; rw [List.length_drop]; omega))
              have HND := Lib.hid (show (C.drop (k * 2)).length = (ln - k) * 2 by have := HCL.out; rw [List.length_drop]; omega)
              go_wp2_with (at_builtin; refine wpList_append_low rfl _ _ 94 rfl 48 _ 2 40 Try.underlying94 pattern_row rfl (by decide) W HL9.out _ (k + 1) (C.take (k * 2) ++ [Value.string Z, .slice A3 n3 c3]) rfl HO9.out 0 _ _ _ (C.drop (k * 2)) rfl HND.out (.inl HNIL.out) (by intro e; first | (cases e; done) | rfl) (fun u hu => HC1.out u (List.mem_of_mem_drop hu)) (by unfold maxLen; omega) (by omega) ?_; intro v10 w10 hown10 hlow10; obtain ⟨A10, c10, rfl, -, -, -⟩ := own_sl hown10; have HO10 := Lib.hid hown10; have HL10 := Lib.hid hlow10; have cq10 := (HDA.out w10 (andThen HLO.out hlow10)).blk.cell 0; have cqf10 := (HDA.out w10 (andThen HLO.out hlow10)).blk.free 0; clear hown10 hlow10)
              go_ret
              subst hck
              have hF := FIN.out _ w10 (cP + 1 + (ln - cP)) (by omega) (andThen HLO.out HL10.out) (own_base HO10.out HLO.out.size)
              rw [HT.out] at hF
              exact ⟨ret_in HE.out, hF.1, Exists.intro _ (Exists.intro _ hF.2)⟩
            · skip
              have HNIL := Lib.hid (show C.drop (k * 2) = [] from List.eq_nil_of_length_eq_zero (by have := HCL.out; have := HKL.out; rw [List.length_drop]; omega))
              have HND := Lib.hid (show (C.drop (k * 2)).length = (ln - k) * 2 by have := HCL.out; rw [List.length_drop]; omega)
              go_wp2_with (at_builtin; refine wpList_append_low rfl _ _ 94 rfl 48 _ 2 40 Try.underlying94 pattern_row rfl (by decide) W HL9.out _ (k + 1) (C.take (k * 2) ++ [Value.string Z, .slice A3 n3 c3]) rfl HO9.out 0 _ _ _ (C.drop (k * 2)) rfl HND.out (.inl HNIL.out) (by intro e; first | (cases e; done) | rfl) (fun u hu => HC1.out u (List.mem_of_mem_drop hu)) (by unfold maxLen; omega) (by omega) ?_; intro v10 w10 hown10 hlow10; obtain ⟨A10, c10, rfl, -, -, -⟩ := own_sl hown10; have HO10 := Lib.hid hown10; have HL10 := Lib.hid hlow10; have cq10 := (HDA.out w10 (andThen HLO.out hlow10)).blk.cell 0; have cqf10 := (HDA.out w10 (andThen HLO.out hlow10)).blk.free 0; clear hown10 hlow10)
              go_ret
              skip
              have hF := FIN.out _ w10 (k + 1 + (ln - k)) (by omega) (andThen HLO.out HL10.out) (own_base HO10.out HLO.out.size)
              rw [HT.out] at hF
              exact ⟨ret_in HE.out, hF.1, Exists.intro _ (Exists.intro _ hF.2)⟩
end Go.Proofs.Ytmcekdjhkjhcdaa.Hy

import Derived.Test.YtoboecenlangmaaMe2
import Derived.Test.YtoboecenlangmaaNodeRt
import Derived.Deep.LoopGhost
import Derived.Deep.RegionHeldLaw
import Derived.OneCell
import Derived.Deep.RegionLaw
import Derived.Test.YtoboecenlangmaaNodeE
import Derived.Test.YtoboecenlangmaaMe1
import Derived.Test.YtoboecenlangmaaMem
import Derived.ProofKit
import Derived.OpenShut
import Derived.Deep.Slices
import Derived.SizedLaws
import Derived.KernelRfl
import Derived.Test.YtoboecenlangmaaGlueF
import Derived.Carry
import Derived.Deep.MidRow
import Derived.BigQuiet
/- AlignColumns: in all rows the columns begin at the same places, those of the head. No conditions. -/
section
namespace Go.Proofs.Ytoboecenlangmaa.Al
open Go.ChangeShapes Go.WideShapes Go.ChangeAt Go.RowKit
open Me Np No Pk
open Gl (G Row)
set_option linter.unusedVariables false
set_option linter.unusedSimpArgs false

def HdE (E0 : Int) (R : List Nd × List Nd × Int × Int × Int) : Int := if E0 = 0 then R.2.2.2.2 else E0
def HdL (E0 : Int) (R : List Nd × List Nd × Int × Int × Int) : List Nd := if E0 = 0 then R.1 else []
def HeadP (E0 : Int) (R : List Nd × List Nd × Int × Int × Int) (w : World) (e : Ending) (w' : World) : Prop :=
  ∃ v b o, e = .returned (.tuple #[v, .int .i64 b, .int .i64 o, .int .i64 (HdE E0 R)]) ∧ w'.ownsRow w.heap.size 54 19 v (HdL E0 R).length ((HdL E0 R).flatMap ncs) ∧ Below w.heap.size w w'
theorem md_len {ss : List G} {ds : List RD} (h : mdE ss ds = 0) : 2 ≤ ss.length ∧ ss.length ≤ 257 ∧ (mdC ss ds).w.length + 1 = ss.length ∧ (mdC ss ds).s.length = ss.length ∧ ckE ss ds = 0 := by
  obtain ⟨h1, h2⟩ := cols_ok h
  have h3 := (cols_len (ds.map cel) ss (ss.length - 1)).2.2
  exact ⟨h1.n2, h1.n257, by rw [h1.lw]; have := h1.n2; omega, h3, h2⟩
theorem ck_rows {ss : List G} {ds : List RD} (h : ckE ss ds = 0) : ds.length ≤ 2000 := by
  unfold ckE at h
  split at h
  · cases h
  · rename_i h1
    simp at h1
    omega
set_option maxHeartbeats 2000000 in
set_option maxRecDepth 100000 in
theorem Head_al (A : Option Addr) (ss : List G) (c : Nat) (B : Option Addr) (rs : List Rw) (k : Nat) (tw : Int) (ex : Bool) (w : World) (hS : Row w A ss) (hR : RsOk w (fun _ => True) B k rs) (h63 : ss.length ≤ maxLen) (R : List Nd × List Nd × Int × Int × Int)
    (hH : mdE ss (rs.map Rw.d) = 0 → HpkAt (headL (mdC ss (rs.map Rw.d)).w (mdC ss (rs.map Rw.d)).s) tw ex R) :
    Calls Try.prog 32 #[.slice A ss.length c, .slice B rs.length k, .int .i64 tw, .bool ex] w (HeadP (mdE ss (rs.map Rw.d)) R w) := by
  have HM := Lib.hid (show Calls Try.prog 35 #[.slice A ss.length c, .slice B rs.length k] w (MdOutC (mdE ss (rs.map Rw.d)) (mdC ss (rs.map Rw.d)) w) from made_al A ss c B rs k w hS hR h63)
  have HML := Lib.hid (fun h : mdE ss (rs.map Rw.d) = 0 => md_len h)
  have HH := Lib.hid hH
  clear hS hR hH
  generalize mdE ss (rs.map Rw.d) = E0 at *
  generalize mdC ss (rs.map Rw.d) = C at *
  by_cases hE : E0 = 0
  · subst hE
    have hm := HM.out
    unfold MdOutC at hm
    have HM := Lib.hid hm
    have hhh := HH.out rfl
    clear HH hm
    have HH := Lib.hid hhh
    clear hhh
    obtain ⟨l2, l257, lw, ls, _⟩ := HML.out rfl
    go_enter Try.func32, Try.ntmps32
    go_upto_region 2 with (go_at_call 35; refine HM.out.mono ?_; rintro e w1 ⟨v, rfl, hb1, hmj⟩)
    obtain ⟨w0, g, vs, vw, vd, hle, rfl, hJ⟩ := hmj trivial
    have HJ := Lib.hid (head_al hJ (by omega) (by omega) tw ex R HH.out)
    have HB1 := Lib.hid hb1
    clear hmj hJ hb1
    go_wp2_with (go_at_call 65; refine HJ.out.mono ?_; rintro e w2 ⟨v, rfl, ho, hb2⟩)
    go_returns
    exact ⟨_, _, _, by unfold HdE; rw [if_pos rfl], by unfold HdL; rw [if_pos rfl]; exact own_base ho HB1.out.size, andThen HB1.out hb2⟩
  · have q1 : (E0 != 0) = true := by simp [hE]
    go_enter Try.func32, Try.ntmps32
    go_wp2_with (go_at_call 35; refine HM.out.mono ?_; rintro e w1 ⟨v, rfl, hb1, _⟩)
    go_returns
    exact ⟨_, _, _, by unfold HdE; rw [if_neg hE], by unfold HdL; rw [if_neg hE]; exact World.ownsRow_nil _ _ _ _, hb1⟩

/-- The rows that are set, one behind the other. -/
def RowsL (W : List Int) (S : List G) (n : Nd) : List RD → List Nd → Prop
  | [], L => L = []
  | d :: ds, L => ∃ (m : Nat) (l : List Nd) (h dp : Int) (L' : List Nd), m ≤ W.length ∧ RP W S m l ∧ chk l = 0 ∧ chk d.2 = 0 ∧ L = wrapL { n with ht := h, dp := dp } l ++ (d.2 ++ L') ∧ RowsL W S n ds L'
theorem RowsL.snoc {W : List Int} {S : List G} {n : Nd} {d : RD} {m : Nat} {l : List Nd} {h dp : Int} (hm : m ≤ W.length) (hr : RP W S m l) (hc : chk l = 0) (hd : chk d.2 = 0) : ∀ {ds : List RD} {L : List Nd}, RowsL W S n ds L → RowsL W S n (ds ++ [d]) (L ++ (wrapL { n with ht := h, dp := dp } l ++ d.2))
  | [], L, hL => by
    have hL : L = [] := hL
    subst hL
    exact ⟨m, l, h, dp, [], hm, hr, hc, hd, by simp, rfl⟩
  | e :: ds, L, hL => by
    obtain ⟨m', l', h', dp', L', h1, h2, h3, h4, rfl, h5⟩ := hL
    exact ⟨m', l', h', dp', L' ++ (wrapL { n with ht := h, dp := dp } l ++ d.2), h1, h2, h3, h4, by simp only [List.append_assoc], RowsL.snoc hm hr hc hd h5⟩
/-- The places of a box of columns. -/
def PlcAt (W : List Int) (S : List G) (m : Nat) (l : List Nd) (x : Nd) (f : Nat → Int) (xs : List Nat) : Prop :=
  xs.map (itA l) = (ab W S m).map some ∧ (∀ x ∈ xs, ∀ y, l[x]? = some y → ¬ y.kind = 7 → f x = y.wd) ∧
    ∀ (ns : List Nd) (k : Nat) (A : Option Addr) (c : Nat) (w : World), chk ns = 0 → ns[k]? = some x → endc (ns.drop k) 0 = some (l.length + 2) → (ns.drop (k + 1)).take l.length = l → ns.length ≤ c → Seg w w.heap.size A (ns.flatMap ncs) →
      Calls Try.prog 23 #[.slice A ns.length c, .int .i64 (k : Int)] w (PlOut (plcR x l f xs).1 (plcR x l f xs).2 w)
/-- What Set answers. -/
def SetP (C : Co) (ds : List RD) (tw : Int) (ex : Bool) (E0 : Int) (R : List Nd × List Nd × Int × Int × Int) (w : World) (e : Ending) (w' : World) : Prop :=
  ∃ v L E, e = .returned (.tuple #[v, .int .i64 E]) ∧ w'.ownsRow w.heap.size 54 19 v L.length (L.flatMap ncs) ∧ Below w.heap.size w w' ∧ (¬ E = 0 → L = []) ∧
    (E = 0 → E0 = 0 ∧ ∃ n, HdOk C.w C.s tw ex R n ∧ chk L = 0 ∧ RowsL C.w C.s n ds L ∧ ∃ f xs, PlcAt C.w C.s C.w.length (headL C.w C.s) n f xs ∧ (plcR n (headL C.w C.s) f xs).2 = 0)
theorem SetP.no {C : Co} {ds : List RD} {tw : Int} {ex : Bool} {E0 E : Int} {R : List Nd × List Nd × Int × Int × Int} {w w' : World} (h : ¬ E = 0) (hb : Below w.heap.size w w') : SetP C ds tw ex E0 R w (.returned (.tuple #[.slice none 0 0, .int .i64 E])) w' :=
  ⟨_, [], E, rfl, World.ownsRow_nil _ _ _ _, hb, fun _ => rfl, fun h0 => absurd h0 h⟩
section
attribute [local go_sem ↓] ldN_eq
set_option maxHeartbeats 4000000 in
set_option maxRecDepth 100000 in
theorem Set_al (A : Option Addr) (ss : List G) (c : Nat) (B : Option Addr) (rs : List Rw) (k : Nat) (tw : Int) (ex : Bool) (w : World) (hS : Row w A ss) (hR : RsOk w (fun _ => True) B k rs) (h63 : ss.length ≤ maxLen) (R : List Nd × List Nd × Int × Int × Int)
    (hH : mdE ss (rs.map Rw.d) = 0 → HpkAt (headL (mdC ss (rs.map Rw.d)).w (mdC ss (rs.map Rw.d)).s) tw ex R) (hHG : mdE ss (rs.map Rw.d) = 0 → HpkG (headL (mdC ss (rs.map Rw.d)).w (mdC ss (rs.map Rw.d)).s) tw ex R ∨ HpkN R) :
    Calls Try.prog 33 #[.slice A ss.length c, .slice B rs.length k, .int .i64 tw, .bool ex] w (SetP (mdC ss (rs.map Rw.d)) (rs.map Rw.d) tw ex (mdE ss (rs.map Rw.d)) R w) := by
  have HM := Lib.hid (show Calls Try.prog 35 #[.slice A ss.length c, .slice B rs.length k] w (MdOutC (mdE ss (rs.map Rw.d)) (mdC ss (rs.map Rw.d)) w) from made_al A ss c B rs k w hS hR h63)
  have HML := Lib.hid (fun h : mdE ss (rs.map Rw.d) = 0 => md_len h)
  have HH := Lib.hid hH
  have HR := Lib.hid hR
  have HCASE := Lib.hid (fun h : mdE ss (rs.map Rw.d) = 0 => hd_case (hHG h))
  have hrl := hR.len
  have hrc := hR.cap
  clear hS hR hH hHG
  generalize mdE ss (rs.map Rw.d) = E0 at *
  generalize mdC ss (rs.map Rw.d) = C at *
  obtain ⟨m, hm⟩ : ∃ m, rs.length = m := ⟨_, rfl⟩
  rw [hm] at hrl hrc HM ⊢
  have HMM := Lib.hid hm
  clear hm
  by_cases hE : E0 = 0
  · subst hE
    have hm := HM.out
    unfold MdOutC at hm
    have HM := Lib.hid hm
    have hhh := HH.out rfl
    clear HH hm
    have HH := Lib.hid hhh
    clear hhh
    obtain ⟨l2, l257, lw, ls, hck⟩ := HML.out rfl
    have hcc := HCASE.out rfl
    clear HCASE
    have HCASE := Lib.hid hcc
    clear hcc
    have HLEN := Lib.hid (And.intro l2 (And.intro l257 (And.intro lw (And.intro ls hck))))
    go_enter Try.func33, Try.ntmps33
    go_upto_region 2 with (go_at_call 35; refine HM.out.mono ?_; rintro e w1 ⟨v, rfl, hb1, hmj⟩)
    obtain ⟨w0, g, vs, vw, vd, hle, rfl, hJ⟩ := hmj trivial
    have HJH := Lib.hid (head_al hJ (by omega) (by omega) tw ex R HH.out)
    have HJ := Lib.hid hJ
    have HB1 := Lib.hid hb1
    clear hmj hJ hb1 l2 l257 lw ls hck
    rcases HCASE.out with ⟨n, hok⟩ | ⟨hR0, hRE⟩
    · obtain ⟨RL, RO, rb, ro, RE⟩ := R
      have HOK := Lib.hid hok
      have h0 : RE = 0 := hok.ok
      subst h0
      go_upto_region 7 with (go_at_call 65; refine HJH.out.mono ?_; rintro e w2 ⟨v2, rfl, ho2, hb2⟩; have HO2 := Lib.hid ho2; have HB2 := Lib.hid (andThen HB1.out hb2); have HB12 := Lib.hid hb2; clear ho2 hb2)
      have hbox : RL = wrapL n (headL C.w C.s) := HOK.out.box
      obtain ⟨f, xs, p1, p2, p3⟩ := places_row (head_rp C.w C.s) n HOK.out.kind HOK.out.inn
      have HPA := Lib.hid (show PlcAt C.w C.s C.w.length (headL C.w C.s) n f xs from ⟨p1, p2, p3⟩)
      obtain ⟨A2, c2, rfl, hc2, _, _, hs2⟩ := SegS.own (S := fun _ => True) HO2.out (fun _ _ => trivial)
      have hcal := p3 RL 0 A2 c2 w2 HOK.out.chk (by rw [hbox]; rfl) (by rw [hbox]; exact endc_wrap (by simp [opensB, HOK.out.kind]) HOK.out.inn) (by rw [hbox]; simp [wrapL]) hc2 hs2.seg
      have hpl := (places_pre (m := C.w.length) (k := 0) (x1 := n) (x2 := n) p1 p1 p2 p2 ⟨rfl, rfl, rfl, rfl⟩)
      have hrl0 : 0 < RL.length := by rw [hbox, wrap_len]; omega
      obtain ⟨b2, o2, rfl, hb2, hnode⟩ := seg_node hs2.seg (k := 0) (show RL[0]? = some n by rw [hbox]; rfl)
      rw [Nat.zero_mul, Nat.add_zero] at hnode
      have HND := Lib.hid hnode
      generalize hPP : plcR n (headL C.w C.s) f xs = PP at *
      obtain ⟨PL, PE⟩ := PP
      simp only at hcal hpl
      have HPP := Lib.hid hPP
      have HPL := Lib.hid hpl
      have HCAL := Lib.hid hcal
      have HBOX := Lib.hid hbox
      clear hcal hPP hpl p1 p2 p3 hs2 hbox hok hnode
      generalize hrll : RL.length = rl at *
      have HRLL := Lib.hid hrll
      clear hrll
      by_cases hPE : PE = 0
      · subst hPE
        have hlp := (HPL.out rfl).2.1
        go_upto_region 10 with (go_at_call 23; refine HCAL.out.mono ?_; rintro e w3 ⟨v3, rfl, ho3, hb3⟩; have HO3 := Lib.hid ho3; have HB3 := Lib.hid (andThen HB2.out hb3); have HB23 := Lib.hid hb3; clear ho3 hb3)
        obtain ⟨A3, c3, rfl, hc3, _, _, hs3⟩ := SegS.own (S := fun _ => True) HO3.out (fun _ _ => trivial)
        have HS3 := Lib.hid hs3.seg
        have hm2 : m ≤ 2000 := by have := ck_rows HLEN.out.2.2.2.2; rw [List.length_map, HMM.out] at this; exact this
        have HJ3 := Lib.hid (HJ.out.below (andThen HB12.out HB23.out))
        have HO2' := Lib.hid (own_below HO2.out HB23.out)
        have HLP := Lib.hid (And.intro hlp hc3)
        clear hs3 hlp hc3 HJH HH HCAL HPL
        obtain ⟨W3, rfl⟩ : ∃ W, W = w3 := ⟨_, rfl⟩
        go_upto_region 11 with fail
        go_loopw [8, 51] (fun v8 v51 wr => ∃ (i : Nat) (L : List Nd), i ≤ m ∧ v51 = .int .i64 (i : Int) ∧ wr.ownsRow W3.heap.size 54 19 v8 L.length (L.flatMap ncs) ∧ RowsL C.w C.s n ((rs.map Rw.d).take i) L ∧ L.length ≤ 4010 * i ∧ Below W3.heap.size W3 wr) (fun _ v51 _ => m - (intOf v51).toNat)
        case atStart => exact ⟨0, [], by omega, rfl, World.ownsRow_nil _ _ _ _, rfl, by simp, Below.refl _ _⟩
        case round =>
          obtain ⟨i, L, hi, rfl, hown, hrw, hll, hb⟩ := hrel
          have HOL := Lib.hid hown
          have HRW := Lib.hid hrw
          have HB := Lib.hid hb
          clear hown hrw
          by_cases hlt : i < m
          · obtain ⟨r, hr⟩ := get_some (l := rs) (i := i) (by rw [HMM.out]; exact hlt)
            have hw := HR.out.below (andThen HB3.out hb)
            obtain ⟨b, off, rfl, hb0, hc0, hc1⟩ := hw.row hr
            have HRO := Lib.hid (hw.get hr)
            have HRK := Lib.hid hr
            have hii : (i : Int) < (m : Int) := by omega
            clear hw hr hb
            go_upto_region 13 with fail
            have HKR := Lib.hid (Blk.new wr 36 #[.slice r.A r.cs.length r.c, .slice r.E r.ex.length r.k])
            have HB4 := Lib.hid (andAlloc HB.out (.cells #[.slice r.A r.cs.length r.c, .slice r.E r.ex.length r.k] 36))
            have HOL4 := Lib.hid (own_below HOL.out (andAlloc (Below.refl wr.heap.size wr) (.cells #[.slice r.A r.cs.length r.c, .slice r.E r.ex.length r.k] 36)))
            have HRO4 := Lib.hid (HRO.out.keep (Kp.alloc _ wr (.cells #[.slice r.A r.cs.length r.c, .slice r.E r.ex.length r.k] 36)))
            clear hc0 hc1 hb0 HOL HRO HB
            generalize wr.heap.size = g16 at *
            generalize wr.alloc (.cells #[.slice r.A r.cs.length r.c, .slice r.E r.ex.length r.k] 36) = W4 at *
            have k0 : W4.cell? ⟨g16, 0, none⟩ = some (.slice r.A r.cs.length r.c) := (HKR.out.cell 0).trans rfl
            have k1 : W4.cell? ⟨g16, 1, none⟩ = some (.slice r.E r.ex.length r.k) := (HKR.out.cell 1).trans rfl
            have kl := HKR.out.lt
            have HCS := Lib.hid (fun (w' : World) (hb : Below W4.heap.size W4 w') => show w'.cell? ⟨g16, 0, none⟩ = some (.slice r.A r.cs.length r.c) ∧ w'.cell? ⟨g16, 1, none⟩ = some (.slice r.E r.ex.length r.k) ∧ Below W4.heap.size W4 w' from
              ⟨(hb.cell (p := ⟨g16, 0, none⟩) kl).trans k0, (hb.cell (p := ⟨g16, 1, none⟩) kl).trans k1, hb⟩)
            clear k0 k1
            have hrl1 : (0 : Int) < (rl : Int) := by omega
            have HRA := Lib.hid (fun (w' : World) (h : Below W4.heap.size W4 w') => row_al (HJ3.out.below (andThen HB4.out h)) (by have := HLEN.out; omega) (by have := HLEN.out; omega) HLEN.out.2.2.2.2 (by have := HLEN.out; omega) r (List.mem_map.2 ⟨r, List.mem_of_getElem? HRK.out, rfl⟩) (HRO4.out.keep (Kp.below _ h)) n A3 c3 PL (Seg.belowW HS3.out (andThen HB4.out h)) HLP.out.1 HLP.out.2)
            refine wp_region_held_drew (S := fun w' => w'.cell? ⟨g16, 0, none⟩ = some (.slice r.A r.cs.length r.c) ∧ w'.cell? ⟨g16, 1, none⟩ = some (.slice r.E r.ex.length r.k) ∧ Below W4.heap.size W4 w') (by kernel_rfl) (HCS.out _ (below_drewN (Below.refl _ _) 1)) (fun hH => ?_)
            refine take_lit (i := 0) (v := (.pointer (some ⟨g, 0, none⟩))) (by kernel_rfl) (by kernel_rfl) (by kernel_rfl) (by kernel_rfl) (fun _ _ _ _ h => h) hH (fun oi hoi => ?_)
            simp only [List.getElem?_toArray, List.getElem?_cons_succ, List.getElem?_cons_zero, Option.some.injEq] at hoi
            subst hoi
            refine ⟨.inl ⟨by rfl, fun w hSw => ?_⟩, ?_⟩
            · obtain ⟨s0, s1, s2⟩ := hSw
              first | (go_simp; done) | (go_simp; with_reducible rfl)
            simp only [Act.put, List.setIfInBounds_toArray, List.set_cons_zero, List.set_cons_succ]
            refine take_lit (i := 1) (v := (.agg #[.slice r.A r.cs.length r.c, .slice r.E r.ex.length r.k])) (by kernel_rfl) (by kernel_rfl) (by kernel_rfl) (by kernel_rfl) (fun _ _ _ _ h => h) hH (fun oi hoi => ?_)
            simp only [List.getElem?_toArray, List.getElem?_cons_succ, List.getElem?_cons_zero, Option.some.injEq] at hoi
            subst hoi
            refine ⟨.inl ⟨by rfl, fun w hSw => ?_⟩, ?_⟩
            · obtain ⟨s0, s1, s2⟩ := hSw
              first | (go_simp; done) | (go_simp; with_reducible rfl)
            simp only [Act.put, List.setIfInBounds_toArray, List.set_cons_zero, List.set_cons_succ]
            refine take_lit (i := 2) (v := (.slice (some ⟨b2, o2, none⟩) rl c2)) (by kernel_rfl) (by kernel_rfl) (by kernel_rfl) (by kernel_rfl) (fun _ _ _ _ h => h) hH (fun oi hoi => ?_)
            simp only [List.getElem?_toArray, List.getElem?_cons_succ, List.getElem?_cons_zero, Option.some.injEq] at hoi
            subst hoi
            refine ⟨.inl ⟨by rfl, fun w hSw => ?_⟩, ?_⟩
            · obtain ⟨s0, s1, s2⟩ := hSw
              first | (go_simp; done) | (go_simp; with_reducible rfl)
            simp only [Act.put, List.setIfInBounds_toArray, List.set_cons_zero, List.set_cons_succ]
            refine take_lit (i := 3) (v := (.pointer (some ⟨b2, o2, none⟩))) (by kernel_rfl) (by kernel_rfl) (by kernel_rfl) (by kernel_rfl) (fun _ _ _ _ h => h) hH (fun oi hoi => ?_)
            simp only [List.getElem?_toArray, List.getElem?_cons_succ, List.getElem?_cons_zero, Option.some.injEq] at hoi
            subst hoi
            refine ⟨.inl ⟨by rfl, fun w hSw => ?_⟩, ?_⟩
            · obtain ⟨s0, s1, s2⟩ := hSw
              first | (go_simp; done) | (go_simp; with_reducible rfl)
            simp only [Act.put, List.setIfInBounds_toArray, List.set_cons_zero, List.set_cons_succ]
            refine take_lit (i := 4) (v := (.agg (nc n))) (by kernel_rfl) (by kernel_rfl) (by kernel_rfl) (by kernel_rfl) (fun _ _ _ _ h => h) hH (fun oi hoi => ?_)
            simp only [List.getElem?_toArray, List.getElem?_cons_succ, List.getElem?_cons_zero, Option.some.injEq] at hoi
            subst hoi
            refine ⟨.inl ⟨by rfl, fun w hSw => ?_⟩, ?_⟩
            · obtain ⟨s0, s1, s2⟩ := hSw
              first | (have hl := run_ldN (HND.out.below (andThen HB23.out (andThen HB4.out s2)) hb2); go_simp; done) | (have hl := run_ldN (HND.out.below (andThen HB23.out (andThen HB4.out s2)) hb2); go_simp; with_reducible rfl)
            simp only [Act.put, List.setIfInBounds_toArray, List.set_cons_zero, List.set_cons_succ]
            refine take_lit (i := 5) (v := (.slice A3 PL.length c3)) (by kernel_rfl) (by kernel_rfl) (by kernel_rfl) (by kernel_rfl) (fun _ _ _ _ h => h) hH (fun oi hoi => ?_)
            simp only [List.getElem?_toArray, List.getElem?_cons_succ, List.getElem?_cons_zero, Option.some.injEq] at hoi
            subst hoi
            refine ⟨.inl ⟨by rfl, fun w hSw => ?_⟩, ?_⟩
            · obtain ⟨s0, s1, s2⟩ := hSw
              first | (go_simp; done) | (go_simp; with_reducible rfl)
            simp only [Act.put, List.setIfInBounds_toArray, List.set_cons_zero, List.set_cons_succ]
            refine wpAnyH_ready (rs := [6]) (by kernel_rfl) (by simp) (AllReadyH.cons rfl (fun K hK => ?_) AllReadyH.nil)
            go_simp
            go_wp2_with fail
            refine (HRA.out _ hH.2.2).mono ?_
            rintro e w6 ⟨v6, L6, E6, rfl, ho6, hb6, hno6, hyes6⟩
            have HO6 := Lib.hid ho6
            have HB6 := Lib.hid (andThen hH.2.2 hb6)
            have HYES := Lib.hid (And.intro hno6 hyes6)
            have HSZ6 := Lib.hid hH.2.2.size
            clear ho6 hno6 hyes6
            refine hK.out _ _ (HCS.out _ (andThen hH.2.2 hb6)) (fun hH1 => ?_)
            try simp only [Act.put, List.setIfInBounds_toArray, List.set_cons_zero, List.set_cons_succ]
            clear hK K
            refine take_lit (i := 7) (v := (.tuple #[v6, .int .i64 E6])) (by kernel_rfl) (by kernel_rfl) (by kernel_rfl) (by kernel_rfl) (fun _ _ _ _ h => h) hH1 (fun oi hoi => ?_)
            simp only [List.getElem?_toArray, List.getElem?_cons_succ, List.getElem?_cons_zero, Option.some.injEq] at hoi
            subst hoi
            refine ⟨.inl ⟨by rfl, fun w hSw => ?_⟩, ?_⟩
            · obtain ⟨s0, s1, s2⟩ := hSw
              first | (go_simp; done) | (go_simp; with_reducible rfl)
            simp only [Act.put, List.setIfInBounds_toArray, List.set_cons_zero, List.set_cons_succ]
            refine take_lit (i := 8) (v := v6) (by kernel_rfl) (by kernel_rfl) (by kernel_rfl) (by kernel_rfl) (fun _ _ _ _ h => h) hH1 (fun oi hoi => ?_)
            simp only [List.getElem?_toArray, List.getElem?_cons_succ, List.getElem?_cons_zero, Option.some.injEq] at hoi
            subst hoi
            refine ⟨.inl ⟨by rfl, fun w hSw => ?_⟩, ?_⟩
            · obtain ⟨s0, s1, s2⟩ := hSw
              first | (go_simp; done) | (go_simp; with_reducible rfl)
            simp only [Act.put, List.setIfInBounds_toArray, List.set_cons_zero, List.set_cons_succ]
            refine take_lit (i := 9) (v := (.int .i64 E6)) (by kernel_rfl) (by kernel_rfl) (by kernel_rfl) (by kernel_rfl) (fun _ _ _ _ h => h) hH1 (fun oi hoi => ?_)
            simp only [List.getElem?_toArray, List.getElem?_cons_succ, List.getElem?_cons_zero, Option.some.injEq] at hoi
            subst hoi
            refine ⟨.inl ⟨by rfl, fun w hSw => ?_⟩, ?_⟩
            · obtain ⟨s0, s1, s2⟩ := hSw
              first | (go_simp; done) | (go_simp; with_reducible rfl)
            simp only [Act.put, List.setIfInBounds_toArray, List.set_cons_zero, List.set_cons_succ]
            refine take_lit (i := 10) (v := v6) (by kernel_rfl) (by kernel_rfl) (by kernel_rfl) (by kernel_rfl) (fun _ _ _ _ h => h) hH1 (fun oi hoi => ?_)
            simp only [List.getElem?_toArray, List.getElem?_cons_succ, List.getElem?_cons_zero, Option.some.injEq] at hoi
            subst hoi
            refine ⟨.inl ⟨by rfl, fun w hSw => ?_⟩, ?_⟩
            · obtain ⟨s0, s1, s2⟩ := hSw
              first | (go_simp; done) | (go_simp; with_reducible rfl)
            simp only [Act.put, List.setIfInBounds_toArray, List.set_cons_zero, List.set_cons_succ]
            refine take_lit (i := 11) (v := (.int .i64 E6)) (by kernel_rfl) (by kernel_rfl) (by kernel_rfl) (by kernel_rfl) (fun _ _ _ _ h => h) hH1 (fun oi hoi => ?_)
            simp only [List.getElem?_toArray, List.getElem?_cons_succ, List.getElem?_cons_zero, Option.some.injEq] at hoi
            subst hoi
            refine ⟨.inl ⟨by rfl, fun w hSw => ?_⟩, ?_⟩
            · obtain ⟨s0, s1, s2⟩ := hSw
              first | (go_simp; done) | (go_simp; with_reducible rfl)
            simp only [Act.put, List.setIfInBounds_toArray, List.set_cons_zero, List.set_cons_succ]
            refine wpAnyH_done (by kernel_rfl) ?_ _
            -- THE ROW IS SET
            have HOL6 := Lib.hid (own_below HOL4.out HB6.out)
            have HBL6 := Lib.hid (andThen HB4.out HB6.out)
            clear hH hH1
            by_cases hE6 : E6 = 0
            · obtain ⟨l, h, d, hrp, hcl, hL6⟩ := HYES.out.2 hE6
              have hgood := row_good HLEN.out.2.2.2.2 (List.mem_map.2 ⟨r, List.mem_of_getElem? HRK.out, rfl⟩)
              have hce : chk r.ex = 0 := hgood.2.2
              have hpm : pos (cel r.d) r.cs.length ≤ C.w.length := by
                have h1 := hgood.2.1 r.cs.length
                have h2 : ((pos (cel r.d) r.cs.length : Nat) : Int) = posI r.d.1 r.cs.length := cel_pos (ex := r.d.2) fun c hc => (hgood.1 c hc).1
                have h3 := HLEN.out.2.2.1
                omega
              have HNX := Lib.hid (show RowsL C.w C.s n ((rs.map Rw.d).take (i + 1)) (L ++ L6) by
                rw [List.take_add_one, List.getElem?_map, HRK.out, hL6]
                exact RowsL.snoc (d := r.d) hpm hrp hcl hce HRW.out)
              have hl6 : L6.length ≤ 4002 := by
                have h1 := (chk_run hcl).1
                have h2 := (chk_run hce).1
                rw [hL6, List.length_append, wrap_len]
                omega
              have q6 : (E6 != 0) = false := by simp [hE6]
              obtain ⟨A6, c6, rfl, hc6, _, hn6, hs6⟩ := SegS.own (S := fun _ => True) HO6.out (fun _ _ => trivial)
              have HSR := Lib.hid (src_in hs6.seg hn6)
              clear hrp hcl hL6 hgood hce hpm hs6
              go_wp2_with (at_builtin; refine wpList_append_long rfl (.tmp 68) (.tmp 69) rfl W3.heap.size HBL6.out.size _ L.length _ rfl HOL6.out A6 c6 L6 rfl HSR.out (by omega) ?_; intro v7 w7 hown7 hg7; have HO7 := Lib.hid (show w7.ownsRow W3.heap.size 54 19 v7 (L ++ L6).length ((L ++ L6).flatMap ncs) by rw [List.flatMap_append, List.length_append]; exact hown7); have HB7 := Lib.hid (below_grown (Nat.le_refl _) HBL6.out hg7 fun q hq => (HOL6.out.lt q hq).1); clear hown7 hg7)
              go_roundw
              case rel => exact ⟨i + 1, L ++ L6, by omega, by go_num, HO7.out, HNX.out, by rw [List.length_append]; omega, HB7.out⟩
              case measure => simp [intOf]; omega
            · have q6 : (E6 != 0) = true := by simp [hE6]
              go_wp2_with fail
              go_returns
              exact SetP.no hE6 (andThen HB3.out HBL6.out)
          · obtain rfl : i = m := by omega
            have hrw := HRW.out
            rw [List.take_of_length_le (by rw [List.length_map, HMM.out]; exact Nat.le_refl _)] at hrw
            have HRW2 := Lib.hid hrw
            obtain ⟨A8, c8, rfl, hc8, _, _, hs8⟩ := SegS.own (S := fun _ => True) HOL.out (fun _ _ => trivial)
            have HCK := Lib.hid (check_any A8 L c8 wr (by omega) hs8.seg)
            clear hrw hs8
            generalize hcl : chk L = E8 at HCK
            have HCL := Lib.hid hcl
            clear hcl
            by_cases hE8 : E8 = 0
            · have q8 : (E8 != 0) = false := by simp [hE8]
              go_wp2_with (go_at_call 28; refine HCK.out.mono ?_; rintro e w8 ⟨rfl, hb8⟩)
              go_returns
              exact ⟨_, L, 0, rfl, own_base (own_below HOL.out hb8) HB3.out.size, andThen HB3.out (andThen HB.out hb8), fun h0 => absurd rfl h0, fun _ => ⟨rfl, n, HOK.out, HCL.out.trans hE8, HRW2.out, f, xs, HPA.out, by rw [HPP.out]⟩⟩
            · have q8 : (E8 != 0) = true := by simp [hE8]
              go_wp2_with (go_at_call 28; refine HCK.out.mono ?_; rintro e w8 ⟨rfl, hb8⟩)
              go_returns
              exact SetP.no hE8 (andThen HB3.out (andThen HB.out hb8))
      · have q3 : (PE != 0) = true := by simp [hPE]
        go_wp2_with (go_at_call 23; refine HCAL.out.mono ?_; rintro e w3 ⟨v3, rfl, _, hb3⟩)
        go_returns
        exact SetP.no hPE (andThen HB2.out hb3)
    · have q2 : (R.2.2.2.2 != 0) = true := by simp [hRE]
      obtain ⟨RL, RO, rb, ro, RE⟩ := R
      go_wp2_with (go_at_call 65; refine HJH.out.mono ?_; rintro e w2 ⟨v, rfl, ho, hb2⟩)
      go_returns
      exact SetP.no hRE (andThen HB1.out hb2)
  · have q1 : (E0 != 0) = true := by simp [hE]
    go_enter Try.func33, Try.ntmps33
    go_wp2_with (go_at_call 35; refine HM.out.mono ?_; rintro e w1 ⟨v, rfl, hb1, _⟩)
    go_returns
    exact SetP.no hE hb1
end
end Go.Proofs.Ytoboecenlangmaa.Al
end
section
namespace Go.Proofs.Ytoboecenlangmaa.Al
open Go.ChangeShapes Go.WideShapes Go.ChangeAt Go.RowKit
open Me Np No
open Gl (G Row)
set_option linter.unusedVariables false
set_option linter.unusedSimpArgs false

theorem seg_two {w : World} {l : List Int} {A : Option Addr} (h : Seg w w.heap.size A (l.map intV)) : Seg w w.heap.size A (l.map (Value.int .i64)) := h
set_option maxHeartbeats 4000000 in
set_option maxRecDepth 100000 in
theorem knows21 (w : World) : Calls Try.prog 14 #[] w fun e w' => e = .returned (.bool true) ∧ Below w.heap.size w w' := by
  go_enter Try.func14, Try.ntmps14
  go_wp2_with fail
  obtain ⟨W0, hW0⟩ : ∃ W, W = w.alloc (.cells #[.int .i64 0, .int .i64 0, .int .i64 0, .int .i64 0, .int .i64 0, .int .i64 65536, .int .i64 0, .int .i64 0, .int .i64 0, .int .i64 0, .int .i64 0, .int .i64 0, .int .i64 0, .int .i64 0, .int .i64 0] 40) := ⟨_, rfl⟩
  have hb0 : Below w.heap.size w W0 := by rw [hW0]; exact andAlloc (Below.refl _ _) _
  have hs0 : Blk W0 w.heap.size 40 #[.int .i64 0, .int .i64 0, .int .i64 0, .int .i64 0, .int .i64 0, .int .i64 65536, .int .i64 0, .int .i64 0, .int .i64 0, .int .i64 0, .int .i64 0, .int .i64 0, .int .i64 0, .int .i64 0, .int .i64 0] := by rw [hW0]; exact Blk.new _ _ _
  rw [← hW0]
  clear hW0
  refine (kern5 _).mono ?_
  rintro e w1 ⟨k1, rfl, h1, b1⟩
  go_wp2_with fail
  refine (kern3 _).mono ?_
  rintro e w2 ⟨k2, rfl, h2, b2⟩
  go_wp2_with fail
  obtain ⟨W3, hW3⟩ : ∃ W, W = w2.alloc (.cells #[.slice (some ⟨k1, 0, none⟩) 1 1, .int .i64 1, .slice (some ⟨k2, 0, none⟩) 1 1, .int .i64 1] 38) := ⟨_, rfl⟩
  have b3 : Below w2.heap.size w2 W3 := by rw [hW3]; exact andAlloc (Below.refl _ _) _
  have s3 : Blk W3 w2.heap.size 38 #[.slice (some ⟨k1, 0, none⟩) 1 1, .int .i64 1, .slice (some ⟨k2, 0, none⟩) 1 1, .int .i64 1] := by rw [hW3]; exact Blk.new _ _ _
  rw [← hW3]
  clear hW3
  refine (kern2 _).mono ?_
  rintro e w4 ⟨k3, rfl, h3, b4⟩
  go_wp2_with fail
  refine (kern7 _).mono ?_
  rintro e w5 ⟨k4, rfl, h4, b5⟩
  go_wp2_with fail
  obtain ⟨W6, hW6⟩ : ∃ W, W = w5.alloc (.cells #[.slice (some ⟨k3, 0, none⟩) 1 1, .int .i64 1, .slice (some ⟨k4, 0, none⟩) 1 1, .int .i64 1] 38) := ⟨_, rfl⟩
  have b6 : Below w5.heap.size w5 W6 := by rw [hW6]; exact andAlloc (Below.refl _ _) _
  have s6 : Blk W6 w5.heap.size 38 #[.slice (some ⟨k3, 0, none⟩) 1 1, .int .i64 1, .slice (some ⟨k4, 0, none⟩) 1 1, .int .i64 1] := by rw [hW6]; exact Blk.new _ _ _
  have z6 : w5.heap.size + 1 = W6.heap.size := by rw [hW6]; simp
  rw [← hW6, z6]
  clear hW6 z6
  obtain ⟨W7, hW7⟩ : ∃ W, W = W6.alloc (.cells #[.slice (some ⟨w2.heap.size, 0, none⟩) 2 2, .slice none 0 0, .slice (some ⟨w5.heap.size, 0, none⟩) 2 2, .slice none 0 0] 36) := ⟨_, rfl⟩
  have b7 : Below W6.heap.size W6 W7 := by rw [hW7]; exact andAlloc (Below.refl _ _) _
  have s7 : Blk W7 W6.heap.size 36 #[.slice (some ⟨w2.heap.size, 0, none⟩) 2 2, .slice none 0 0, .slice (some ⟨w5.heap.size, 0, none⟩) 2 2, .slice none 0 0] := by rw [hW7]; exact Blk.new _ _ _
  rw [← hW7]
  clear hW7
  have c57 := andThen b6 b7
  have c47 := andThen b5 c57
  have c37 := andThen b4 c47
  have c27 := andThen b3 c37
  have c17 := andThen b2 c27
  have c07 := andThen b1 c17
  have hR1 : (kRow w2.heap.size k1 k2 327680 196608).Ok W7 (fun _ => True) := kRow_ok (s3.below c37 s3.lt) (h1.keep (Kp.below _ c17)) (h2.keep (Kp.below _ c27))
  have hR2 : (kRow w5.heap.size k3 k4 131072 458752).Ok W7 (fun _ => True) := kRow_ok (s6.below b7 s6.lt) (h3.keep (Kp.below _ c47)) (h4.keep (Kp.below _ c57))
  have hRR : RsOk W7 (fun _ => True) (some ⟨W6.heap.size, 0, none⟩) 2 [kRow w2.heap.size k1 k2 327680 196608, kRow w5.heap.size k3 k4 131072 458752] :=
    ⟨by simp, by simp, .inr ⟨W6.heap.size, 0, rfl, s7.lt, trivial, fun j u hu => by rw [Nat.zero_add, s7.cell j]; simpa [kRow, Rw.vals] using hu⟩, fun r hr => by
      rcases List.mem_cons.1 hr with rfl | hr
      · exact hR1
      · obtain rfl := List.mem_singleton.1 hr
        exact hR2⟩
  have s0' := hs0.below c07 hs0.lt
  have hSK : Row W7 (some ⟨w.heap.size, 0, none⟩) kSk := .inr ⟨w.heap.size, 0, rfl, s0'.lt, fun j u hu => by rw [Nat.zero_add, s0'.cell j]; simpa [kSk, gz, G.vals] using hu⟩
  have hw := widths_al (some ⟨w.heap.size, 0, none⟩) kSk 3 (some ⟨W6.heap.size, 0, none⟩) [kRow w2.heap.size k1 k2 327680 196608, kRow w5.heap.size k3 k4 131072 458752] 2 W7 hSK hRR (by decide)
  obtain ⟨q1, q2, q3⟩ := k_data w w2.heap.size k1 k2 w5.heap.size k3 k4
  rw [q1] at hw
  generalize mdC kSk ([kRow w2.heap.size k1 k2 327680 196608, kRow w5.heap.size k3 k4 131072 458752].map Rw.d) = C at hw q2 q3
  have HW := Lib.hid (show Calls Try.prog 12 #[.slice (some ⟨w.heap.size, 0, none⟩) 3 3, .slice (some ⟨W6.heap.size, 0, none⟩) 2 2] W7 (WdOut 0 C W7) from hw)
  have HLW := Lib.hid (andThen hb0 c07)
  have HQ := Lib.hid (And.intro q2 q3)
  clear hw q1 q2 q3 hSK s0' hRR hR1 hR2 c57 c47 c37 c27 c17 c07 h1 h2 h3 h4 s3 s6 s7 hs0 b1 b2 b3 b4 b5 b6 b7 hb0
  refine HW.out.mono ?_
  rintro e w8 ⟨A1, n1, c1, A2, n2, c2, rfl, hb8, hcase⟩
  rcases hcase with ⟨_, o1, hn1, o2, hn2⟩ | ⟨h, _⟩
  case inr => exact absurd rfl h
  rw [HQ.out.1] at o1 hn1
  rw [HQ.out.2] at o2 hn2
  simp only [List.length_cons, List.length_nil, Nat.zero_add, Nat.reduceAdd] at hn1 hn2
  subst hn1 hn2
  obtain ⟨g2, c2', e2, hc2⟩ := own_some o2 (by decide)
  injection e2 with e2 _ e3
  subst e2 e3
  have d0 : w8.cell? ⟨g2, 0, none⟩ = some (.bool false) := o2.cellAt 0 (by decide)
  have d1 : w8.cell? ⟨g2, 1, none⟩ = some (.bool false) := o2.cellAt 1 (by decide)
  have dl := (o2.lt g2 rfl).2
  obtain ⟨A1', c1', e4, _, _, _, hs1⟩ := SegS.own (S := fun _ => True) o1 (fun _ _ => trivial)
  injection e4 with e4 _ e5
  subst e4 e5
  have hb9 := andAlloc (Below.refl w8.heap.size w8) (.cells #[.int .i64 327680, .int .i64 458752] 3)
  have HSI := Lib.hid (Si.same_ints A1 (some ⟨w8.heap.size, 0, none⟩) [327680, 458752] [327680, 458752] c1 2 (w8.alloc (.cells #[.int .i64 327680, .int .i64 458752] 3)) (by decide) (by decide) (Seg.belowW hs1.seg hb9) (.inr ⟨w8.heap.size, 0, rfl, by simp, fun j u hu => by rw [Nat.zero_add, (Blk.new w8 _ _).cell j]; simpa using hu⟩))
  have HB8 := Lib.hid (andThen HLW.out hb8)
  clear o1 o2 hs1 hb8 hb9 HW
  go_wp2_with (first | (go_at_call 13; refine (num21 _ _).mono ?_; rintro e wz ⟨rfl, rfl⟩) | (refine HSI.out.mono ?_; rintro e wz ⟨rfl, hbz⟩; have y0 := (hbz.cell (p := ⟨g2, 0, none⟩) (by simp; omega)).trans ((Below.cell (andAlloc (Below.refl w8.heap.size w8) (.cells #[.int .i64 327680, .int .i64 458752] 3)) (p := ⟨g2, 0, none⟩) dl).trans d0); have y1 := (hbz.cell (p := ⟨g2, 1, none⟩) (by simp; omega)).trans ((Below.cell (andAlloc (Below.refl w8.heap.size w8) (.cells #[.int .i64 327680, .int .i64 458752] 3)) (p := ⟨g2, 1, none⟩) dl).trans d1)))
  go_ret
  exact ⟨rfl, andThen (andAlloc HB8.out _) hbz⟩
end Go.Proofs.Ytoboecenlangmaa.Al
end
section
namespace Go.Proofs.Ytoboecenlangmaa.Al
open Go.ChangeShapes Go.WideShapes Go.ChangeAt Go.RowKit
open Me Np No
set_option linter.unusedVariables false
set_option linter.unusedSimpArgs false

structure GI (w : World) (rs : List Rw) (i : Nat) (v : Value) (done : List Rw) (wr : World) : Prop where
  own : wr.ownsRow w.heap.size 36 2 v i (done.flatMap Rw.vals)
  dat : done.map Rw.d = (rs.take i).map Rw.d
  ok : ∀ r ∈ done, r.Ok wr (fun b => w.heap.size ≤ b ∧ v.ownBlock ≠ some b)
  low : Below w.heap.size w wr
structure GC (W : World) (gx : Nat) (r : Rw) (E : Option Addr) (ke : Nat) (k : Nat) (v : Value) (done : List Cl) (wr : World) : Prop where
  blk : Blk wr gx 36 #[v, .slice E r.ex.length ke]
  own : wr.ownsRow (gx + 1) 38 2 v k (done.flatMap Cl.vals)
  dat : done.map Cl.d = (r.cs.take k).map Cl.d
  ok : ∀ x ∈ done, LsOk wr (fun b => gx < b ∧ v.ownBlock ≠ some b) x.A x.c x.l
  low : Below W.heap.size W wr
  ge : W.heap.size ≤ gx
  ext : LsOk wr (fun b => W.heap.size ≤ b ∧ b < gx) E ke r.ex

theorem take_map {α β γ : Type} {f : α → γ} {g : β → γ} {l : List α} {k : Nat} {x : α} {dn : List β} {y : β} (h : dn.map g = (l.take k).map f) (hx : l[k]? = some x) (hy : g y = f x) : (dn ++ [y]).map g = (l.take (k + 1)).map f := by
  rw [List.map_append, h, List.take_add_one, hx, List.map_append]
  simp [hy]
theorem GC.next {W0 wr W7 W8 : World} {gx : Nat} {r : Rw} {E : Option Addr} {ke k : Nat} {v : Value} {dn : List Cl} {x : Cl} {A7 A8 : Option Addr} {c7 c8 : Nat} (h : GC W0 gx r E ke k v dn wr) (hx : r.cs[k]? = some x) (hb7 : Below wr.heap.size wr W7)
    (h7 : LsOk W7 (fun b => wr.heap.size ≤ b) A7 c7 x.l) (hown : W8.ownsRow (gx + 1) 38 2 (.slice A8 (k + 1) c8) (k + 1) (dn.flatMap Cl.vals ++ [.slice A7 x.l.length c7, .int .i64 x.sp]))
    (hg : (W7.alloc (.cells #[.slice A7 x.l.length c7, .int .i64 x.sp] 38)).grownBy W8 v.ownBlock) (hv : (Value.slice A8 (k + 1) c8).ownBlock = v.ownBlock ∨ ∃ q, (Value.slice A8 (k + 1) c8).ownBlock = some q ∧ (W7.alloc (.cells #[.slice A7 x.l.length c7, .int .i64 x.sp] 38)).heap.size ≤ q) :
    GC W0 gx r E ke (k + 1) (.slice A8 (k + 1) c8) (dn ++ [⟨A7, c7, x.l, x.sp⟩]) (W8.setCell ⟨gx, 0, none⟩ (.slice A8 (k + 1) c8)) := by
  have hgl := h.blk.lt
  have hs7 := hb7.size
  have hlow8 : Below W0.heap.size W0 W8 := below_grown (Nat.le_refl _) (andAlloc (andThen h.low hb7) _) hg (fun q hq => by have := (h.own.lt q hq).1; have := h.ge; omega)
  have hne : some gx ≠ v.ownBlock := fun e => by have := (h.own.lt gx e.symm).1; omega
  have hvl : ∀ q, v.ownBlock = some q → gx < q ∧ q < wr.heap.size := fun q hq => by have := h.own.lt q hq; omega
  have hv8 : ∀ b, (Value.slice A8 (k + 1) c8).ownBlock = some b → v.ownBlock = some b ∨ W7.heap.size < b := fun b hb => by
    rcases hv with hv | ⟨q, hv, hq⟩
    · exact .inl (hv ▸ hb)
    · rw [hv] at hb
      injection hb with hb
      simp at hq
      exact .inr (by omega)
  refine ⟨?_, (by have := ownsRow_setCell_below hown (a := ⟨gx, 0, none⟩) (Nat.lt_succ_self _) (.slice A8 (k + 1) c8); simpa [List.flatMap_append, Cl.vals] using this), take_map h.dat hx rfl, ?_, hlow8.setCell h.ge _, h.ge, ?_⟩
  · have h1 : Blk W8 gx 36 #[v, .slice E r.ex.length ke] := (hg.block gx (by simp; omega) hne).trans ((Blk.below h.blk hb7 hgl).alloc _)
    have h2 := h1.set 0 (.slice A8 (k + 1) c8)
    simpa using h2
  · intro y hy
    rcases List.mem_append.1 hy with hy | hy
    · have h1 := (h.ok y hy).mono (S' := fun b => (gx < b ∧ v.ownBlock ≠ some b) ∧ b < wr.heap.size) fun b hb hs => ⟨hs, hb⟩
      have k1 : Kp (fun b => (gx < b ∧ v.ownBlock ≠ some b) ∧ b < wr.heap.size) wr (W8.setCell ⟨gx, 0, none⟩ (.slice A8 (k + 1) c8)) :=
        (((Kp.below _ hb7).trans (Kp.alloc _ _ _)).trans (Kp.grown hg fun b _ hs e => hs.1.2 e.symm)).trans (Kp.set fun b _ hs => by have := hs.1.1; simp; omega)
      refine (h1.keep k1).mono fun b _ hs => ⟨hs.1.1, fun e => ?_⟩
      rcases hv8 b e with h2 | h2
      · exact hs.1.2 h2
      · have := hs.2; omega
    · obtain rfl := List.mem_singleton.1 hy
      have h1 := h7.mono (S' := fun b => wr.heap.size ≤ b ∧ b < W7.heap.size) fun b hb hs => ⟨hs, hb⟩
      have k1 : Kp (fun b => wr.heap.size ≤ b ∧ b < W7.heap.size) W7 (W8.setCell ⟨gx, 0, none⟩ (.slice A8 (k + 1) c8)) :=
        ((Kp.alloc _ _ _).trans (Kp.grown hg fun b _ hs e => by have := hvl b e.symm; omega)).trans (Kp.set fun b _ hs => by simp; omega)
      refine (h1.keep k1).mono fun b _ hs => ⟨by omega, fun e => ?_⟩
      rcases hv8 b e with h2 | h2
      · have := hvl b h2; omega
      · omega
  · have k1 : Kp (fun b => W0.heap.size ≤ b ∧ b < gx) wr (W8.setCell ⟨gx, 0, none⟩ (.slice A8 (k + 1) c8)) :=
      (((Kp.below _ hb7).trans (Kp.alloc _ _ _)).trans (Kp.grown hg fun b _ hs e => by have := hvl b e.symm; omega)).trans (Kp.set fun b _ hs => by simp; omega)
    exact h.ext.keep k1
theorem GC.row {W0 wr : World} {gx : Nat} {r : Rw} {E : Option Addr} {ke : Nat} {A : Option Addr} {c : Nat} {dn : List Cl} (h : GC W0 gx r E ke r.cs.length (.slice A r.cs.length c) dn wr) (hl : r.cs.length ≤ 4398046511103) :
    dn.length = r.cs.length ∧ (⟨A, c, dn, E, ke, r.ex⟩ : Rw).Ok wr (fun b => W0.heap.size ≤ b) ∧ (⟨A, c, dn, E, ke, r.ex⟩ : Rw).d = r.d := by
  have hd := h.dat
  rw [List.take_length] at hd
  have hn : dn.length = r.cs.length := by have := congrArg List.length hd; simpa using this
  have hge := h.ge
  obtain ⟨A1, c1, e1, h1, _, _, h4⟩ := SegS.own (S := fun b => W0.heap.size ≤ b) h.own (fun b hb => by have := (h.own.lt b hb).1; omega)
  injection e1 with e1 _ e2
  subst e1 e2
  exact ⟨hn, ⟨by rw [hn]; exact h1, by rw [hn]; exact hl, h4, fun x hx => (h.ok x hx).mono fun b _ hs => by have := hs.1; omega, h.ext.mono fun b _ hs => hs.1⟩, by show (dn.map Cl.d, r.ex) = _; rw [hd]; rfl⟩
theorem GI.next {w W0 wr W9 : World} {rs : List Rw} {i : Nat} {v v' : Value} {done : List Rw} {r R : Rw} (h : GI w rs i v done W0) (hr : rs[i]? = some r) (hb : Below W0.heap.size W0 wr) (hR : R.Ok wr (fun b => W0.heap.size ≤ b)) (hd : R.d = r.d)
    (hown : W9.ownsRow w.heap.size 36 2 v' (i + 1) (done.flatMap Rw.vals ++ R.vals)) (hg : (wr.alloc (.cells R.vals.toArray 36)).grownBy W9 v.ownBlock) (hv : v'.ownBlock = v.ownBlock ∨ ∃ q, v'.ownBlock = some q ∧ (wr.alloc (.cells R.vals.toArray 36)).heap.size ≤ q) :
    GI w rs (i + 1) v' (done ++ [R]) W9 := by
  have hs := hb.size
  have hvl : ∀ q, v.ownBlock = some q → w.heap.size ≤ q ∧ q < W0.heap.size := fun q hq => h.own.lt q hq
  have hv8 : ∀ b, v'.ownBlock = some b → v.ownBlock = some b ∨ wr.heap.size < b := fun b hb => by
    rcases hv with hv | ⟨q, hv, hq⟩
    · exact .inl (hv ▸ hb)
    · rw [hv] at hb
      injection hb with hb
      simp at hq
      exact .inr (by omega)
  have hlw := h.low.size
  refine ⟨by simpa [List.flatMap_append] using hown, take_map h.dat hr hd, ?_, below_grown (Nat.le_refl _) (andAlloc (andThen h.low hb) _) hg fun q hq => (hvl q hq).1⟩
  intro y hy
  rcases List.mem_append.1 hy with hy | hy
  · have h1 := (h.ok y hy).mono (S' := fun b => (w.heap.size ≤ b ∧ v.ownBlock ≠ some b) ∧ b < W0.heap.size) fun b hb hs => ⟨hs, hb⟩
    have k1 : Kp (fun b => (w.heap.size ≤ b ∧ v.ownBlock ≠ some b) ∧ b < W0.heap.size) W0 W9 :=
      ((Kp.below _ hb).trans (Kp.alloc _ _ _)).trans (Kp.grown hg fun b _ hs e => hs.1.2 e.symm)
    refine (h1.keep k1).mono fun b _ hs => ⟨hs.1.1, fun e => ?_⟩
    rcases hv8 b e with h2 | h2
    · exact hs.1.2 h2
    · have := hs.2; omega
  · obtain rfl := List.mem_singleton.1 hy
    have h1 := hR.mono (S' := fun b => W0.heap.size ≤ b ∧ b < wr.heap.size) fun b hb hs => ⟨hs, hb⟩
    have k1 : Kp (fun b => W0.heap.size ≤ b ∧ b < wr.heap.size) wr W9 := (Kp.alloc _ _ _).trans (Kp.grown hg fun b _ hs e => by have := hvl b e.symm; omega)
    refine (h1.keep k1).mono fun b _ hs => ⟨by omega, fun e => ?_⟩
    rcases hv8 b e with h2 | h2
    · have := hvl b h2; omega
    · omega

set_option maxHeartbeats 4000000 in
set_option maxRecDepth 100000 in
theorem given_any (A : Option Addr) (rs : List Rw) (c : Nat) (w : World) (h : RsOk w (fun _ => True) A c rs) :
    Calls Try.prog 11 #[.slice A rs.length c] w fun e w' => ∃ v done, e = .returned v ∧ GI w rs rs.length v done w' := by
  have HR := Lib.hid h
  have hcap := h.cap
  have hlen := h.len
  clear h
  go_enter Try.func11, Try.ntmps11
  go_wp2_with fail
  go_loopw [3, 4] (fun v3 v4 wr => ∃ (i : Nat) (done : List Rw), i ≤ rs.length ∧ v4 = .int .i64 (i : Int) ∧ GI w rs i v3 done wr) (fun _ v4 _ => rs.length - (intOf v4).toNat)
  case atStart => exact ⟨0, [], by omega, rfl, ⟨World.ownsRow_nil _ _ _ _, rfl, by simp, Below.refl _ _⟩⟩
  case round =>
    obtain ⟨i, done, hi, rfl, hI⟩ := hrel
    have HI := Lib.hid hI
    by_cases hlt : i < rs.length
    · obtain ⟨r, hr⟩ := get_some hlt
      have hw := HR.out.below HI.out.low
      obtain ⟨b, off, rfl, hb, hc0, hc1⟩ := hw.row hr
      have hro := hw.get hr
      have HRO := Lib.hid hro
      have hxl := hro.extra.len
      clear hI hw hro
      have HA0 := Lib.hid (by simpa using World.ownsRow_made wr #[] 0 (e := 54) (size := 19) (Nat.le_refl _) (by simp [maxLen]) (by simp) : (wr.alloc (.cells #[] 54)).ownsRow wr.heap.size 54 19 (.slice (some ⟨wr.heap.size, 0, none⟩) 0 0) 0 [])
      have HSX := Lib.hid (fun (w' : World) (hb : Below wr.heap.size wr w') => (src_in HRO.out.extra.seg.seg HRO.out.extra.nil).below hb)
      go_upto_region 6 with (at_builtin; refine wpList_append_long rfl (.tmp 13) (.tmp 18) rfl wr.heap.size (by simp) (.slice (some ⟨wr.heap.size, 0, none⟩) 0 0) 0 [] rfl HA0.out r.E r.k r.ex rfl (HSX.out _ (andAlloc (Below.refl _ _) _)) (by omega) ?_; intro v5 w5 hown5 hg5; obtain ⟨E5, k5, rfl, hk5, _, hz5, hs5⟩ := SegS.own (S := fun b => wr.heap.size ≤ b) hown5 (fun b hb => (hown5.lt b hb).1))
      have hlow5 : Below wr.heap.size wr w5 := below_grown (Nat.le_refl _) (andAlloc (Below.refl _ _) _) hg5 (fun g hg => by
        have hg' : some wr.heap.size = some g := hg
        injection hg' with hg'
        omega)
      rw [Nat.zero_add] at hk5
      rw [List.nil_append] at hs5
      have hlow6 : Below wr.heap.size wr (w5.alloc (.cells #[.slice none 0 0, .slice E5 r.ex.length k5] 36)) := andAlloc hlow5 _
      have hext : LsOk (w5.alloc (.cells #[.slice none 0 0, .slice E5 r.ex.length k5] 36)) (fun b => wr.heap.size ≤ b ∧ b < w5.heap.size) E5 k5 r.ex :=
        ⟨hk5, hxl, hz5, (hs5.mono (S' := fun b => wr.heap.size ≤ b ∧ b < w5.heap.size) fun b h1 h2 => ⟨h2, h1⟩).keep (Kp.alloc _ _ _)⟩
      have hG0 : GC wr w5.heap.size r E5 k5 0 (.slice none 0 0) [] (w5.alloc (.cells #[.slice none 0 0, .slice E5 r.ex.length k5] 36)) :=
        ⟨Blk.new _ _ _, World.ownsRow_nil _ _ _ _, rfl, by simp, hlow6, hlow5.size, hext⟩
      have HG0 := Lib.hid hG0
      clear hG0 hext hlow6 hs5 hown5 hg5 HA0 HSX hc1
      generalize w5.alloc (.cells #[.slice none 0 0, .slice E5 r.ex.length k5] 36) = W6 at HG0 ⊢
      have HC0 := Lib.hid hc0
      obtain ⟨W0, rfl⟩ : ∃ W, W = wr := ⟨_, rfl⟩
      clear hc0
      go_wp2_with fail
      go_loopw [6] (fun v6 wr => ∃ (k : Nat) (v : Value) (dn : List Cl), k ≤ r.cs.length ∧ v6 = .int .i64 (k : Int) ∧ GC W0 w5.heap.size r E5 k5 k v dn wr) (fun v6 _ => r.cs.length - (intOf v6).toNat)
      case atStart => exact ⟨0, _, [], by omega, rfl, HG0.out⟩
      case round =>
        obtain ⟨k, v, dn, hk, rfl, hC⟩ := hrel
        have HC := Lib.hid hC
        have hc0 : wr.cell? ⟨b, off + i * 2, none⟩ = some (.slice r.A r.cs.length r.c) := (hC.low.cell (p := ⟨b, off + i * 2, none⟩) hb).trans HC0.out
        by_cases hlt2 : k < r.cs.length
        · obtain ⟨x, hx⟩ := get_some hlt2
          obtain ⟨b2, off2, hA2, hb2, hx0, hx1⟩ := HRO.out.cell hx
          rw [hA2] at hc0
          have hgxv : wr.cell? ⟨w5.heap.size, 0, none⟩ = some v := (hC.blk.cell 0).trans rfl
          have hgf := hC.blk.free 0
          have hgl := hC.blk.lt
          have HXO := Lib.hid ((HRO.out.get hx).keep (Kp.below _ hC.low))
          have hxl2 := HXO.out.len
          have HCS := Lib.hid (fun (w' : World) (hz : Below W0.heap.size W0 w') => And.intro ((hz.cell (p := ⟨b, off + i * 2, none⟩) hb).trans (HC0.out.trans (by rw [hA2]))) (And.intro ((hz.cell (p := ⟨b2, off2 + k * 2, none⟩) hb2).trans hx0) (And.intro ((hz.cell (p := ⟨b2, off2 + k * 2 + 1, none⟩) hb2).trans hx1) hz)))
          have hLow := hC.low
          have HXK := Lib.hid hx
          have HA0 := Lib.hid (by simpa using World.ownsRow_made wr #[] 0 (e := 54) (size := 19) (Nat.le_refl _) (by simp [maxLen]) (by simp) : (wr.alloc (.cells #[] 54)).ownsRow wr.heap.size 54 19 (.slice (some ⟨wr.heap.size, 0, none⟩) 0 0) 0 [])
          have HSX := Lib.hid (fun (w' : World) (hb : Below wr.heap.size wr w') => (src_in HXO.out.seg.seg HXO.out.nil).below hb)
          have HOV := Lib.hid (fun (w' : World) (hb : Below wr.heap.size wr w') => own_below HC.out.own hb)
          have HGX := Lib.hid (fun (w' : World) (hz : Below wr.heap.size wr w') => And.intro ((hz.cell (p := ⟨w5.heap.size, 0, none⟩) hgl).trans hgxv) ((hz.frozen (p := ⟨w5.heap.size, 0, none⟩) hgl).trans hgf))
          have hr32 : (k + 1) * 32 ≤ 140737488355328 := by have := HRO.out.len; omega
          have HLW := Lib.hid (show Below wr.heap.size wr (wr.alloc (.cells #[] 54)).drew from below_drewN (andAlloc (Below.refl _ _) _) 1)
          have hlt3 : (k : Int) < (r.cs.length : Int) := by omega
          have hHC := (HCS.out _ hLow).1
          have hHC1 := (HCS.out _ hLow).2.1
          have hHC2 := (HCS.out _ hLow).2.2.1
          clear hC hr hx hx0 hx1 hc0
          generalize w5.heap.size = gx at *
          go_upto_region 9 with fail
          refine wp_region_held_drew (S := fun w' => w'.cell? ⟨b, off + i * 2, none⟩ = some (.slice (some ⟨b2, off2, none⟩) r.cs.length r.c) ∧ w'.cell? ⟨b2, off2 + k * 2, none⟩ = some (.slice x.A x.l.length x.c) ∧ w'.cell? ⟨b2, off2 + k * 2 + 1, none⟩ = some (.int .i64 x.sp) ∧ Below W0.heap.size W0 w') (by kernel_rfl) (HCS.out _ (below_drewN hLow 1)) (fun hH => ?_)
          refine take_lit (i := 0) (v := (.pointer (some ⟨gx, 0, none⟩))) (by kernel_rfl) (by kernel_rfl) (by kernel_rfl) (by kernel_rfl) (fun _ _ _ _ h => h) hH (fun oi hoi => ?_)
          simp only [List.getElem?_toArray, List.getElem?_cons_succ, List.getElem?_cons_zero, Option.some.injEq] at hoi
          subst hoi
          refine ⟨.inl ⟨by rfl, fun w hSw => by (try dsimp only at hSw); first | (go_simp; done) | (go_simp; with_reducible rfl)⟩, ?_⟩
          simp only [Act.put, List.setIfInBounds_toArray, List.set_cons_zero, List.set_cons_succ]
          refine take_lit (i := 3) (v := (.slice (some ⟨b, off, none⟩) rs.length c)) (by kernel_rfl) (by kernel_rfl) (by kernel_rfl) (by kernel_rfl) (fun _ _ _ _ h => h) hH (fun oi hoi => ?_)
          simp only [List.getElem?_toArray, List.getElem?_cons_succ, List.getElem?_cons_zero, Option.some.injEq] at hoi
          subst hoi
          refine ⟨.inl ⟨by rfl, fun w hSw => by (try dsimp only at hSw); first | (go_simp; done) | (go_simp; with_reducible rfl)⟩, ?_⟩
          simp only [Act.put, List.setIfInBounds_toArray, List.set_cons_zero, List.set_cons_succ]
          refine take_lit (i := 4) (v := (.int .i64 (i : Int))) (by kernel_rfl) (by kernel_rfl) (by kernel_rfl) (by kernel_rfl) (fun _ _ _ _ h => h) hH (fun oi hoi => ?_)
          simp only [List.getElem?_toArray, List.getElem?_cons_succ, List.getElem?_cons_zero, Option.some.injEq] at hoi
          subst hoi
          refine ⟨.inl ⟨by rfl, fun w hSw => by (try dsimp only at hSw); first | (go_simp; done) | (go_simp; with_reducible rfl)⟩, ?_⟩
          simp only [Act.put, List.setIfInBounds_toArray, List.set_cons_zero, List.set_cons_succ]
          refine take_lit (i := 5) (v := (.pointer (some ⟨b, off + i * 2, none⟩))) (by kernel_rfl) (by kernel_rfl) (by kernel_rfl) (by kernel_rfl) (fun _ _ _ _ h => h) hH (fun oi hoi => ?_)
          simp only [List.getElem?_toArray, List.getElem?_cons_succ, List.getElem?_cons_zero, Option.some.injEq] at hoi
          subst hoi
          refine ⟨.inl ⟨by rfl, fun w hSw => by (try dsimp only at hSw); first | (go_simp; done) | (go_simp; with_reducible rfl)⟩, ?_⟩
          simp only [Act.put, List.setIfInBounds_toArray, List.set_cons_zero, List.set_cons_succ]
          refine take_lit (i := 6) (v := (.pointer (some ⟨b, off + i * 2, none⟩))) (by kernel_rfl) (by kernel_rfl) (by kernel_rfl) (by kernel_rfl) (fun _ _ _ _ h => h) hH (fun oi hoi => ?_)
          simp only [List.getElem?_toArray, List.getElem?_cons_succ, List.getElem?_cons_zero, Option.some.injEq] at hoi
          subst hoi
          refine ⟨.inl ⟨by rfl, fun w hSw => by (try dsimp only at hSw); first | (go_simp; done) | (go_simp; with_reducible rfl)⟩, ?_⟩
          simp only [Act.put, List.setIfInBounds_toArray, List.set_cons_zero, List.set_cons_succ]
          refine take_lit (i := 7) (v := (.slice (some ⟨b2, off2, none⟩) r.cs.length r.c)) (by kernel_rfl) (by kernel_rfl) (by kernel_rfl) (by kernel_rfl) (fun _ _ _ _ h => h) hH (fun oi hoi => ?_)
          simp only [List.getElem?_toArray, List.getElem?_cons_succ, List.getElem?_cons_zero, Option.some.injEq] at hoi
          subst hoi
          refine ⟨.inl ⟨by rfl, fun w hSw => by (try dsimp only at hSw); first | (go_simp; done) | (go_simp; with_reducible rfl)⟩, ?_⟩
          simp only [Act.put, List.setIfInBounds_toArray, List.set_cons_zero, List.set_cons_succ]
          refine take_lit (i := 8) (v := (.int .i64 (k : Int))) (by kernel_rfl) (by kernel_rfl) (by kernel_rfl) (by kernel_rfl) (fun _ _ _ _ h => h) hH (fun oi hoi => ?_)
          simp only [List.getElem?_toArray, List.getElem?_cons_succ, List.getElem?_cons_zero, Option.some.injEq] at hoi
          subst hoi
          refine ⟨.inl ⟨by rfl, fun w hSw => by (try dsimp only at hSw); first | (go_simp; done) | (go_simp; with_reducible rfl)⟩, ?_⟩
          simp only [Act.put, List.setIfInBounds_toArray, List.set_cons_zero, List.set_cons_succ]
          refine take_lit (i := 9) (v := (.pointer (some ⟨b2, off2 + k * 2, none⟩))) (by kernel_rfl) (by kernel_rfl) (by kernel_rfl) (by kernel_rfl) (fun _ _ _ _ h => h) hH (fun oi hoi => ?_)
          simp only [List.getElem?_toArray, List.getElem?_cons_succ, List.getElem?_cons_zero, Option.some.injEq] at hoi
          subst hoi
          refine ⟨.inl ⟨by rfl, fun w hSw => by (try dsimp only at hSw); first | (go_simp; done) | (go_simp; with_reducible rfl)⟩, ?_⟩
          simp only [Act.put, List.setIfInBounds_toArray, List.set_cons_zero, List.set_cons_succ]
          refine take_lit (i := 10) (v := (.pointer (some ⟨b2, off2 + k * 2, none⟩))) (by kernel_rfl) (by kernel_rfl) (by kernel_rfl) (by kernel_rfl) (fun _ _ _ _ h => h) hH (fun oi hoi => ?_)
          simp only [List.getElem?_toArray, List.getElem?_cons_succ, List.getElem?_cons_zero, Option.some.injEq] at hoi
          subst hoi
          refine ⟨.inl ⟨by rfl, fun w hSw => by (try dsimp only at hSw); first | (go_simp; done) | (go_simp; with_reducible rfl)⟩, ?_⟩
          simp only [Act.put, List.setIfInBounds_toArray, List.set_cons_zero, List.set_cons_succ]
          refine take_lit (i := 11) (v := (.slice x.A x.l.length x.c)) (by kernel_rfl) (by kernel_rfl) (by kernel_rfl) (by kernel_rfl) (fun _ _ _ _ h => h) hH (fun oi hoi => ?_)
          simp only [List.getElem?_toArray, List.getElem?_cons_succ, List.getElem?_cons_zero, Option.some.injEq] at hoi
          subst hoi
          refine ⟨.inl ⟨by rfl, fun w hSw => by (try dsimp only at hSw); first | (go_simp; done) | (go_simp; with_reducible rfl)⟩, ?_⟩
          simp only [Act.put, List.setIfInBounds_toArray, List.set_cons_zero, List.set_cons_succ]
          refine take_lit (i := 13) (v := (.slice (some ⟨b, off, none⟩) rs.length c)) (by kernel_rfl) (by kernel_rfl) (by kernel_rfl) (by kernel_rfl) (fun _ _ _ _ h => h) hH (fun oi hoi => ?_)
          simp only [List.getElem?_toArray, List.getElem?_cons_succ, List.getElem?_cons_zero, Option.some.injEq] at hoi
          subst hoi
          refine ⟨.inl ⟨by rfl, fun w hSw => by (try dsimp only at hSw); first | (go_simp; done) | (go_simp; with_reducible rfl)⟩, ?_⟩
          simp only [Act.put, List.setIfInBounds_toArray, List.set_cons_zero, List.set_cons_succ]
          refine take_lit (i := 14) (v := (.int .i64 (i : Int))) (by kernel_rfl) (by kernel_rfl) (by kernel_rfl) (by kernel_rfl) (fun _ _ _ _ h => h) hH (fun oi hoi => ?_)
          simp only [List.getElem?_toArray, List.getElem?_cons_succ, List.getElem?_cons_zero, Option.some.injEq] at hoi
          subst hoi
          refine ⟨.inl ⟨by rfl, fun w hSw => by (try dsimp only at hSw); first | (go_simp; done) | (go_simp; with_reducible rfl)⟩, ?_⟩
          simp only [Act.put, List.setIfInBounds_toArray, List.set_cons_zero, List.set_cons_succ]
          refine take_lit (i := 15) (v := (.pointer (some ⟨b, off + i * 2, none⟩))) (by kernel_rfl) (by kernel_rfl) (by kernel_rfl) (by kernel_rfl) (fun _ _ _ _ h => h) hH (fun oi hoi => ?_)
          simp only [List.getElem?_toArray, List.getElem?_cons_succ, List.getElem?_cons_zero, Option.some.injEq] at hoi
          subst hoi
          refine ⟨.inl ⟨by rfl, fun w hSw => by (try dsimp only at hSw); first | (go_simp; done) | (go_simp; with_reducible rfl)⟩, ?_⟩
          simp only [Act.put, List.setIfInBounds_toArray, List.set_cons_zero, List.set_cons_succ]
          refine take_lit (i := 16) (v := (.pointer (some ⟨b, off + i * 2, none⟩))) (by kernel_rfl) (by kernel_rfl) (by kernel_rfl) (by kernel_rfl) (fun _ _ _ _ h => h) hH (fun oi hoi => ?_)
          simp only [List.getElem?_toArray, List.getElem?_cons_succ, List.getElem?_cons_zero, Option.some.injEq] at hoi
          subst hoi
          refine ⟨.inl ⟨by rfl, fun w hSw => by (try dsimp only at hSw); first | (go_simp; done) | (go_simp; with_reducible rfl)⟩, ?_⟩
          simp only [Act.put, List.setIfInBounds_toArray, List.set_cons_zero, List.set_cons_succ]
          refine take_lit (i := 17) (v := (.slice (some ⟨b2, off2, none⟩) r.cs.length r.c)) (by kernel_rfl) (by kernel_rfl) (by kernel_rfl) (by kernel_rfl) (fun _ _ _ _ h => h) hH (fun oi hoi => ?_)
          simp only [List.getElem?_toArray, List.getElem?_cons_succ, List.getElem?_cons_zero, Option.some.injEq] at hoi
          subst hoi
          refine ⟨.inl ⟨by rfl, fun w hSw => by (try dsimp only at hSw); first | (go_simp; done) | (go_simp; with_reducible rfl)⟩, ?_⟩
          simp only [Act.put, List.setIfInBounds_toArray, List.set_cons_zero, List.set_cons_succ]
          refine take_lit (i := 18) (v := (.int .i64 (k : Int))) (by kernel_rfl) (by kernel_rfl) (by kernel_rfl) (by kernel_rfl) (fun _ _ _ _ h => h) hH (fun oi hoi => ?_)
          simp only [List.getElem?_toArray, List.getElem?_cons_succ, List.getElem?_cons_zero, Option.some.injEq] at hoi
          subst hoi
          refine ⟨.inl ⟨by rfl, fun w hSw => by (try dsimp only at hSw); first | (go_simp; done) | (go_simp; with_reducible rfl)⟩, ?_⟩
          simp only [Act.put, List.setIfInBounds_toArray, List.set_cons_zero, List.set_cons_succ]
          refine take_lit (i := 19) (v := (.pointer (some ⟨b2, off2 + k * 2, none⟩))) (by kernel_rfl) (by kernel_rfl) (by kernel_rfl) (by kernel_rfl) (fun _ _ _ _ h => h) hH (fun oi hoi => ?_)
          simp only [List.getElem?_toArray, List.getElem?_cons_succ, List.getElem?_cons_zero, Option.some.injEq] at hoi
          subst hoi
          refine ⟨.inl ⟨by rfl, fun w hSw => by (try dsimp only at hSw); first | (go_simp; done) | (go_simp; with_reducible rfl)⟩, ?_⟩
          simp only [Act.put, List.setIfInBounds_toArray, List.set_cons_zero, List.set_cons_succ]
          refine take_lit (i := 20) (v := (.pointer (some ⟨b2, off2 + k * 2 + 1, none⟩))) (by kernel_rfl) (by kernel_rfl) (by kernel_rfl) (by kernel_rfl) (fun _ _ _ _ h => h) hH (fun oi hoi => ?_)
          simp only [List.getElem?_toArray, List.getElem?_cons_succ, List.getElem?_cons_zero, Option.some.injEq] at hoi
          subst hoi
          refine ⟨.inl ⟨by rfl, fun w hSw => by (try dsimp only at hSw); first | (go_simp; done) | (go_simp; with_reducible rfl)⟩, ?_⟩
          simp only [Act.put, List.setIfInBounds_toArray, List.set_cons_zero, List.set_cons_succ]
          refine take_lit (i := 21) (v := (.int .i64 x.sp)) (by kernel_rfl) (by kernel_rfl) (by kernel_rfl) (by kernel_rfl) (fun _ _ _ _ h => h) hH (fun oi hoi => ?_)
          simp only [List.getElem?_toArray, List.getElem?_cons_succ, List.getElem?_cons_zero, Option.some.injEq] at hoi
          subst hoi
          refine ⟨.inl ⟨by rfl, fun w hSw => by (try dsimp only at hSw); first | (go_simp; done) | (go_simp; with_reducible rfl)⟩, ?_⟩
          simp only [Act.put, List.setIfInBounds_toArray, List.set_cons_zero, List.set_cons_succ]
          refine wpAnyH_ready (rs := [1, 2]) (by kernel_rfl) (by simp) (AllReadyH.cons rfl (fun K hK => ?_) (AllReadyH.cons rfl (fun K hK => ?_) (AllReadyH.nil)))
          · skip
            go_simp
            refine hK.out _ _ (HCS.out _ (by first | exact below_drewN hLow 1 | exact below_drewN (andAlloc hLow _) 1 | exact hL7 | exact andAlloc hL7 _ | exact hL8 | exact hL8.setCell hge8 _)) (fun hH1 => ?_)
            try simp only [Act.put, List.setIfInBounds_toArray, List.set_cons_zero, List.set_cons_succ]
            clear hK K
            refine wpAnyH_ready (rs := [2]) (by kernel_rfl) (by simp) (AllReadyH.cons rfl (fun K hK => ?_) (AllReadyH.nil))
            go_simp
            refine hK.out _ _ (HCS.out _ (by first | exact below_drewN hLow 1 | exact below_drewN (andAlloc hLow _) 1 | exact hL7 | exact andAlloc hL7 _ | exact hL8 | exact hL8.setCell hge8 _)) (fun hH2 => ?_)
            try simp only [Act.put, List.setIfInBounds_toArray, List.set_cons_zero, List.set_cons_succ]
            clear hK K
            refine wpAnyH_ready (rs := [12]) (by kernel_rfl) (by simp) (AllReadyH.cons rfl (fun K hK => ?_) (AllReadyH.nil))
            refine step_append_long rfl (.tmp 33) (.tmp 42) rfl wr.heap.size (by simp) (.slice (some ⟨wr.heap.size, 0, none⟩) 0 0) 0 [] rfl HA0.out x.A x.c x.l rfl (HSX.out _ HLW.out) (by omega) ?_
            intro v7 W7 hown7 hg7
            obtain ⟨A7, c7, rfl, hc7, _, hz7, hs7⟩ := SegS.own (S := fun b => wr.heap.size ≤ b) hown7 (fun b hb => (hown7.lt b hb).1)
            rw [Nat.zero_add] at hc7
            rw [List.nil_append] at hs7
            simp only [Nat.zero_add]
            have hB7 := below_grown (Nat.le_refl _) HLW.out hg7 (fun g hg => by have hg' : some wr.heap.size = some g := hg; injection hg' with hg'; omega)
            obtain ⟨z4, z5⟩ := HGX.out _ hB7
            have z6 := hB7.size
            have z7 := Nat.lt_of_lt_of_le hgl z6
            have hL7 := andThen hLow hB7
            have h7 : LsOk W7 (fun b => wr.heap.size ≤ b) A7 c7 x.l := ⟨hc7, hxl2, hz7, hs7⟩
            clear hown7 hg7 hs7
            refine hK.out _ _ (HCS.out _ (by first | exact below_drewN hLow 1 | exact below_drewN (andAlloc hLow _) 1 | exact hL7 | exact andAlloc hL7 _ | exact hL8 | exact hL8.setCell hge8 _)) (fun hH3 => ?_)
            try simp only [Act.put, List.setIfInBounds_toArray, List.set_cons_zero, List.set_cons_succ]
            clear hK K
            refine take_lit (i := 22) (v := (.agg #[.slice A7 x.l.length c7, .int .i64 x.sp])) (by kernel_rfl) (by kernel_rfl) (by kernel_rfl) (by kernel_rfl) (fun _ _ _ _ h => h) hH3 (fun oi hoi => ?_)
            simp only [List.getElem?_toArray, List.getElem?_cons_succ, List.getElem?_cons_zero, Option.some.injEq] at hoi
            subst hoi
            refine ⟨.inl ⟨by rfl, fun w hSw => by (try dsimp only at hSw); first | (go_simp; done) | (go_simp; with_reducible rfl)⟩, ?_⟩
            simp only [Act.put, List.setIfInBounds_toArray, List.set_cons_zero, List.set_cons_succ]
            refine wpAnyH_ready (rs := [23]) (by kernel_rfl) (by simp) (AllReadyH.cons rfl (fun K hK => ?_) (AllReadyH.nil))
            go_simp
            refine hK.out _ _ (HCS.out _ (by first | exact below_drewN hLow 1 | exact below_drewN (andAlloc hLow _) 1 | exact hL7 | exact andAlloc hL7 _ | exact hL8 | exact hL8.setCell hge8 _)) (fun hH4 => ?_)
            try simp only [Act.put, List.setIfInBounds_toArray, List.set_cons_zero, List.set_cons_succ]
            clear hK K
            refine wpAnyH_ready (rs := [24]) (by kernel_rfl) (by simp) (AllReadyH.cons rfl (fun K hK => ?_) (AllReadyH.nil))
            refine step_push rfl (.tmp 32) (.tmp 54) 33 rfl (gx + 1) 38 (.agg #[.slice none 0 0, .int .i64 0]) 2 32 Try.underlying33 info_cell rfl (by decide) (by decide) v k (dn.flatMap Cl.vals) rfl (HOV.out _ (andAlloc hB7 _)) (by simp; omega) ⟨W7.heap.size, 0, none⟩ 1 [.slice A7 x.l.length c7, .int .i64 x.sp] rfl rfl (new_cells (Blk.new _ _ _)) (by simp [Value.oneCell']) hr32 ?_
            intro v8 W8 hown8 hg8 hv8
            obtain ⟨A8, c8, rfl, hc8, _⟩ := SegS.own (S := fun _ => True) hown8 (fun _ _ => trivial)
            have hE8 := HGX.out (W7.alloc (.cells #[.slice A7 x.l.length c7, .int .i64 x.sp] 38)) (andAlloc hB7 _)
            have hne8 : some gx ≠ v.ownBlock := fun e => by have := (HC.out.own.lt gx e.symm).1; omega
            have hk8 := hg8.block gx (by simp; omega) hne8
            have y1 := (cell_block hk8 0).trans hE8.1
            have y2 := (frozen_block hk8 0).trans hE8.2
            have hge8 := HC.out.ge
            have hL8 : Below W0.heap.size W0 W8 := below_grown (Nat.le_refl _) (andAlloc hL7 _) hg8 (fun q hq => by have := (HC.out.own.lt q hq).1; have := HC.out.ge; omega)
            have HNX := Lib.hid (GC.next HC.out HXK.out hB7 h7 hown8 hg8 hv8)
            clear hown8 hg8 hv8 hk8 hE8
            refine hK.out _ _ (HCS.out _ (by first | exact below_drewN hLow 1 | exact below_drewN (andAlloc hLow _) 1 | exact hL7 | exact andAlloc hL7 _ | exact hL8 | exact hL8.setCell hge8 _)) (fun hH5 => ?_)
            try simp only [Act.put, List.setIfInBounds_toArray, List.set_cons_zero, List.set_cons_succ]
            clear hK K
            refine take_lit (i := 25) (v := (.pointer (some ⟨gx, 0, none⟩))) (by kernel_rfl) (by kernel_rfl) (by kernel_rfl) (by kernel_rfl) (fun _ _ _ _ h => h) hH5 (fun oi hoi => ?_)
            simp only [List.getElem?_toArray, List.getElem?_cons_succ, List.getElem?_cons_zero, Option.some.injEq] at hoi
            subst hoi
            refine ⟨.inl ⟨by rfl, fun w hSw => by (try dsimp only at hSw); first | (go_simp; done) | (go_simp; with_reducible rfl)⟩, ?_⟩
            simp only [Act.put, List.setIfInBounds_toArray, List.set_cons_zero, List.set_cons_succ]
            refine wpAnyH_ready (rs := [26]) (by kernel_rfl) (by simp) (AllReadyH.cons rfl (fun K hK => ?_) (AllReadyH.nil))
            go_simp
            refine hK.out _ _ (HCS.out _ (by first | exact below_drewN hLow 1 | exact below_drewN (andAlloc hLow _) 1 | exact hL7 | exact andAlloc hL7 _ | exact hL8 | exact hL8.setCell hge8 _)) (fun hH6 => ?_)
            try simp only [Act.put, List.setIfInBounds_toArray, List.set_cons_zero, List.set_cons_succ]
            clear hK K
            refine wpAnyH_done (by kernel_rfl) ?_ _
            skip
            go_wp2_with fail
            go_roundw
            case rel => exact ⟨k + 1, _, _, by omega, by go_num, HNX.out⟩
            case measure => simp [intOf]; omega
          · skip
            go_simp
            refine hK.out _ _ (HCS.out _ (by first | exact below_drewN hLow 1 | exact below_drewN (andAlloc hLow _) 1 | exact hL7 | exact andAlloc hL7 _ | exact hL8 | exact hL8.setCell hge8 _)) (fun hH1 => ?_)
            try simp only [Act.put, List.setIfInBounds_toArray, List.set_cons_zero, List.set_cons_succ]
            clear hK K
            refine wpAnyH_ready (rs := [1, 12]) (by kernel_rfl) (by simp) (AllReadyH.cons rfl (fun K hK => ?_) (AllReadyH.cons rfl (fun K hK => ?_) (AllReadyH.nil)))
            · skip
              go_simp
              refine hK.out _ _ (HCS.out _ (by first | exact below_drewN hLow 1 | exact below_drewN (andAlloc hLow _) 1 | exact hL7 | exact andAlloc hL7 _ | exact hL8 | exact hL8.setCell hge8 _)) (fun hH7 => ?_)
              try simp only [Act.put, List.setIfInBounds_toArray, List.set_cons_zero, List.set_cons_succ]
              clear hK K
              refine wpAnyH_ready (rs := [12]) (by kernel_rfl) (by simp) (AllReadyH.cons rfl (fun K hK => ?_) (AllReadyH.nil))
              refine step_append_long rfl (.tmp 33) (.tmp 42) rfl wr.heap.size (by simp) (.slice (some ⟨wr.heap.size, 0, none⟩) 0 0) 0 [] rfl HA0.out x.A x.c x.l rfl (HSX.out _ HLW.out) (by omega) ?_
              intro v7 W7 hown7 hg7
              obtain ⟨A7, c7, rfl, hc7, _, hz7, hs7⟩ := SegS.own (S := fun b => wr.heap.size ≤ b) hown7 (fun b hb => (hown7.lt b hb).1)
              rw [Nat.zero_add] at hc7
              rw [List.nil_append] at hs7
              simp only [Nat.zero_add]
              have hB7 := below_grown (Nat.le_refl _) HLW.out hg7 (fun g hg => by have hg' : some wr.heap.size = some g := hg; injection hg' with hg'; omega)
              obtain ⟨z4, z5⟩ := HGX.out _ hB7
              have z6 := hB7.size
              have z7 := Nat.lt_of_lt_of_le hgl z6
              have hL7 := andThen hLow hB7
              have h7 : LsOk W7 (fun b => wr.heap.size ≤ b) A7 c7 x.l := ⟨hc7, hxl2, hz7, hs7⟩
              clear hown7 hg7 hs7
              refine hK.out _ _ (HCS.out _ (by first | exact below_drewN hLow 1 | exact below_drewN (andAlloc hLow _) 1 | exact hL7 | exact andAlloc hL7 _ | exact hL8 | exact hL8.setCell hge8 _)) (fun hH8 => ?_)
              try simp only [Act.put, List.setIfInBounds_toArray, List.set_cons_zero, List.set_cons_succ]
              clear hK K
              refine take_lit (i := 22) (v := (.agg #[.slice A7 x.l.length c7, .int .i64 x.sp])) (by kernel_rfl) (by kernel_rfl) (by kernel_rfl) (by kernel_rfl) (fun _ _ _ _ h => h) hH8 (fun oi hoi => ?_)
              simp only [List.getElem?_toArray, List.getElem?_cons_succ, List.getElem?_cons_zero, Option.some.injEq] at hoi
              subst hoi
              refine ⟨.inl ⟨by rfl, fun w hSw => by (try dsimp only at hSw); first | (go_simp; done) | (go_simp; with_reducible rfl)⟩, ?_⟩
              simp only [Act.put, List.setIfInBounds_toArray, List.set_cons_zero, List.set_cons_succ]
              refine wpAnyH_ready (rs := [23]) (by kernel_rfl) (by simp) (AllReadyH.cons rfl (fun K hK => ?_) (AllReadyH.nil))
              go_simp
              refine hK.out _ _ (HCS.out _ (by first | exact below_drewN hLow 1 | exact below_drewN (andAlloc hLow _) 1 | exact hL7 | exact andAlloc hL7 _ | exact hL8 | exact hL8.setCell hge8 _)) (fun hH9 => ?_)
              try simp only [Act.put, List.setIfInBounds_toArray, List.set_cons_zero, List.set_cons_succ]
              clear hK K
              refine wpAnyH_ready (rs := [24]) (by kernel_rfl) (by simp) (AllReadyH.cons rfl (fun K hK => ?_) (AllReadyH.nil))
              refine step_push rfl (.tmp 32) (.tmp 54) 33 rfl (gx + 1) 38 (.agg #[.slice none 0 0, .int .i64 0]) 2 32 Try.underlying33 info_cell rfl (by decide) (by decide) v k (dn.flatMap Cl.vals) rfl (HOV.out _ (andAlloc hB7 _)) (by simp; omega) ⟨W7.heap.size, 0, none⟩ 1 [.slice A7 x.l.length c7, .int .i64 x.sp] rfl rfl (new_cells (Blk.new _ _ _)) (by simp [Value.oneCell']) hr32 ?_
              intro v8 W8 hown8 hg8 hv8
              obtain ⟨A8, c8, rfl, hc8, _⟩ := SegS.own (S := fun _ => True) hown8 (fun _ _ => trivial)
              have hE8 := HGX.out (W7.alloc (.cells #[.slice A7 x.l.length c7, .int .i64 x.sp] 38)) (andAlloc hB7 _)
              have hne8 : some gx ≠ v.ownBlock := fun e => by have := (HC.out.own.lt gx e.symm).1; omega
              have hk8 := hg8.block gx (by simp; omega) hne8
              have y1 := (cell_block hk8 0).trans hE8.1
              have y2 := (frozen_block hk8 0).trans hE8.2
              have hge8 := HC.out.ge
              have hL8 : Below W0.heap.size W0 W8 := below_grown (Nat.le_refl _) (andAlloc hL7 _) hg8 (fun q hq => by have := (HC.out.own.lt q hq).1; have := HC.out.ge; omega)
              have HNX := Lib.hid (GC.next HC.out HXK.out hB7 h7 hown8 hg8 hv8)
              clear hown8 hg8 hv8 hk8 hE8
              refine hK.out _ _ (HCS.out _ (by first | exact below_drewN hLow 1 | exact below_drewN (andAlloc hLow _) 1 | exact hL7 | exact andAlloc hL7 _ | exact hL8 | exact hL8.setCell hge8 _)) (fun hH10 => ?_)
              try simp only [Act.put, List.setIfInBounds_toArray, List.set_cons_zero, List.set_cons_succ]
              clear hK K
              refine take_lit (i := 25) (v := (.pointer (some ⟨gx, 0, none⟩))) (by kernel_rfl) (by kernel_rfl) (by kernel_rfl) (by kernel_rfl) (fun _ _ _ _ h => h) hH10 (fun oi hoi => ?_)
              simp only [List.getElem?_toArray, List.getElem?_cons_succ, List.getElem?_cons_zero, Option.some.injEq] at hoi
              subst hoi
              refine ⟨.inl ⟨by rfl, fun w hSw => by (try dsimp only at hSw); first | (go_simp; done) | (go_simp; with_reducible rfl)⟩, ?_⟩
              simp only [Act.put, List.setIfInBounds_toArray, List.set_cons_zero, List.set_cons_succ]
              refine wpAnyH_ready (rs := [26]) (by kernel_rfl) (by simp) (AllReadyH.cons rfl (fun K hK => ?_) (AllReadyH.nil))
              go_simp
              refine hK.out _ _ (HCS.out _ (by first | exact below_drewN hLow 1 | exact below_drewN (andAlloc hLow _) 1 | exact hL7 | exact andAlloc hL7 _ | exact hL8 | exact hL8.setCell hge8 _)) (fun hH11 => ?_)
              try simp only [Act.put, List.setIfInBounds_toArray, List.set_cons_zero, List.set_cons_succ]
              clear hK K
              refine wpAnyH_done (by kernel_rfl) ?_ _
              skip
              go_wp2_with fail
              go_roundw
              case rel => exact ⟨k + 1, _, _, by omega, by go_num, HNX.out⟩
              case measure => simp [intOf]; omega
            · skip
              refine step_append_long rfl (.tmp 33) (.tmp 42) rfl wr.heap.size (by simp) (.slice (some ⟨wr.heap.size, 0, none⟩) 0 0) 0 [] rfl HA0.out x.A x.c x.l rfl (HSX.out _ HLW.out) (by omega) ?_
              intro v7 W7 hown7 hg7
              obtain ⟨A7, c7, rfl, hc7, _, hz7, hs7⟩ := SegS.own (S := fun b => wr.heap.size ≤ b) hown7 (fun b hb => (hown7.lt b hb).1)
              rw [Nat.zero_add] at hc7
              rw [List.nil_append] at hs7
              simp only [Nat.zero_add]
              have hB7 := below_grown (Nat.le_refl _) HLW.out hg7 (fun g hg => by have hg' : some wr.heap.size = some g := hg; injection hg' with hg'; omega)
              obtain ⟨z4, z5⟩ := HGX.out _ hB7
              have z6 := hB7.size
              have z7 := Nat.lt_of_lt_of_le hgl z6
              have hL7 := andThen hLow hB7
              have h7 : LsOk W7 (fun b => wr.heap.size ≤ b) A7 c7 x.l := ⟨hc7, hxl2, hz7, hs7⟩
              clear hown7 hg7 hs7
              refine hK.out _ _ (HCS.out _ (by first | exact below_drewN hLow 1 | exact below_drewN (andAlloc hLow _) 1 | exact hL7 | exact andAlloc hL7 _ | exact hL8 | exact hL8.setCell hge8 _)) (fun hH7 => ?_)
              try simp only [Act.put, List.setIfInBounds_toArray, List.set_cons_zero, List.set_cons_succ]
              clear hK K
              refine take_lit (i := 22) (v := (.agg #[.slice A7 x.l.length c7, .int .i64 x.sp])) (by kernel_rfl) (by kernel_rfl) (by kernel_rfl) (by kernel_rfl) (fun _ _ _ _ h => h) hH7 (fun oi hoi => ?_)
              simp only [List.getElem?_toArray, List.getElem?_cons_succ, List.getElem?_cons_zero, Option.some.injEq] at hoi
              subst hoi
              refine ⟨.inl ⟨by rfl, fun w hSw => by (try dsimp only at hSw); first | (go_simp; done) | (go_simp; with_reducible rfl)⟩, ?_⟩
              simp only [Act.put, List.setIfInBounds_toArray, List.set_cons_zero, List.set_cons_succ]
              refine wpAnyH_ready (rs := [1, 23]) (by kernel_rfl) (by simp) (AllReadyH.cons rfl (fun K hK => ?_) (AllReadyH.cons rfl (fun K hK => ?_) (AllReadyH.nil)))
              · skip
                go_simp
                refine hK.out _ _ (HCS.out _ (by first | exact below_drewN hLow 1 | exact below_drewN (andAlloc hLow _) 1 | exact hL7 | exact andAlloc hL7 _ | exact hL8 | exact hL8.setCell hge8 _)) (fun hH12 => ?_)
                try simp only [Act.put, List.setIfInBounds_toArray, List.set_cons_zero, List.set_cons_succ]
                clear hK K
                refine wpAnyH_ready (rs := [23]) (by kernel_rfl) (by simp) (AllReadyH.cons rfl (fun K hK => ?_) (AllReadyH.nil))
                go_simp
                refine hK.out _ _ (HCS.out _ (by first | exact below_drewN hLow 1 | exact below_drewN (andAlloc hLow _) 1 | exact hL7 | exact andAlloc hL7 _ | exact hL8 | exact hL8.setCell hge8 _)) (fun hH13 => ?_)
                try simp only [Act.put, List.setIfInBounds_toArray, List.set_cons_zero, List.set_cons_succ]
                clear hK K
                refine wpAnyH_ready (rs := [24]) (by kernel_rfl) (by simp) (AllReadyH.cons rfl (fun K hK => ?_) (AllReadyH.nil))
                refine step_push rfl (.tmp 32) (.tmp 54) 33 rfl (gx + 1) 38 (.agg #[.slice none 0 0, .int .i64 0]) 2 32 Try.underlying33 info_cell rfl (by decide) (by decide) v k (dn.flatMap Cl.vals) rfl (HOV.out _ (andAlloc hB7 _)) (by simp; omega) ⟨W7.heap.size, 0, none⟩ 1 [.slice A7 x.l.length c7, .int .i64 x.sp] rfl rfl (new_cells (Blk.new _ _ _)) (by simp [Value.oneCell']) hr32 ?_
                intro v8 W8 hown8 hg8 hv8
                obtain ⟨A8, c8, rfl, hc8, _⟩ := SegS.own (S := fun _ => True) hown8 (fun _ _ => trivial)
                have hE8 := HGX.out (W7.alloc (.cells #[.slice A7 x.l.length c7, .int .i64 x.sp] 38)) (andAlloc hB7 _)
                have hne8 : some gx ≠ v.ownBlock := fun e => by have := (HC.out.own.lt gx e.symm).1; omega
                have hk8 := hg8.block gx (by simp; omega) hne8
                have y1 := (cell_block hk8 0).trans hE8.1
                have y2 := (frozen_block hk8 0).trans hE8.2
                have hge8 := HC.out.ge
                have hL8 : Below W0.heap.size W0 W8 := below_grown (Nat.le_refl _) (andAlloc hL7 _) hg8 (fun q hq => by have := (HC.out.own.lt q hq).1; have := HC.out.ge; omega)
                have HNX := Lib.hid (GC.next HC.out HXK.out hB7 h7 hown8 hg8 hv8)
                clear hown8 hg8 hv8 hk8 hE8
                refine hK.out _ _ (HCS.out _ (by first | exact below_drewN hLow 1 | exact below_drewN (andAlloc hLow _) 1 | exact hL7 | exact andAlloc hL7 _ | exact hL8 | exact hL8.setCell hge8 _)) (fun hH14 => ?_)
                try simp only [Act.put, List.setIfInBounds_toArray, List.set_cons_zero, List.set_cons_succ]
                clear hK K
                refine take_lit (i := 25) (v := (.pointer (some ⟨gx, 0, none⟩))) (by kernel_rfl) (by kernel_rfl) (by kernel_rfl) (by kernel_rfl) (fun _ _ _ _ h => h) hH14 (fun oi hoi => ?_)
                simp only [List.getElem?_toArray, List.getElem?_cons_succ, List.getElem?_cons_zero, Option.some.injEq] at hoi
                subst hoi
                refine ⟨.inl ⟨by rfl, fun w hSw => by (try dsimp only at hSw); first | (go_simp; done) | (go_simp; with_reducible rfl)⟩, ?_⟩
                simp only [Act.put, List.setIfInBounds_toArray, List.set_cons_zero, List.set_cons_succ]
                refine wpAnyH_ready (rs := [26]) (by kernel_rfl) (by simp) (AllReadyH.cons rfl (fun K hK => ?_) (AllReadyH.nil))
                go_simp
                refine hK.out _ _ (HCS.out _ (by first | exact below_drewN hLow 1 | exact below_drewN (andAlloc hLow _) 1 | exact hL7 | exact andAlloc hL7 _ | exact hL8 | exact hL8.setCell hge8 _)) (fun hH15 => ?_)
                try simp only [Act.put, List.setIfInBounds_toArray, List.set_cons_zero, List.set_cons_succ]
                clear hK K
                refine wpAnyH_done (by kernel_rfl) ?_ _
                skip
                go_wp2_with fail
                go_roundw
                case rel => exact ⟨k + 1, _, _, by omega, by go_num, HNX.out⟩
                case measure => simp [intOf]; omega
              · skip
                go_simp
                refine hK.out _ _ (HCS.out _ (by first | exact below_drewN hLow 1 | exact below_drewN (andAlloc hLow _) 1 | exact hL7 | exact andAlloc hL7 _ | exact hL8 | exact hL8.setCell hge8 _)) (fun hH12 => ?_)
                try simp only [Act.put, List.setIfInBounds_toArray, List.set_cons_zero, List.set_cons_succ]
                clear hK K
                refine wpAnyH_ready (rs := [1]) (by kernel_rfl) (by simp) (AllReadyH.cons rfl (fun K hK => ?_) (AllReadyH.nil))
                go_simp
                refine hK.out _ _ (HCS.out _ (by first | exact below_drewN hLow 1 | exact below_drewN (andAlloc hLow _) 1 | exact hL7 | exact andAlloc hL7 _ | exact hL8 | exact hL8.setCell hge8 _)) (fun hH16 => ?_)
                try simp only [Act.put, List.setIfInBounds_toArray, List.set_cons_zero, List.set_cons_succ]
                clear hK K
                refine wpAnyH_ready (rs := [24]) (by kernel_rfl) (by simp) (AllReadyH.cons rfl (fun K hK => ?_) (AllReadyH.nil))
                refine step_push rfl (.tmp 32) (.tmp 54) 33 rfl (gx + 1) 38 (.agg #[.slice none 0 0, .int .i64 0]) 2 32 Try.underlying33 info_cell rfl (by decide) (by decide) v k (dn.flatMap Cl.vals) rfl (HOV.out _ (andAlloc hB7 _)) (by simp; omega) ⟨W7.heap.size, 0, none⟩ 1 [.slice A7 x.l.length c7, .int .i64 x.sp] rfl rfl (new_cells (Blk.new _ _ _)) (by simp [Value.oneCell']) hr32 ?_
                intro v8 W8 hown8 hg8 hv8
                obtain ⟨A8, c8, rfl, hc8, _⟩ := SegS.own (S := fun _ => True) hown8 (fun _ _ => trivial)
                have hE8 := HGX.out (W7.alloc (.cells #[.slice A7 x.l.length c7, .int .i64 x.sp] 38)) (andAlloc hB7 _)
                have hne8 : some gx ≠ v.ownBlock := fun e => by have := (HC.out.own.lt gx e.symm).1; omega
                have hk8 := hg8.block gx (by simp; omega) hne8
                have y1 := (cell_block hk8 0).trans hE8.1
                have y2 := (frozen_block hk8 0).trans hE8.2
                have hge8 := HC.out.ge
                have hL8 : Below W0.heap.size W0 W8 := below_grown (Nat.le_refl _) (andAlloc hL7 _) hg8 (fun q hq => by have := (HC.out.own.lt q hq).1; have := HC.out.ge; omega)
                have HNX := Lib.hid (GC.next HC.out HXK.out hB7 h7 hown8 hg8 hv8)
                clear hown8 hg8 hv8 hk8 hE8
                refine hK.out _ _ (HCS.out _ (by first | exact below_drewN hLow 1 | exact below_drewN (andAlloc hLow _) 1 | exact hL7 | exact andAlloc hL7 _ | exact hL8 | exact hL8.setCell hge8 _)) (fun hH17 => ?_)
                try simp only [Act.put, List.setIfInBounds_toArray, List.set_cons_zero, List.set_cons_succ]
                clear hK K
                refine take_lit (i := 25) (v := (.pointer (some ⟨gx, 0, none⟩))) (by kernel_rfl) (by kernel_rfl) (by kernel_rfl) (by kernel_rfl) (fun _ _ _ _ h => h) hH17 (fun oi hoi => ?_)
                simp only [List.getElem?_toArray, List.getElem?_cons_succ, List.getElem?_cons_zero, Option.some.injEq] at hoi
                subst hoi
                refine ⟨.inl ⟨by rfl, fun w hSw => by (try dsimp only at hSw); first | (go_simp; done) | (go_simp; with_reducible rfl)⟩, ?_⟩
                simp only [Act.put, List.setIfInBounds_toArray, List.set_cons_zero, List.set_cons_succ]
                refine wpAnyH_ready (rs := [26]) (by kernel_rfl) (by simp) (AllReadyH.cons rfl (fun K hK => ?_) (AllReadyH.nil))
                go_simp
                refine hK.out _ _ (HCS.out _ (by first | exact below_drewN hLow 1 | exact below_drewN (andAlloc hLow _) 1 | exact hL7 | exact andAlloc hL7 _ | exact hL8 | exact hL8.setCell hge8 _)) (fun hH18 => ?_)
                try simp only [Act.put, List.setIfInBounds_toArray, List.set_cons_zero, List.set_cons_succ]
                clear hK K
                refine wpAnyH_done (by kernel_rfl) ?_ _
                skip
                go_wp2_with fail
                go_roundw
                case rel => exact ⟨k + 1, _, _, by omega, by go_num, HNX.out⟩
                case measure => simp [intOf]; omega
        · obtain rfl : k = r.cs.length := by omega
          obtain ⟨A9, c9, rfl, _⟩ := SegS.own (S := fun _ => True) hC.own (fun _ _ => trivial)
          obtain ⟨hn, hRO, hRD⟩ := GC.row hC HRO.out.len
          have hg0 : wr.cell? ⟨w5.heap.size, 0, none⟩ = some (.slice A9 r.cs.length c9) := (hC.blk.cell 0).trans rfl
          have hg1 : wr.cell? ⟨w5.heap.size, 1, none⟩ = some (.slice E5 r.ex.length k5) := (hC.blk.cell 1).trans rfl
          have hown := Lib.hid (own_below (own_below HI.out.own hC.low) (andAlloc (Below.refl wr.heap.size wr) (.cells #[.slice A9 r.cs.length c9, .slice E5 r.ex.length k5] 36)))
          have HRK := Lib.hid (And.intro hr (And.intro hRO (And.intro hRD (And.intro hn hC.low))))
          have hl48 : (i + 1) * 48 ≤ 140737488355328 := by omega
          have hsz := hC.low.size
          have hsw := HI.out.low.size
          clear hr hRO hRD hn hC
          generalize w5.heap.size = gx at *
          go_wp2_with (at_builtin; refine wpList_push2 rfl (.tmp 57) (.tmp 59) 24 rfl w.heap.size 36 (.agg #[.slice none 0 0, .slice none 0 0]) 2 48 Try.underlying24 info_row rfl (by decide) (by decide) u3 i (done.flatMap Rw.vals) rfl hown.out (by simp; omega) ⟨wr.heap.size, 0, none⟩ 1 [.slice A9 r.cs.length c9, .slice E5 r.ex.length k5] rfl rfl (new_cells (Blk.new _ _ _)) (by simp [Value.oneCell']) hl48 ?_; intro v9 W9 hown9 hg9 hv9)
          have HNX := Lib.hid (GI.next (R := ⟨A9, c9, dn, E5, k5, r.ex⟩) HI.out HRK.out.1 HRK.out.2.2.2.2 HRK.out.2.1 HRK.out.2.2.1 (by show W9.ownsRow _ _ _ _ _ (_ ++ [.slice A9 dn.length c9, .slice E5 r.ex.length k5]); rw [HRK.out.2.2.2.1]; exact hown9) (by show (wr.alloc (.cells #[.slice A9 dn.length c9, .slice E5 r.ex.length k5] _)).grownBy _ _; rw [HRK.out.2.2.2.1]; exact hg9) (by show _ ∨ ∃ q, _ ∧ (wr.alloc (.cells #[.slice A9 dn.length c9, .slice E5 r.ex.length k5] _)).heap.size ≤ q; rw [HRK.out.2.2.2.1]; exact hv9))
          clear hown9 hg9 hv9
          go_wp2_with fail
          go_roundw
          case rel => exact ⟨i + 1, _, by omega, by go_num, HNX.out⟩
          case measure => simp [intOf]; omega
    · obtain rfl : i = rs.length := by omega
      go_wp2_with fail
      go_ret
      exact ⟨_, _, rfl, HI.out⟩
end Go.Proofs.Ytoboecenlangmaa.Al
end
section
namespace Go.Proofs.Ytoboecenlangmaa.Al
open Go.ChangeShapes Go.WideShapes Go.ChangeAt Go.RowKit
open Me Np No
open Gl (G Row)
set_option linter.unusedVariables false
set_option linter.unusedSimpArgs false

theorem place21 (a : Int) (len : Nat) (h0 : (0 : Int) < len) (h1 : (len : Int) ≤ 5000) : ∃ k : Nat, (wrap64 (a.tmod len + len)).tmod len = (k : Int) ∧ k < len := by
  have t1 := Int.tmod_lt_of_pos a h0
  have t2 := Int.lt_tmod_of_pos a h0
  rw [IntWalk.wrap64_in _ (by omega)]
  have t3 := Int.tmod_lt_of_pos (a.tmod len + len) h0
  have t4 := Int.tmod_nonneg (a := a.tmod len + len) len (by omega)
  exact ⟨((a.tmod len + len).tmod len).toNat, by omega, by omega⟩
theorem md_same {ss : List G} {ds es : List RD} (h : mdE ss ds = 0) (hm : ∀ q, q ∈ ds ↔ q ∈ es) (hl : es.length ≤ 2000) : mdE ss es = 0 ∧ mdC ss es = mdC ss ds := by
  have hck : ckE ss ds = 0 := by
    unfold mdE at h
    split at h
    · assumption
    · rename_i h1
      exact absurd h h1
  have hce : ckE ss es = 0 := by
    unfold ckE at hck ⊢
    split at hck
    · cases hck
    · rename_i h1
      rw [if_neg (by omega)]
      split at hck
      · rename_i h2
        rw [if_pos h2]
        have := rowsE_all hck
        exact rowsE_zero fun q hq => this q ((hm q).2 hq)
      · cases hck
  have hcc : mdC ss es = mdC ss ds := by
    unfold mdC
    refine (cols_same (fun r => ?_) ss _).symm
    constructor
    · intro hr
      obtain ⟨q, hq, rfl⟩ := List.mem_map.1 hr
      exact List.mem_map.2 ⟨q, (hm q).1 hq, rfl⟩
    · intro hr
      obtain ⟨q, hq, rfl⟩ := List.mem_map.1 hr
      exact List.mem_map.2 ⟨q, (hm q).2 hq, rfl⟩
  refine ⟨?_, hcc⟩
  unfold mdE at h ⊢
  rw [if_pos hck] at h
  rw [if_pos hce, hcc]
  exact h
/-- What given answers, as it is read. -/
theorem GI.rows {w w1 : World} {rs : List Rw} {v : Value} {dn : List Rw} (h : GI w rs rs.length v dn w1) (hl : rs.length ≤ 2932031007402) : ∃ A c, v = .slice A dn.length c ∧ dn.length = rs.length ∧ RsOk w1 (fun _ => True) A c dn ∧ dn.map Rw.d = rs.map Rw.d := by
  have hd := h.dat
  rw [List.take_length] at hd
  have hn : dn.length = rs.length := by have := congrArg List.length hd; simpa using this
  obtain ⟨A, c, hv, hc, _, _, hs⟩ := SegS.own (S := fun _ => True) h.own (fun _ _ => trivial)
  exact ⟨A, c, by rw [hv, hn], hn, ⟨by omega, by omega, hs, fun r hr => (h.ok r hr).mono fun _ _ _ => trivial⟩, hd⟩
theorem rowv_one (l : List Rw) : ∀ u ∈ l.flatMap Rw.vals, u.oneCell' = true := by
  intro u hu
  obtain ⟨g, _, hg⟩ := List.mem_flatMap.1 hu
  simp only [Rw.vals, List.mem_cons, List.not_mem_nil, or_false] at hg
  rcases hg with rfl | rfl <;> rfl
theorem mdC_w {ss : List G} {ds : List RD} : (mdC ss ds).w.length = ss.length - 1 := (cols_len _ ss _).1

set_option maxHeartbeats 8000000 in
set_option maxRecDepth 100000 in
theorem order_walk (A : Option Addr) (ss : List G) (c : Nat) (B : Option Addr) (rs : List Rw) (k : Nat) (turn twice : Int) (w : World) (hS : Row w A ss) (h63 : ss.length ≤ maxLen) (hR : RsOk w (fun _ => True) B k rs) :
    Calls Try.prog 4 #[.slice A ss.length c, .slice B rs.length k, .int .i64 turn, .int .i64 twice] w fun e w' => e = .returned (.bool true) ∧ Below w.heap.size w w' := by
  have HG := Lib.hid (given_any B rs k w hR)
  have HS := Lib.hid hS
  have HRL := Lib.hid hR.len
  have HW := Lib.hid (fun (dn : List Rw) (w1 : World) (A1 : Option Addr) (c1 : Nat) (hb : Below w.heap.size w w1) (h : RsOk w1 (fun _ => True) A1 c1 dn) => widths_al A ss c A1 dn c1 w1 (Seg.belowW hS hb) h h63)
  clear hS hR
  generalize hsl : ss.length = sl at *
  have HSL := Lib.hid hsl
  clear hsl
  go_enter Try.func4, Try.ntmps4
  go_wp2_with fail
  refine HG.out.mono ?_
  rintro e w1 ⟨v, dn, rfl, hgi⟩
  obtain ⟨A1, c1, rfl, hn, hro, hdd⟩ := hgi.rows HRL.out
  have HRO := Lib.hid hro
  have HDD := Lib.hid hdd
  have HB1 := Lib.hid hgi.low
  have hws := HW.out dn w1 A1 c1 HB1.out hro
  have hdl := hro.len
  have hdc := hro.cap
  have HNN := Lib.hid hn
  clear hgi hro hdd HG hn
  generalize hE : mdE ss (dn.map Rw.d) = E at hws
  have HE := Lib.hid hE
  have HWS := Lib.hid hws
  clear hE hws
  go_wp2_with fail
  refine HWS.out.mono ?_
  rintro e w2 ⟨B1, n1, d1, B2, n2, d2, rfl, hb2, hcase⟩
  have HB2 := Lib.hid (andThen HB1.out hb2)
  have HB12 := Lib.hid hb2
  have HCS := Lib.hid hcase
  clear hb2 hcase
  by_cases q1 : E = 0
  · have q2 : (E != 0) = false := by simp [q1]
    by_cases q3 : dn.length = 0
    · have q4 : ((dn.length : Int) == 0) = true := by simp [q3]
      have q5 : dn.length < 2000 := by omega
      generalize dn.length = dl at *
      go_wp2_with (first | (go_at_call 13; refine (num21 _ _).mono ?_; rintro e wz ⟨rfl, rfl⟩) | (go_at_call 14; refine (knows21 _).mono ?_; rintro e wz ⟨rfl, hbz⟩))
      go_ret
      exact ⟨rfl, andThen HB2.out hbz⟩
    · have q4 : ((dn.length : Int) == 0) = false := by rw [beq_eq_false_iff_ne]; omega
      by_cases q5 : 2000 ≤ (dn.length : Int)
      · generalize dn.length = dl at *
        go_wp2_with (first | (go_at_call 13; refine (num21 _ _).mono ?_; rintro e wz ⟨rfl, rfl⟩) | (go_at_call 14; refine (knows21 _).mono ?_; rintro e wz ⟨rfl, hbz⟩))
        go_ret
        exact ⟨rfl, andThen HB2.out hbz⟩
      · have hpos : (0 : Int) < dn.length := by omega
        obtain ⟨k1, hk1, hk1l⟩ := place21 turn dn.length hpos (by omega)
        obtain ⟨k2, hk2, hk2l⟩ := place21 twice dn.length hpos (by omega)
        obtain ⟨r2, hr2⟩ := get_some (l := dn) (i := k2) hk2l
        obtain ⟨b, off, rfl, hbb, _, _⟩ := HRO.out.row hr2
        have HR2 := Lib.hid hr2
        have hk2i : (k2 : Int) < dn.length := by omega
        clear hr2
        go_wp2_with (first | (go_at_call 13; refine (num21 _ _).mono ?_; rintro e wz ⟨rfl, rfl⟩) | (go_at_call 14; refine (knows21 _).mono ?_; rintro e w3 ⟨rfl, hb3⟩))
        have HL13 := Lib.hid (andThen HB12.out hb3)
        have HB23 := Lib.hid hb3
        have HB3 := Lib.hid (andThen HB2.out hb3)
        have HR3 := Lib.hid (HRO.out.below HL13.out)
        have HS3 := Lib.hid HR3.out.seg.seg
        have hkl2 : (k1 : Int) ≤ (dn.length : Int) := by omega
        have hkc : (k1 : Int) ≤ (c1 : Int) := by omega
        have hlc : (dn.length : Int) ≤ (c1 : Int) := by omega
        have hif : (if c1 = k1 then (some (⟨b, off, none⟩ : Addr)) else some ⟨b, off + k1 * 2, none⟩) = some ⟨b, off + k1 * 2, none⟩ := if_neg (by omega)
        have HIF := Lib.hid hif
        have HA0 := Lib.hid (by simpa using World.ownsRow_made w3 #[] 0 (e := 36) (size := 2) (Nat.le_refl _) (by simp [maxLen]) (by simp) : (w3.alloc (.cells #[] 36)).ownsRow w3.heap.size 36 2 (.slice (some ⟨w3.heap.size, 0, none⟩) 0 0) 0 [])
        have HLW := Lib.hid (show Below w3.heap.size w3 (w3.alloc (.cells #[] 36)).drew from below_drewN (andAlloc (Below.refl _ _) _) 1)
        have HD0 := Lib.hid (fun (w' : World) (hb : Below w3.heap.size w3 w') => Me.seg_cells (show Seg w' w3.heap.size (some ⟨b, off + k1 * 2, none⟩) ((dn.drop k1).flatMap Rw.vals) by rw [flat_drop Rw.vals_length]; exact (HS3.out.below hb).drop (k1 * 2)))
        have HT0 := Lib.hid (fun (w' : World) (hb : Below w3.heap.size w3 w') => Me.seg_cells (show Seg w' w3.heap.size (some ⟨b, off, none⟩) ((dn.take k1).flatMap Rw.vals) by rw [flat_take Rw.vals_length]; exact (HS3.out.below hb).take (k1 * 2)))
        clear hif hb3
        generalize hdn : dn.length = dl at *
        have HDL := Lib.hid hdn
        clear hdn
        go_region_law (first
          | (refine Me.step_append_src rfl (.tmp 55) (.tmp 58) 24 rfl w3.heap.size 36 (.agg #[.slice none 0 0, .slice none 0 0]) 2 48 Try.underlying24 info_row rfl (by decide) (.slice (some ⟨w3.heap.size, 0, none⟩) 0 0) 0 [] rfl HA0.out ⟨b, off + k1 * 2, none⟩ (dl - k1) (c1 - k1) ((dn.drop k1).flatMap Rw.vals) ?_ ?_ (HD0.out _ HLW.out) (rowv_one _) ?_ ?_ ?_ ?_; (first | rfl | exact congrArg (fun p => Value.slice p (dl - k1) (c1 - k1)) HIF.out); (rw [flat_length Rw.vals_length, List.length_drop, HDL.out]); (simp only [maxLen]; omega); omega; simp; intro v1 W1 hown1 hg1)
          | (refine Me.step_append_src rfl (.tmp 59) (.tmp 62) 24 rfl w3.heap.size 36 (.agg #[.slice none 0 0, .slice none 0 0]) 2 48 Try.underlying24 info_row rfl (by decide) v1 (0 + (dl - k1)) _ rfl hown1 ⟨b, off, none⟩ k1 c1 ((dn.take k1).flatMap Rw.vals) ?_ ?_ (HT0.out _ (below_grown (Nat.le_refl _) HLW.out hg1 (fun g hg => ?_))) (rowv_one _) ?_ ?_ ?_ ?_; rfl; (rw [flat_length Rw.vals_length, List.length_take, HDL.out, Nat.min_eq_left (by omega)]); (have hg' : some w3.heap.size = some g := hg; injection hg' with hg'; omega); (simp only [maxLen]; omega); omega; (have hh := hg1.size; simp at hh; omega); intro v2 W2 hown2 hg2))
        have hW1 : Below w3.heap.size w3 W1 := below_grown (Nat.le_refl _) HLW.out hg1 (fun g hg => by
          have hg' : some w3.heap.size = some g := hg
          injection hg' with hg'
          omega)
        have hW2 : Below w3.heap.size w3 W2 := below_grown (Nat.le_refl _) hW1 hg2 (fun g hg => (hown1.lt g hg).1)
        have hn2 : 0 + (dl - k1) + k1 = dl := by omega
        rw [hn2, List.nil_append, ← List.flatMap_append] at hown2
        obtain ⟨b', off', e1, hb', y0, y1⟩ := (HR3.out.below hW2).row HR2.out
        simp only [Option.some.injEq, Addr.mk.injEq, and_true] at e1
        obtain ⟨rfl, rfl⟩ := e1
        have HW2 := Lib.hid hW2
        have hz2 := hW2.size
        have hown3 := Lib.hid (hown2.alloc (.cells #[.slice r2.A r2.cs.length r2.c, .slice r2.E r2.ex.length r2.k] 36))
        have hl48 : (dl + 1) * 48 ≤ 140737488355328 := by omega
        clear hW1 hW2 hown1 hg1 hown2 hg2 hn2 HIF HA0 HLW HD0 HT0 hkl2 hkc hlc
        go_wp2_with (at_builtin; refine wpList_push2 rfl (.tmp 64) (.tmp 78) 24 rfl w3.heap.size 36 (.agg #[.slice none 0 0, .slice none 0 0]) 2 48 Try.underlying24 info_row rfl (by decide) (by decide) v2 dl ((dn.drop k1 ++ dn.take k1).flatMap Rw.vals) rfl hown3.out (by simp; omega) ⟨W2.heap.size, 0, none⟩ 1 [.slice r2.A r2.cs.length r2.c, .slice r2.E r2.ex.length r2.k] rfl rfl (new_cells (Blk.new _ _ _)) (by simp [Value.oneCell']) hl48 ?_; intro v4 W4 hown4 hg4 _; obtain ⟨A4, c4, rfl, hc4, _, _, hs4⟩ := SegS.own (S := fun _ => True) hown4 (fun _ _ => trivial); have HX4 := Lib.hid (And.intro hc4 (And.intro hs4 (below_grown (Nat.le_refl _) (andAlloc HW2.out (.cells #[.slice r2.A r2.cs.length r2.c, .slice r2.E r2.ex.length r2.k] 36)) hg4 (fun q hq => (hown3.out.lt q hq).1)))); clear hown4 hg4 hc4 hs4)
        have hlo : ((dn.drop k1 ++ dn.take k1) ++ [r2]).length = dl + 1 := by simp [HDL.out]; omega
        have hr4 : RsOk W4 (fun _ => True) A4 c4 ((dn.drop k1 ++ dn.take k1) ++ [r2]) := ⟨by rw [hlo]; exact HX4.out.1, by rw [hlo]; omega, by rw [List.flatMap_append]; simpa [Rw.vals] using HX4.out.2.1, fun r hr => by
          refine (HR3.out.below HX4.out.2.2).rows r ?_
          rcases List.mem_append.1 hr with hr | hr
          · rcases List.mem_append.1 hr with hr | hr
            · exact List.mem_of_mem_drop hr
            · exact List.mem_of_mem_take hr
          · obtain rfl := List.mem_singleton.1 hr
            exact List.mem_of_getElem? HR2.out⟩
        have hw4 := HW.out _ W4 A4 c4 (andThen HB3.out HX4.out.2.2) hr4
        rw [hlo] at hw4
        obtain ⟨m1, m2⟩ := md_same (ss := ss) (ds := dn.map Rw.d) (es := ((dn.drop k1 ++ dn.take k1) ++ [r2]).map Rw.d) (by rw [HE.out]; exact q1) (fun q => by
          have hr2m := List.mem_of_getElem? HR2.out
          constructor
          · intro hq
            obtain ⟨r, hr, rfl⟩ := List.mem_map.1 hq
            refine List.mem_map.2 ⟨r, List.mem_append_left _ ?_, rfl⟩
            rw [← List.take_append_drop k1 dn] at hr
            rcases List.mem_append.1 hr with hr | hr
            · exact List.mem_append_right _ hr
            · exact List.mem_append_left _ hr
          · intro hq
            obtain ⟨r, hr, rfl⟩ := List.mem_map.1 hq
            refine List.mem_map.2 ⟨r, ?_, rfl⟩
            rcases List.mem_append.1 hr with hr | hr
            · rcases List.mem_append.1 hr with hr | hr
              · exact List.mem_of_mem_drop hr
              · exact List.mem_of_mem_take hr
            · obtain rfl := List.mem_singleton.1 hr
              exact hr2m) (by rw [List.length_map, hlo]; omega)
        rw [m1, m2] at hw4
        have HW4 := Lib.hid hw4
        have HB4 := Lib.hid (andThen HB3.out HX4.out.2.2)
        have HB24 := Lib.hid (andThen HL13.out HX4.out.2.2)
        have HB34 := Lib.hid HX4.out.2.2
        clear hw4 hr4 m1 m2 HX4 hlo y0 y1
        refine HW4.out.mono ?_
        rintro e w5 ⟨D1, p1, e1, D2, p2, e2, rfl, hb5, hcase5⟩
        rcases hcase5 with ⟨_, o5, hp1, _, _⟩ | ⟨h, _⟩
        case inr => exact absurd rfl h
        rcases HCS.out with ⟨_, o1, hn1, _, _⟩ | ⟨h, _⟩
        case inr => exact absurd q1 h
        have hwl : (mdC ss (dn.map Rw.d)).w.length ≤ 2097152 := by
          have hck : ckE ss (dn.map Rw.d) = 0 := by
            have h := HE.out
            rw [q1] at h
            unfold mdE at h
            split at h
            · assumption
            · rename_i h1
              exact absurd h h1
          rw [mdC_w]
          unfold ckE at hck
          split at hck
          · cases hck
          · omega
        generalize (mdC ss (dn.map Rw.d)).w = ws at o1 hn1 o5 hp1 hwl
        subst hn1 hp1
        obtain ⟨x1, y1, v1', _, _, _, s1⟩ := SegS.own (S := fun _ => True) o1 (fun _ _ => trivial)
        injection v1' with v1' _ v2'
        subst v1' v2'
        obtain ⟨x1, y1, v1', _, _, _, s5⟩ := SegS.own (S := fun _ => True) o5 (fun _ _ => trivial)
        injection v1' with v1' _ v2'
        subst v1' v2'
        have HSI := Lib.hid (Si.same_ints B1 D1 ws ws d1 e1 w5 hwl hwl (Seg.belowW s1.seg (andThen HB23.out (andThen HB34.out hb5))) s5.seg)
        have HB5 := Lib.hid (andThen HB4.out hb5)
        clear o1 o5 s1 s5 hb5 hwl
        generalize ws.length = wl at *
        go_wp2_with (first | (go_at_call 13; refine (num21 _ _).mono ?_; rintro e wz ⟨rfl, rfl⟩) | (refine HSI.out.mono ?_; rintro e wz ⟨rfl, hbz⟩))
        go_ret
        exact ⟨by simp, andThen HB5.out hbz⟩
  · have q2 : (E != 0) = true := by simp [q1]
    go_wp2_with (first | (go_at_call 13; refine (num21 _ _).mono ?_; rintro e wz ⟨rfl, rfl⟩) | (go_at_call 14; refine (knows21 _).mono ?_; rintro e wz ⟨rfl, hbz⟩))
    go_ret
    exact ⟨rfl, andThen HB2.out hbz⟩
end Go.Proofs.Ytoboecenlangmaa.Al
end
section
namespace Go.Proofs.Ytoboecenlangmaa.No
open Go.ChangeShapes Go.WideShapes Go.ChangeAt Go.RowKit
open Me Np
set_option linter.unusedVariables false
set_option linter.unusedSimpArgs false

theorem ropens_any (n : Nd) (w : World) : Calls Try.prog 67 #[.agg (nc n)] w fun e w' => e = .returned (.bool (opensB n)) ∧ w.alloc (.cells (nc n) 54) = w' := by
  go_enter Try.func67, Try.ntmps67
  go_wp2_with fail
  all_goals (go_ret; exact ⟨ret_bool (by simp_all [opensB]), rfl⟩)
end Go.Proofs.Ytoboecenlangmaa.No
end
section
namespace Go.Proofs.Ytoboecenlangmaa.No
open Go.ChangeShapes Go.WideShapes Go.ChangeAt Go.RowKit
open Me Np
set_option linter.unusedVariables false
set_option linter.unusedSimpArgs false

/-- What the loop of Ends holds. -/
structure InvEr (ns : List Nd) (w : World) (a m i : Nat) (q : Int) (wr : World) : Prop where
  lt : i < m
  bd : 0 ≤ q ∧ q ≤ i
  pos : q = 0 → i = 0
  rest : endc (ns.drop (a + i)) q = some (m - i)
  low : Below w.heap.size w wr
set_option maxHeartbeats 1000000 in
set_option maxRecDepth 100000 in
theorem rends_any (A : Option Addr) (ns : List Nd) (c a m : Nat) (w : World) (hl : ns.length ≤ 9223372036854775806) (hseg : Seg w w.heap.size A (ns.flatMap ncs)) (hm : endc (ns.drop a) 0 = some m) (h6 : ∀ n, ns[a]? = some n → ¬ n.kind = 6) :
    Calls Try.prog 34 #[.slice A ns.length c, .int .i64 (a : Int)] w fun e w' => e = .returned (.int .i64 ((a + m : Nat) : Int)) ∧ Below w.heap.size w w' := by
  have hb0 := endc_bd hm
  rw [List.length_drop] at hb0
  have hb1 : a + m ≤ ns.length := by omega
  have hal : a < ns.length := by omega
  have HM := Lib.hid hm
  have HSEG := Lib.hid hseg
  obtain ⟨x0, hx0⟩ : ∃ x, ns[a]? = some x := ⟨_, List.getElem?_eq_getElem (by omega)⟩
  have h60 := h6 x0 hx0
  obtain ⟨b, off, rfl, hb, hnode⟩ := seg_node hseg hx0
  obtain ⟨x1, hx1, hd⟩ := get_drop (l := ns) (k := a) (by omega)
  rw [hx0] at hx1
  injection hx1 with hx1
  subst hx1
  have hrest := hm
  rw [hd] at hrest
  have HE := Lib.hid (endc_cons hrest)
  have HX0 := Lib.hid hx0
  have H60 := Lib.hid h60
  clear hseg hm hb0 h6 h60 hrest hd hx0
  generalize hlen : ns.length = len at *
  have HL := Lib.hid hlen
  clear hlen
  cases hO : opensB x0
  · have HO := Lib.hid hO
    clear hO
    go_enter Try.func34, Try.ntmps34
    go_wp2_with (first | (go_at_call 67; (with_reducible refine (ropens_any _ _).mono ?_); rintro e w' ⟨rfl, rfl⟩; simp only [HO.out]) | (with_reducible show wpList _ _ _ _ _ _; refine wpList_load_node rfl _ rfl _ _ rfl _ (by repeat (first | apply NodeAt.row | (apply Blk.new'; first | rfl | (simp; done)) | (apply Blk.node; apply Blk.new'; first | rfl | (simp; done)) | assumption | apply NodeAt.alloc)) ?_))
    go_ret
    refine ⟨ret_int ?_, andAlloc (Below.refl _ _) _⟩
    have h1 := HE.out
    have hcn : cnt x0 0 = 0 := by simp [cnt, HO.out, H60.out]
    rw [hcn] at h1
    rcases h1 with ⟨_, h1⟩ | ⟨h1, _⟩
    · omega
    · exact absurd rfl h1
  · have HO := Lib.hid hO
    have HO0 := Lib.hid hO
    clear hO
    go_enter Try.func34, Try.ntmps34
    go_wp2_with (first | (go_at_call 67; (with_reducible refine (ropens_any _ _).mono ?_); rintro e w' ⟨rfl, rfl⟩; simp only [HO.out]) | (with_reducible show wpList _ _ _ _ _ _; refine wpList_load_node rfl _ rfl _ _ rfl _ (by repeat (first | apply NodeAt.row | (apply Blk.new'; first | rfl | (simp; done)) | (apply Blk.node; apply Blk.new'; first | rfl | (simp; done)) | assumption | apply NodeAt.alloc)) ?_))
    clear hnode HE
    go_loopw [5, 6] (fun n v wr => ∃ (i : Nat) (q : Int), v = .int .i64 ((a : Int) + (i : Int)) ∧ n = .int .i64 q ∧ InvEr ns w a m i q wr) (fun _ v _ => a + m - (intOf v).toNat)
    case atStart =>
      have h1 := endc_bd HM.out
      exact ⟨0, 0, by simp, rfl, by omega, by simp, fun _ => rfl, by simpa using HM.out, andAlloc (Below.refl _ _) _⟩
    case round =>
      obtain ⟨i, q, rfl, rfl, hI⟩ := hrel
      obtain ⟨b0, b1⟩ := hI.bd
      have hi := hI.lt
      have hi2 : a + i < len := by omega
      have hi3 : 0 ≤ (a : Int) + i := by omega
      have hi4 : (a : Int) + i < len := by omega
      obtain ⟨x, hx, hd⟩ := get_drop (l := ns) (k := a + i) (by rw [HL.out]; omega)
      obtain ⟨b', off', he, _, hnode⟩ := seg_node HSEG.out hx
      injection he with he
      injection he with he1 he2
      subst he1; subst he2
      have hnr : NodeAt wr b (off + (a + i) * 19) x := hnode.below hI.low hb
      have hrest := hI.rest
      rw [hd] at hrest
      have HE := Lib.hid (endc_cons hrest)
      have HI := Lib.hid hI
      have hq0 : opensB x = true ∨ 1 ≤ q := by
        by_cases hq : q = 0
        · left
          have hi0 := hI.pos hq
          subst hi0
          rw [Nat.add_zero, HX0.out] at hx
          injection hx with hx
          rw [← hx]
          exact HO0.out
        · right; omega
      have htn : ((a : Int) + (i : Int)).toNat = a + i := by omega
      clear hx hd hnode hrest hI
      have hc0 : wr.cell? ⟨b, off + (a + i) * 19, none⟩ = some (.int .i64 x.kind) := hnr 0 _ rfl
      have hbw := hnr.lt
      cases hO : opensB x
      · have hq1 : 1 ≤ q := by rcases hq0 with h | h; (rw [h] at hO; cases hO); exact h
        by_cases k6 : x.kind = 6
        · have e6 : (x.kind == 6) = true := by simp [k6]
          have hcn : cnt x q = q - 1 := by simp [cnt, hO, k6]
          have HO := Lib.hid hO
          clear hO k6 hq0
          have HC := Lib.hid hcn
          clear hcn
          by_cases hz : q - 1 = 0
          · have ez : (q - 1 == 0) = true := by simp [hz]
            have HZ := Lib.hid hz
            clear hz
            go_wp2_with (first | (go_at_call 67; (with_reducible refine (ropens_any _ _).mono ?_); rintro e w' ⟨rfl, rfl⟩; simp only [HO.out]) | (with_reducible show wpList _ _ _ _ _ _; refine wpList_load_node rfl _ rfl _ _ rfl _ (by repeat (first | apply NodeAt.row | (apply Blk.new'; first | rfl | (simp; done)) | (apply Blk.node; apply Blk.new'; first | rfl | (simp; done)) | assumption | apply NodeAt.alloc)) ?_))
            try rw [Exit.noGoto_ret]
            go_ret
            refine ⟨ret_int ?_, andAlloc HI.out.low _⟩
            have h1 := HE.out
            rw [HC.out] at h1
            have h2 := HZ.out
            rcases h1 with ⟨_, h1⟩ | ⟨h1, _⟩
            · omega
            · exact absurd h2 h1
          · have ez : (q - 1 == 0) = false := by simp [hz]
            have HZ := Lib.hid hz
            clear hz
            go_wp2_with (first | (go_at_call 67; (with_reducible refine (ropens_any _ _).mono ?_); rintro e w' ⟨rfl, rfl⟩; simp only [HO.out]) | (with_reducible show wpList _ _ _ _ _ _; refine wpList_load_node rfl _ rfl _ _ rfl _ (by repeat (first | apply NodeAt.row | (apply Blk.new'; first | rfl | (simp; done)) | (apply Blk.node; apply Blk.new'; first | rfl | (simp; done)) | assumption | apply NodeAt.alloc)) ?_))
            have h1 := HE.out
            rw [HC.out] at h1
            rcases h1 with ⟨h1, _⟩ | ⟨_, h1, h2⟩
            · exact absurd h1 HZ.out
            go_roundw
            case rel => exact ⟨i + 1, q - 1, end_num, rfl, by omega, by have := HZ.out; omega, fun h => absurd h HZ.out, h2, andAlloc HI.out.low _⟩
            case measure => simp [intOf]; omega
        · have e6 : (x.kind == 6) = false := by simp [k6]
          have hcn : cnt x q = q := by simp [cnt, hO, k6]
          have HO := Lib.hid hO
          clear hO k6 hq0
          have HC := Lib.hid hcn
          clear hcn
          go_wp2_with (first | (go_at_call 67; (with_reducible refine (ropens_any _ _).mono ?_); rintro e w' ⟨rfl, rfl⟩; simp only [HO.out]) | (with_reducible show wpList _ _ _ _ _ _; refine wpList_load_node rfl _ rfl _ _ rfl _ (by repeat (first | apply NodeAt.row | (apply Blk.new'; first | rfl | (simp; done)) | (apply Blk.node; apply Blk.new'; first | rfl | (simp; done)) | assumption | apply NodeAt.alloc)) ?_))
          have h1 := HE.out
          rw [HC.out] at h1
          rcases h1 with ⟨h1, _⟩ | ⟨_, h1, h2⟩
          · omega
          go_roundw
          case rel => exact ⟨i + 1, q, end_num, rfl, by omega, by omega, fun h => by omega, h2, andAlloc HI.out.low _⟩
          case measure => simp [intOf]; omega
      · have k6 : ¬ x.kind = 6 := by
          intro h
          simp [opensB, h] at hO
        have e6 : (x.kind == 6) = false := by simp [k6]
        have hcn : cnt x q = q + 1 := by simp [cnt, hO]
        have HO := Lib.hid hO
        clear hO k6 hq0
        have HC := Lib.hid hcn
        clear hcn
        go_wp2_with (first | (go_at_call 67; (with_reducible refine (ropens_any _ _).mono ?_); rintro e w' ⟨rfl, rfl⟩; simp only [HO.out]) | (with_reducible show wpList _ _ _ _ _ _; refine wpList_load_node rfl _ rfl _ _ rfl _ (by repeat (first | apply NodeAt.row | (apply Blk.new'; first | rfl | (simp; done)) | (apply Blk.node; apply Blk.new'; first | rfl | (simp; done)) | assumption | apply NodeAt.alloc)) ?_))
        have h1 := HE.out
        rw [HC.out] at h1
        rcases h1 with ⟨h1, _⟩ | ⟨_, h1, h2⟩
        · omega
        go_roundw
        case rel => exact ⟨i + 1, q + 1, end_num, rfl, by omega, by omega, fun h => by omega, h2, andAlloc HI.out.low _⟩
        case measure => simp [intOf]; omega
set_option maxHeartbeats 1000000 in
set_option maxRecDepth 100000 in
theorem rstarts_any (A : Option Addr) (ns : List Nd) (c : Nat) (xs : List Nat) (w : World) (hl : ns.length ≤ 2000) (hseg : Seg w w.heap.size A (ns.flatMap ncs)) (hx : Its xs ns 0) (h6 : ∀ x ∈ xs, ∀ n, ns[x]? = some n → ¬ n.kind = 6) :
    Calls Try.prog 25 #[.slice A ns.length c] w (Made w xs) := by
  have HX := Lib.hid hx
  have HEN := Lib.hid fun (a m : Nat) w1 (h : Below w.heap.size w w1) hm hk => rends_any A ns c a m w1 (by omega) (Seg.belowW hseg h) hm hk
  have H6 := Lib.hid h6
  clear hseg hx h6
  have HL := Lib.hid (rfl : ns.length = ns.length)
  generalize hlen : ns.length = len at hl HEN HL ⊢
  clear HL
  have HL := Lib.hid hlen
  clear hlen
  go_enter Try.func25, Try.ntmps25
  go_wp2_with fail
  go_loopw [3, 4] (fun v i wr => ∃ (a : Nat) (ys zs : List Nat), i = .int .i64 a ∧ InvI ns w xs a v ys zs wr) (fun _ i _ => len - (intOf i).toNat)
  case atStart => exact ⟨0, [], xs, rfl, rfl, by simpa using HX.out, Nat.zero_le _, World.ownsRow_nil _ _ _ _, Below.refl _ _⟩
  case round =>
    obtain ⟨a, ys, zs, rfl, hI⟩ := hrel
    have hle := hI.le
    rw [HL.out] at hle
    have hyl : ys.length ≤ 2000 := by
      have h1 := Its.len HX.out
      have h2 := congrArg List.length hI.all
      rw [HL.out] at h1
      simp only [List.length_append] at h2
      omega
    have HI := Lib.hid hI
    clear hI
    by_cases hlt : a < len
    · have hz : ∃ m zs', zs = a :: zs' ∧ endc (ns.drop a) 0 = some m ∧ Its zs' ((ns.drop a).drop m) (a + m) := by
        have hr := HI.out.rest
        cases zs with
        | nil =>
          have hr : ns.drop a = [] := hr
          rw [List.drop_eq_nil_iff, HL.out] at hr
          omega
        | cons z zs' =>
          obtain ⟨rfl, m, h1, h2⟩ := hr
          exact ⟨m, zs', rfl, h1, h2⟩
      obtain ⟨m, zs', rfl, hm, hr⟩ := hz
      have hmb := endc_bd hm
      rw [List.length_drop, HL.out] at hmb
      have hma : a + m ≤ len := by omega
      have HM := Lib.hid hm
      have HR := Lib.hid hr
      have HB := Lib.hid hmb
      clear hm hr hmb
      go_wp2_with (at_builtin; refine wpList_push rfl _ _ 26 rfl w.heap.size 3 _ 1 8 Try.underlying26 info_int rfl (by decide) (by decide) _ _ _ rfl HI.out.own HI.out.low.size _ rfl rfl rfl (by simp) (by omega) ?_; intro v6 w6 hown6 hg6 hnn6)
      have hlow6 : Below w.heap.size w w6 := below_grown (Nat.le_refl _) (andAlloc HI.out.low _) hg6 (fun k hk => (HI.out.own.lt k hk).1)
      have HO6 := Lib.hid hown6
      clear hown6 hg6 hnn6
      refine (HEN.out a m w6 hlow6 HM.out (H6.out a (by rw [← HI.out.all]; simp))).mono ?_
      rintro e w7 ⟨rfl, hb7⟩
      go_wp2_with fail
      have hB := HB.out
      go_roundw
      case rel => exact ⟨a + m, ys ++ [a], zs', rfl, by simpa using HI.out.all, by simpa [List.drop_drop] using HR.out, by rw [HL.out]; exact hma, own_below (by simpa [nat64] using HO6.out) hb7, andThen hlow6 hb7⟩
      case measure => simp [intOf]; omega
    · obtain rfl : a = len := by omega
      have hz : zs = [] := by
        have hr := HI.out.rest
        rw [List.drop_of_length_le (by rw [HL.out]; exact Nat.le_refl _)] at hr
        cases zs with
        | nil => rfl
        | cons z zs' =>
          obtain ⟨_, m, h1, _⟩ := hr
          simp [endc] at h1
      subst hz
      go_wp2_with fail
      go_ret
      have h1 := HI.out.all
      rw [List.append_nil] at h1
      subst h1
      exact ⟨_, rfl, HI.out.own, HI.out.low⟩
end Go.Proofs.Ytoboecenlangmaa.No
end
section
namespace Go.Proofs.Ytoboecenlangmaa.Al
open Go.ChangeShapes Go.WideShapes Go.ChangeAt Go.RowKit
open Me Np No Pk
open Gl (G Row)
set_option linter.unusedVariables false
set_option linter.unusedSimpArgs false

theorem hd_ex (ss : List G) (ds : List RD) (tw : Int) (ex : Bool) : ∃ R : List Nd × List Nd × Int × Int × Int, (mdE ss ds = 0 → HpkAt (headL (mdC ss ds).w (mdC ss ds).s) tw ex R) ∧ (mdE ss ds = 0 → HpkG (headL (mdC ss ds).w (mdC ss ds).s) tw ex R ∨ HpkN R) := by
  by_cases h : mdE ss ds = 0
  · obtain ⟨_, h257, hw, _, _⟩ := md_len h
    obtain ⟨R, _, _, hG, hc⟩ := hpk1_case (headL (mdC ss ds).w (mdC ss ds).s) tw ex (by rw [head_len]; omega)
    exact ⟨R, fun _ => hc, fun _ => hG⟩
  · exact ⟨([], [], 0, 0, 0), fun h0 => absurd h0 h, fun h0 => absurd h0 h⟩
/-- What stands at a place of the rows that are set. -/
theorem rows_at {W : List Int} {S : List G} {n : Nd} {ds : List RD} {L : List Nd} {i a : Nat} {d : RD} (hn : n.kind = 4) (hd : ds[i]? = some d) (ha : a ≤ L.length) (h : RowsL W S n (ds.drop i) (L.drop a)) :
    ∃ (m : Nat) (l : List Nd) (x : Nd), m ≤ W.length ∧ RP W S m l ∧ chk l = 0 ∧ L[a]? = some x ∧ x.kind = 4 ∧ x.wd = n.wd ∧ (x.sign = n.sign ∧ x.order = n.order ∧ x.num = n.num ∧ x.den = n.den) ∧ endc (L.drop a) 0 = some (l.length + 2) ∧ (L.drop (a + 1)).take l.length = l ∧
      a + (l.length + 2) + d.2.length ≤ L.length ∧ RowsL W S n (ds.drop (i + 1)) (L.drop (a + (l.length + 2) + d.2.length)) := by
  have hl : i < ds.length := (List.getElem?_eq_some_iff.1 hd).1
  rw [List.drop_eq_getElem_cons hl] at h
  have hdi : ds[i] = d := by rw [List.getElem?_eq_getElem hl] at hd; injection hd
  rw [hdi] at h
  obtain ⟨m, l, h', dp, L', h1, h2, h3, _, h5, h6⟩ := h
  have hlen := congrArg List.length h5
  rw [List.length_drop, List.length_append, List.length_append, wrap_len] at hlen
  have hk : opensB ({ n with ht := h', dp := dp } : Nd) = true := by simp [opensB, hn]
  refine ⟨m, l, { n with ht := h', dp := dp }, h1, h2, h3, ?_, hn, rfl, ⟨rfl, rfl, rfl, rfl⟩, ?_, ?_, by omega, ?_⟩
  · have h7 : (L.drop a)[0]? = some ({ n with ht := h', dp := dp } : Nd) := by rw [h5]; rfl
    rw [List.getElem?_drop] at h7
    exact h7
  · rw [h5]
    exact endc_more _ (endc_wrap hk h3)
  · rw [← List.drop_drop, h5]
    unfold wrapL
    simp
  · have e : L.drop (a + (l.length + 2) + d.2.length) = L' := by
      rw [Nat.add_assoc, ← List.drop_drop, h5, ← List.append_assoc, List.drop_left' (by rw [List.length_append, wrap_len])]
    rw [e]
    exact h6
theorem hd_zero {E0 : Int} {R : List Nd × List Nd × Int × Int × Int} (h : HdE E0 R = 0) : E0 = 0 ∧ R.2.2.2.2 = 0 := by
  unfold HdE at h
  by_cases h0 : E0 = 0
  · rw [if_pos h0] at h; exact ⟨h0, h⟩
  · rw [if_neg h0] at h; exact absurd h h0
theorem hd_bad {W : List Int} {S : List G} {tw : Int} {ex : Bool} {E0 : Int} {R : List Nd × List Nd × Int × Int × Int} (hG : E0 = 0 → HpkG (headL W S) tw ex R ∨ HpkN R) (h : ¬ HdE E0 R = 0) : HdL E0 R = [] := by
  unfold HdL
  unfold HdE at h
  by_cases h0 : E0 = 0
  · rw [if_pos h0]
    rw [if_pos h0] at h
    rcases hd_case (hG h0) with ⟨n, hn⟩ | ⟨h1, _⟩
    · exact absurd hn.ok h
    · exact h1
  · rw [if_neg h0]

set_option maxHeartbeats 8000000 in
set_option maxRecDepth 100000 in
theorem exact_walk (A : Option Addr) (ss : List G) (c : Nat) (B : Option Addr) (rs : List Rw) (k : Nat) (tw : Int) (w : World) (hS : Row w A ss) (h63 : ss.length ≤ maxLen) (hR : RsOk w (fun _ => True) B k rs) :
    Calls Try.prog 10 #[.slice A ss.length c, .slice B rs.length k, .int .i64 tw] w fun e w' => e = .returned (.bool true) ∧ Below w.heap.size w w' := by
  have HG := Lib.hid (given_any B rs k w hR)
  have HRL := Lib.hid hR.len
  have HWH := Lib.hid (fun (dn : List Rw) (R : List Nd × List Nd × Int × Int × Int) (w1 : World) (A1 : Option Addr) (c1 : Nat) (hb : Below w.heap.size w w1) (h : RsOk w1 (fun _ => True) A1 c1 dn) hr => Head_al A ss c A1 dn c1 tw true w1 (Seg.belowW hS hb) h h63 R hr)
  have HWS := Lib.hid (fun (dn : List Rw) (R : List Nd × List Nd × Int × Int × Int) (w1 : World) (A1 : Option Addr) (c1 : Nat) (hb : Below w.heap.size w w1) (h : RsOk w1 (fun _ => True) A1 c1 dn) hr hg => Set_al A ss c A1 dn c1 tw true w1 (Seg.belowW hS hb) h h63 R hr hg)
  clear hS hR
  generalize hsl : ss.length = sl at *
  have HSL := Lib.hid hsl
  clear hsl
  go_enter Try.func10, Try.ntmps10
  go_upto_region 2 with (go_at_call 11; refine HG.out.mono ?_; rintro e w1 ⟨v, dn, rfl, hgi⟩)
  obtain ⟨A1, c1, rfl, hn, hro, hdd⟩ := hgi.rows HRL.out
  have HRO := Lib.hid hro
  have HB1 := Lib.hid hgi.low
  obtain ⟨R, hRA, hRG⟩ := hd_ex ss (dn.map Rw.d) tw true
  have HRG := Lib.hid hRG
  have HH := Lib.hid (HWH.out dn R w1 A1 c1 HB1.out hro hRA)
  have HSS := Lib.hid (fun (w' : World) (hb : Below w1.heap.size w1 w') => HWS.out dn R w' A1 c1 (andThen HB1.out hb) (hro.below hb) hRA hRG)
  have hdl := hro.len
  have hdc := hro.cap
  have HNN := Lib.hid hn
  clear hgi hro hdd HG hn hRA hRG HWH HWS
  generalize hC : mdC ss (dn.map Rw.d) = C at *
  generalize hE : mdE ss (dn.map Rw.d) = E0 at *
  clear hC hE
  generalize hm : dn.length = m at *
  have HM := Lib.hid hm
  clear hm
  go_upto_region 3 with (go_at_call 32; refine HH.out.mono ?_; rintro e w2 ⟨vh, bh, oh, rfl, hoh, hb2⟩)
  have HOH := Lib.hid hoh
  have HB2 := Lib.hid hb2
  have HS2 := Lib.hid (HSS.out w2 hb2)
  clear hoh hb2 HH HSS
  go_upto_region 4 with (go_at_call 33; refine HS2.out.mono ?_; rintro e w3 ⟨vs, L, F, rfl, hos, hb3, hno, hyes⟩)
  have HOS := Lib.hid hos
  have HB3 := Lib.hid hb3
  have HNO := Lib.hid hno
  have HYES := Lib.hid hyes
  have HBW3 := Lib.hid (andThen HB1.out (andThen HB2.out hb3))
  clear hos hb3 hno hyes HS2
  by_cases hE1 : HdE E0 R = 0
  · obtain ⟨h0, hRE⟩ := hd_zero hE1
    subst h0
    obtain ⟨n, hok⟩ : ∃ n, HdOk C.w C.s tw true R n := by
      rcases hd_case (HRG.out rfl) with h | ⟨_, h⟩
      · exact h
      · exact absurd hRE h
    have hL0 : HdL 0 R = wrapL n (headL C.w C.s) := by unfold HdL; rw [if_pos rfl]; exact hok.box
    have hhl : 0 < (HdL 0 R).length := by rw [hL0, wrap_len]; omega
    have hwd := hok.wd rfl
    have HKN := Lib.hid hok.kind
    obtain ⟨A8, c8, rfl, hc8, _, _, hs8⟩ := SegS.own (S := fun _ => True) HOH.out (fun _ _ => trivial)
    obtain ⟨b8, o8, rfl, hb8, hn8⟩ := seg_node hs8.seg (k := 0) (show (HdL 0 R)[0]? = some n by rw [hL0]; rfl)
    rw [Nat.zero_mul, Nat.add_zero] at hn8
    have HN8 := Lib.hid (And.intro hb8 hn8)
    have q1 : (HdE 0 R != 0) = false := by simp [hE1]
    clear hs8 hb8 hn8 hL0 hok hE1 hRE HRG
    generalize HdE 0 R = E1 at *
    generalize (HdL 0 R).length = hl at *
    have hhl0 : (hl == 0) = false := by rw [beq_eq_false_iff_ne]; omega
    have hhl1 : ((hl : Int) == 0) = false := by rw [beq_eq_false_iff_ne]; omega
    have hhl2 : (0 : Int) < (hl : Int) := by omega
    go_upto_region 6 with (first | (go_at_call 13; refine (num21 _ _).mono ?_; rintro e wz ⟨rfl, rfl⟩) | (go_at_call 14; refine (knows21 _).mono ?_; rintro e w4 ⟨rfl, hb4⟩))
    have HB4 := Lib.hid (andThen HBW3.out hb4)
    have hn4 := HN8.out.2.below (andThen HB3.out hb4) HN8.out.1
    have hc3 : w4.cell? ⟨b8, o8 + 3, none⟩ = some (.int .i64 tw) := by rw [← hwd]; exact hn4 3 _ rfl
    have hbl : b8 < w4.heap.size := Nat.lt_of_lt_of_le HN8.out.1 (andThen HB3.out hb4).size
    have HOS4 := Lib.hid (own_below HOS.out hb4)
    have HR4 := Lib.hid (HRO.out.below (andThen HB2.out (andThen HB3.out hb4)))
    clear hn4 hb4
    by_cases hF : F = 0
    · obtain ⟨_, n', hok', hcL, hrw, _⟩ := HYES.out hF
      have hwd' := hok'.wd rfl
      have hk4 := hok'.kind
      have hl2 := (chk_run hcL).1
      obtain ⟨A9, c9, rfl, hc9, _, _, hs9⟩ := SegS.own (S := fun _ => True) HOS4.out (fun _ _ => trivial)
      have HS9 := Lib.hid hs9.seg
      have HRW := Lib.hid hrw
      have HK4 := Lib.hid (And.intro hk4 hwd')
      have q2 : (F != 0) = false := by simp [hF]
      clear hcL hrw hs9 hok' hwd' hk4
      generalize hll : L.length = ll at *
      have HLL := Lib.hid hll
      clear hll
      go_wp2_with (first | (go_at_call 13; refine (num21 _ _).mono ?_; rintro e wz ⟨rfl, rfl⟩) | (go_at_call 14; refine (knows21 _).mono ?_; rintro e w5 ⟨rfl, hb5⟩))
      clear hc3 hbl
      go_loopw [14, 15] (fun v14 v15 wr => ∃ (i a : Nat), i ≤ m ∧ v15 = .int .i64 (i : Int) ∧ v14 = .int .i64 (a : Int) ∧ a ≤ ll ∧ RowsL C.w C.s n' ((dn.map Rw.d).drop i) (L.drop a) ∧ Below w4.heap.size w4 wr) (fun _ v15 _ => m - (intOf v15).toNat)
      case atStart => exact ⟨0, 0, by omega, rfl, rfl, by omega, by simpa using HRW.out, Below.refl _ _⟩
      case round =>
        obtain ⟨i, a, hi, rfl, rfl, ha, hrw, hb⟩ := hrel
        have HB := Lib.hid hb
        have HRI := Lib.hid hrw
        clear hb hrw
        by_cases hlt : i < m
        · obtain ⟨r, hr⟩ := get_some (l := dn) (i := i) (by rw [HM.out]; exact hlt)
          obtain ⟨m1, l, x, h1, h2, h3, hx, hx4, hxw, _, hend, _, hle, hnx⟩ := rows_at HK4.out.1 (show (dn.map Rw.d)[i]? = some r.d by rw [List.getElem?_map, hr]; rfl) (by rw [HLL.out]; exact ha) HRI.out
          rw [HLL.out] at hle
          have hex : r.d.2.length = r.ex.length := rfl
          rw [hex] at hle hnx
          have HNX := Lib.hid hnx
          have hsg := Seg.belowW HS9.out HB.out
          obtain ⟨b9, o9, rfl, hb9, hn9⟩ := seg_node hsg hx
          have k0 : wr.cell? ⟨b9, o9 + a * 19, none⟩ = some (.int .i64 4) := by rw [← hx4]; exact hn9 0 _ rfl
          have k3 : wr.cell? ⟨b9, o9 + a * 19 + 3, none⟩ = some (.int .i64 tw) := by rw [← HK4.out.2, ← hxw]; exact hn9 3 _ rfl
          have hal : (a : Int) < (ll : Int) := by omega
          have hw := HR4.out.below HB.out
          obtain ⟨b, off, rfl, hb0, hc0, hc1⟩ := hw.row hr
          have hii : (i : Int) < (m : Int) := by omega
          have HEN := Lib.hid (fun (w' : World) (hb : Below wr.heap.size wr w') => rends_any (some ⟨b9, o9, none⟩) L c9 a (l.length + 2) w' (by rw [HLL.out]; omega) (Seg.belowW hsg hb) hend (fun y hy => by rw [hx] at hy; injection hy with hy; subst hy; omega))
          rw [HLL.out] at HEN
          obtain ⟨sp, hsp⟩ : ∃ k, l.length + 2 = k := ⟨_, rfl⟩
          rw [hsp] at hle HNX HEN
          obtain ⟨xl, hxl⟩ : ∃ k, r.ex.length = k := ⟨_, rfl⟩
          rw [hxl] at hle HNX hc1
          have hwn : IntKind.i64.wrap ((a : Int) + (sp : Int) + (xl : Int)) = (a : Int) + (sp : Int) + (xl : Int) := IntWalk.i64_in _ (by omega)
          have HCS := Lib.hid (fun (w' : World) (hb : Below wr.heap.size wr w') => show w'.cell? ⟨b, off + i * 2 + 1, none⟩ = some (.slice r.E xl r.k) ∧ Below wr.heap.size wr w' from ⟨(hb.cell (p := ⟨b, off + i * 2 + 1, none⟩) hb0).trans hc1, hb⟩)
          clear hx hx4 hxw hend hnx hn9 hsg hw hr h2 h3 hsp hxl hc0 hc1 hex
          go_upto_region 16 with fail
          refine wp_region_held_drew (S := fun w' => w'.cell? ⟨b, off + i * 2 + 1, none⟩ = some (.slice r.E xl r.k) ∧ Below wr.heap.size wr w') (by kernel_rfl) (HCS.out _ (below_drewN (Below.refl _ _) 1)) (fun hH => ?_)
          refine take_lit (i := 0) (v := (.slice (some ⟨b9, o9, none⟩) ll c9)) (by kernel_rfl) (by kernel_rfl) (by kernel_rfl) (by kernel_rfl) (fun _ _ _ _ h => h) hH (fun oi hoi => ?_)
          simp only [List.getElem?_toArray, List.getElem?_cons_succ, List.getElem?_cons_zero, Option.some.injEq] at hoi
          subst hoi
          refine ⟨.inl ⟨by rfl, fun w hSw => ?_⟩, ?_⟩
          · obtain ⟨s0, s1⟩ := hSw
            first | (go_simp; done) | (go_simp; with_reducible rfl)
          simp only [Act.put, List.setIfInBounds_toArray, List.set_cons_zero, List.set_cons_succ]
          refine take_lit (i := 1) (v := (.int .i64 (a : Int))) (by kernel_rfl) (by kernel_rfl) (by kernel_rfl) (by kernel_rfl) (fun _ _ _ _ h => h) hH (fun oi hoi => ?_)
          simp only [List.getElem?_toArray, List.getElem?_cons_succ, List.getElem?_cons_zero, Option.some.injEq] at hoi
          subst hoi
          refine ⟨.inl ⟨by rfl, fun w hSw => ?_⟩, ?_⟩
          · obtain ⟨s0, s1⟩ := hSw
            first | (go_simp; done) | (go_simp; with_reducible rfl)
          simp only [Act.put, List.setIfInBounds_toArray, List.set_cons_zero, List.set_cons_succ]
          refine take_lit (i := 3) (v := (.slice (some ⟨b, off, none⟩) m c1)) (by kernel_rfl) (by kernel_rfl) (by kernel_rfl) (by kernel_rfl) (fun _ _ _ _ h => h) hH (fun oi hoi => ?_)
          simp only [List.getElem?_toArray, List.getElem?_cons_succ, List.getElem?_cons_zero, Option.some.injEq] at hoi
          subst hoi
          refine ⟨.inl ⟨by rfl, fun w hSw => ?_⟩, ?_⟩
          · obtain ⟨s0, s1⟩ := hSw
            first | (go_simp; done) | (go_simp; with_reducible rfl)
          simp only [Act.put, List.setIfInBounds_toArray, List.set_cons_zero, List.set_cons_succ]
          refine take_lit (i := 4) (v := (.int .i64 (i : Int))) (by kernel_rfl) (by kernel_rfl) (by kernel_rfl) (by kernel_rfl) (fun _ _ _ _ h => h) hH (fun oi hoi => ?_)
          simp only [List.getElem?_toArray, List.getElem?_cons_succ, List.getElem?_cons_zero, Option.some.injEq] at hoi
          subst hoi
          refine ⟨.inl ⟨by rfl, fun w hSw => ?_⟩, ?_⟩
          · obtain ⟨s0, s1⟩ := hSw
            first | (go_simp; done) | (go_simp; with_reducible rfl)
          simp only [Act.put, List.setIfInBounds_toArray, List.set_cons_zero, List.set_cons_succ]
          refine take_lit (i := 5) (v := (.pointer (some ⟨b, off + i * 2, none⟩))) (by kernel_rfl) (by kernel_rfl) (by kernel_rfl) (by kernel_rfl) (fun _ _ _ _ h => h) hH (fun oi hoi => ?_)
          simp only [List.getElem?_toArray, List.getElem?_cons_succ, List.getElem?_cons_zero, Option.some.injEq] at hoi
          subst hoi
          refine ⟨.inl ⟨by rfl, fun w hSw => ?_⟩, ?_⟩
          · obtain ⟨s0, s1⟩ := hSw
            first | (go_simp; done) | (go_simp; with_reducible rfl)
          simp only [Act.put, List.setIfInBounds_toArray, List.set_cons_zero, List.set_cons_succ]
          refine take_lit (i := 6) (v := (.pointer (some ⟨b, off + i * 2 + 1, none⟩))) (by kernel_rfl) (by kernel_rfl) (by kernel_rfl) (by kernel_rfl) (fun _ _ _ _ h => h) hH (fun oi hoi => ?_)
          simp only [List.getElem?_toArray, List.getElem?_cons_succ, List.getElem?_cons_zero, Option.some.injEq] at hoi
          subst hoi
          refine ⟨.inl ⟨by rfl, fun w hSw => ?_⟩, ?_⟩
          · obtain ⟨s0, s1⟩ := hSw
            first | (go_simp; done) | (go_simp; with_reducible rfl)
          simp only [Act.put, List.setIfInBounds_toArray, List.set_cons_zero, List.set_cons_succ]
          refine take_lit (i := 7) (v := (.slice r.E xl r.k)) (by kernel_rfl) (by kernel_rfl) (by kernel_rfl) (by kernel_rfl) (fun _ _ _ _ h => h) hH (fun oi hoi => ?_)
          simp only [List.getElem?_toArray, List.getElem?_cons_succ, List.getElem?_cons_zero, Option.some.injEq] at hoi
          subst hoi
          refine ⟨.inl ⟨by rfl, fun w hSw => ?_⟩, ?_⟩
          · obtain ⟨s0, s1⟩ := hSw
            first | (go_simp; done) | (go_simp; with_reducible rfl)
          simp only [Act.put, List.setIfInBounds_toArray, List.set_cons_zero, List.set_cons_succ]
          refine take_lit (i := 8) (v := (.int .i64 (xl : Int))) (by kernel_rfl) (by kernel_rfl) (by kernel_rfl) (by kernel_rfl) (fun _ _ _ _ h => h) hH (fun oi hoi => ?_)
          simp only [List.getElem?_toArray, List.getElem?_cons_succ, List.getElem?_cons_zero, Option.some.injEq] at hoi
          subst hoi
          refine ⟨.inl ⟨by rfl, fun w hSw => ?_⟩, ?_⟩
          · obtain ⟨s0, s1⟩ := hSw
            first | (go_simp; done) | (go_simp; with_reducible rfl)
          simp only [Act.put, List.setIfInBounds_toArray, List.set_cons_zero, List.set_cons_succ]
          refine wpAnyH_ready (rs := [2]) (by kernel_rfl) (by simp) (AllReadyH.cons rfl (fun K hK => ?_) AllReadyH.nil)
          go_simp
          go_wp2_with fail
          refine (HEN.out _ hH.2).mono ?_
          rintro e w6 ⟨rfl, hb6⟩
          refine hK.out _ _ (HCS.out _ (andThen hH.2 hb6)) (fun hH1 => ?_)
          try simp only [Act.put, List.setIfInBounds_toArray, List.set_cons_zero, List.set_cons_succ]
          clear hK K
          refine take_lit (i := 9) (v := (.int .i64 ((a + sp + xl : Nat) : Int))) (by kernel_rfl) (by kernel_rfl) (by kernel_rfl) (by kernel_rfl) (fun _ _ _ _ h => h) hH1 (fun oi hoi => ?_)
          simp only [List.getElem?_toArray, List.getElem?_cons_succ, List.getElem?_cons_zero, Option.some.injEq] at hoi
          subst hoi
          refine ⟨.inl ⟨by rfl, fun w hSw => ?_⟩, ?_⟩
          · obtain ⟨s0, s1⟩ := hSw
            first | (go_simp; done) | (go_simp; with_reducible rfl)
          simp only [Act.put, List.setIfInBounds_toArray, List.set_cons_zero, List.set_cons_succ]
          refine take_lit (i := 10) (v := (.int .i64 ((a + sp + xl : Nat) : Int))) (by kernel_rfl) (by kernel_rfl) (by kernel_rfl) (by kernel_rfl) (fun _ _ _ _ h => h) hH1 (fun oi hoi => ?_)
          simp only [List.getElem?_toArray, List.getElem?_cons_succ, List.getElem?_cons_zero, Option.some.injEq] at hoi
          subst hoi
          refine ⟨.inl ⟨by rfl, fun w hSw => ?_⟩, ?_⟩
          · obtain ⟨s0, s1⟩ := hSw
            first | (go_simp; done) | (go_simp; with_reducible rfl)
          simp only [Act.put, List.setIfInBounds_toArray, List.set_cons_zero, List.set_cons_succ]
          refine wpAnyH_done (by kernel_rfl) ?_ _
          go_wp2_with fail
          go_roundw
          case rel => exact ⟨i + 1, a + sp + xl, by omega, by go_num, rfl, by omega, HNX.out, andThen HB.out hH1.2⟩
          case measure => simp [intOf]; omega
        · obtain rfl : i = m := by omega
          have hrw := HRI.out
          rw [List.drop_of_length_le (by rw [List.length_map, HM.out]; exact Nat.le_refl _)] at hrw
          have hd : L.drop a = [] := hrw
          have hd2 := congrArg List.length hd
          rw [List.length_drop, HLL.out] at hd2
          have hd3 : a = ll := by simp at hd2; omega
          subst hd3
          clear hrw hd hd2
          go_wp2_with fail
          go_ret
          exact ⟨by simp, andThen HB4.out HB.out⟩
    · have q2 : (F != 0) = true := by simp [hF]
      have hL := HNO.out hF
      have hos := HOS4.out
      rw [hL] at hos
      obtain ⟨A9, c9, rfl, _⟩ := SegS.own (S := fun _ => True) hos (fun _ _ => trivial)
      clear hos HOS4
      go_wp2_with (first | (go_at_call 13; refine (num21 _ _).mono ?_; rintro e wz ⟨rfl, rfl⟩) | (go_at_call 14; refine (knows21 _).mono ?_; rintro e w5 ⟨rfl, hb5⟩))
      go_ret
      exact ⟨by simp, HB4.out⟩
  · have q1 : (HdE E0 R != 0) = true := by simp [hE1]
    have hL0 := hd_bad HRG.out hE1
    have hF : ¬ F = 0 := by
      intro h
      obtain ⟨h0, n, hok, _⟩ := HYES.out h
      apply hE1
      unfold HdE
      rw [if_pos h0]
      exact hok.ok
    have hL := HNO.out hF
    have q2 : (F != 0) = true := by simp [hF]
    have hoh := HOH.out
    have hos := HOS.out
    rw [hL0] at hoh
    rw [hL] at hos
    obtain ⟨A8, c8, rfl, _⟩ := SegS.own (S := fun _ => True) hoh (fun _ _ => trivial)
    obtain ⟨A9, c9, rfl, _⟩ := SegS.own (S := fun _ => True) hos (fun _ _ => trivial)
    clear hoh hos HOH HOS hL hF hE1
    generalize HdE E0 R = E1 at *
    go_wp2_with (first | (go_at_call 13; refine (num21 _ _).mono ?_; rintro e wz ⟨rfl, rfl⟩) | (go_at_call 14; refine (knows21 _).mono ?_; rintro e w5 ⟨rfl, hb5⟩))
    go_ret
    exact ⟨rfl, andThen HBW3.out hb5⟩
end Go.Proofs.Ytoboecenlangmaa.Al
end
section
namespace Go.Proofs.Ytoboecenlangmaa.Rd
open Go.ChangeShapes Go.WideShapes Go.RowKit Go.Deep
set_option linter.unusedVariables false

section
variable {H : Type} (enc : TypeId × Value → H) (P : Program) (w : World)
/-- These cells read as this type; all that is read lies in memory that is there, and is within reach. -/
def Rd (t : TypeId) (cs : List Value) : Prop :=
  ∃ (fuel : Nat) (x : DataW H × List MemPlace), DataW.trod enc P w 0 (fun _ => true) true fuel t cs = some x ∧ (∀ p ∈ x.2, p.block < w.heap.size) ∧ ∀ n ∈ x.1.weights P t, n ≤ reachBytes
end

section
variable {H : Type} {enc : TypeId × Value → H} {P : Program} {w : World}
theorem Rd.struct {t : TypeId} {fs : Array Field} {cs : List Value} (ht : P.underlying t = some (.struct fs)) (h : Rd enc P w t cs) :
    cs.length = P.cellsOf t ∧ ∀ (i : Nat) (f : Field), fs[i]? = some f → Rd enc P w f.type ((cs.drop f.offset).take (P.cellsOf f.type)) := by
  obtain ⟨fuel, x, h, hp, hw⟩ := h
  obtain ⟨xs, n, _, rfl, hl, hxl, hat⟩ := DataW.trod_struct ht h
  refine ⟨hl, fun i f hf => ?_⟩
  have h1 := hat i f hf
  have hi : i < xs.length := by
    rw [hxl]
    rcases Nat.lt_or_ge i fs.size with h2 | h2
    · exact h2
    · rw [Array.getElem?_eq_none h2] at hf; cases hf
  rw [List.getElem?_eq_getElem hi] at h1
  refine ⟨n, xs[i], h1, fun p hpp => hp p (List.mem_flatMap.2 ⟨_, List.getElem_mem hi, hpp⟩), fun k hk => ?_⟩
  apply hw
  have e1 : (DataW.agg (xs.map (·.1))).weights P t = DataW.weightsEach P (fs.toList.map (·.type)) (xs.map (·.1)) := by simp [DataW.weights, ht]
  show k ∈ (DataW.agg (xs.map (·.1))).weights P t
  rw [e1]
  exact DataW.weights_mem_each (j := i) (t := f.type) (d := xs[i].1) (by simp [hf]) (by simp [List.getElem?_eq_getElem hi]) k hk
theorem weightsAll_mem {e : TypeId} {d : DataW H} {n : Nat} (hn : n ∈ d.weights P e) : ∀ {l : List (DataW H)}, d ∈ l → n ∈ DataW.weightsAll P e l
  | a :: l, h => by
    simp only [DataW.weightsAll, List.mem_append]
    rcases List.mem_cons.1 h with rfl | h
    · exact .inl hn
    · exact .inr (weightsAll_mem hn h)
/-- A slice: where it lies, and its elements. -/
theorem Rd.slice {t e : TypeId} {cs : List Value} (ht : P.underlying t = some (.slice e)) (h : Rd enc P w t cs) :
    ∃ (A : Option Addr) (c : Nat) (rows : List (List Value)), cs = [.slice A rows.length c] ∧ rows.length ≤ c ∧ c ≤ maxLen ∧ c * P.bytesOf e ≤ reachBytes ∧ Me.Seg w w.heap.size A rows.flatten ∧ (A = none → c = 0) ∧
      ∀ x ∈ rows, x.length = P.cellsOf e ∧ Rd enc P w e x := by
  obtain ⟨fuel, x, hf, hp, hw⟩ := h
  rcases open_slice ht hf with ⟨h0, hx⟩ | ⟨a, len0, m, m', nn, D, Pl, hcs, _, hlc, hcm, hm, hx, hi⟩
  · subst h0
    exact ⟨none, 0, [], rfl, Nat.le_refl _, by simp [maxLen], by simp, .inl rfl, fun _ => rfl, by simp⟩
  · subst hcs
    simp only [if_true] at hm
    subst hm
    subst hx
    have hrow : ∀ i, i < m' → ∃ cs, w.cells? 0 (a.add (i * P.cellsOf e)) (P.cellsOf e) = some cs ∧ Rd enc P w e cs := by
      intro i hil
      obtain ⟨cs, h1, h2⟩ := hi i hil
      refine ⟨cs, h1, nn, _, h2, fun p hpp => hp p (List.mem_append_right _ (List.mem_flatMap.2 ⟨i, List.mem_range.2 hil, hpp⟩)), fun k hk => hw k ?_⟩
      simp only [DataW.weights, ht]
      refine List.mem_cons_of_mem _ (List.mem_append.2 ?_)
      rcases Nat.lt_or_ge i len0 with h3 | h3
      · exact .inl (weightsAll_mem hk (List.mem_map.2 ⟨i, List.mem_range.2 h3, rfl⟩))
      · refine .inr (weightsAll_mem hk (List.mem_map.2 ⟨i - len0, List.mem_range.2 (by omega), ?_⟩))
        show D (len0 + (i - len0)) = D i
        rw [Nat.add_sub_cancel' h3]
    let R : Nat → List Value := fun i => (w.cells? 0 (a.add (i * P.cellsOf e)) (P.cellsOf e)).getD []
    have hR : ∀ i, i < m' → (R i).length = P.cellsOf e ∧ Rd enc P w e (R i) ∧ ∀ j, j < P.cellsOf e → w.cell? ((a.add (i * P.cellsOf e)).add j) = (R i)[j]? := by
      intro i hil
      obtain ⟨cs, h1, h2⟩ := hrow i hil
      have e1 : R i = cs := by simp [R, h1]
      rw [e1]
      exact ⟨(World.cells?_some h1).2.1, h2, (World.cells?_some h1).2.2⟩
    have hlen : ∀ i, i < len0 → (R i).length = P.cellsOf e := fun i hil => (hR i (by omega)).1
    refine ⟨some a, m', (List.range len0).map R, by simp, by simpa using hlc, hcm, ?_, ?_, (by intro hh; cases hh), ?_⟩
    · have h5 := hw ((((List.range len0).map D).length + ((List.range (m' - len0)).map fun j => D (len0 + j)).length) * P.bytesOf e) (by simp [DataW.weights, ht])
      simp only [List.length_map, List.length_range] at h5
      rwa [show len0 + (m' - len0) = m' by omega] at h5
    · by_cases hz : ((List.range len0).map R).flatten = []
      · exact .inl hz
      · have hpos : 0 < len0 * P.cellsOf e := by
          rcases Nat.eq_zero_or_pos (len0 * P.cellsOf e) with h1 | h1
          · exfalso
            apply hz
            rw [List.flatten_eq_nil_iff]
            intro l hl'
            obtain ⟨i, hi', rfl⟩ := List.mem_map.1 hl'
            have hil := List.mem_range.1 hi'
            have h2 := hlen i hil
            rcases Nat.mul_eq_zero.1 h1 with h3 | h3
            · omega
            · rw [h3] at h2; exact List.eq_nil_of_length_eq_zero h2
          · exact h1
        have hlen0 : 0 < len0 := Nat.pos_of_mul_pos_right hpos
        have hce : 0 < P.cellsOf e := Nat.pos_of_mul_pos_left hpos
        have hcell0 : ∃ u, w.cell? a = some u := by
          obtain ⟨h1, _, h2⟩ := hR 0 (by omega)
          have h3 := h2 0 hce
          have h4 : (a.add (0 * P.cellsOf e)).add 0 = a := by simp [Addr.add]
          rw [h4] at h3
          refine ⟨_, h3.trans (List.getElem?_eq_getElem (by rw [hlen 0 hlen0]; exact hce))⟩
        obtain ⟨u0, hu0⟩ := hcell0
        have hspot : a.spot = none := World.cell?_spot hu0
        obtain ⟨b, off, sp⟩ := a
        simp only at hspot
        subst hspot
        refine .inr ⟨b, off, rfl, ?_, ?_⟩
        · have hm0 : 0 < m' * P.cellsOf e := Nat.mul_pos (by omega) hce
          exact hp (.cell b off) (List.mem_append_left _ (List.mem_map.2 ⟨0, List.mem_range.2 hm0, rfl⟩))
        · intro j u hu
          have hall : ∀ (k : Nat) (l : List Nat), (∀ i ∈ l, i < len0) → ∀ j u, ((l.map R).flatten)[j]? = some u → ∃ i q, l[i]? ≠ none ∧ j = i * P.cellsOf e + q ∧ q < P.cellsOf e ∧ ∃ z, l[i]? = some z ∧ (R z)[q]? = some u := by
            intro k l
            induction l with
            | nil => intro _ j u h; simp at h
            | cons z l ih =>
              intro hl' j u h
              simp only [List.map_cons, List.flatten_cons] at h
              have hz1 := hlen z (hl' z (by simp))
              rcases Nat.lt_or_ge j (P.cellsOf e) with hj | hj
              · rw [List.getElem?_append_left (by omega)] at h
                exact ⟨0, j, by simp, by omega, hj, z, by simp, h⟩
              · rw [List.getElem?_append_right (by omega), hz1] at h
                obtain ⟨i, q, h1, h2, h3, y, h4, h5⟩ := ih (fun i hi' => hl' i (by simp [hi'])) _ _ h
                refine ⟨i + 1, q, by simpa using h1, ?_, h3, y, by simpa using h4, h5⟩
                rw [Nat.add_mul]; omega
          obtain ⟨i, q, _, hj, hq, z, hz1, hz2⟩ := hall 0 (List.range len0) (fun i hi' => List.mem_range.1 hi') j u hu
          have hzi : z = i ∧ i < len0 := by
            have hil : i < len0 := by
              rcases Nat.lt_or_ge i len0 with h1 | h1
              · exact h1
              · rw [List.getElem?_eq_none (by simpa using h1)] at hz1; cases hz1
            rw [List.getElem?_range hil] at hz1
            injection hz1 with hz1
            exact ⟨hz1.symm, hil⟩
          obtain ⟨rfl, hil⟩ := hzi
          have h6 := (hR z (by omega)).2.2 q hq
          rw [hz2] at h6
          rw [← h6, hj]
          congr 1
          unfold Addr.add
          by_cases h7 : z * P.cellsOf e = 0 <;> by_cases h8 : q = 0 <;> simp [h7, h8, Nat.add_assoc]
    · intro x hx
      obtain ⟨i, hi', rfl⟩ := List.mem_map.1 hx
      have := hR i (by have := List.mem_range.1 hi'; omega)
      exact ⟨this.1, this.2.1⟩
theorem Rd.int {t : TypeId} {k : IntKind} {cs : List Value} (hu : P.underlying t = some (.int k)) (h : Rd enc P w t cs) : ∃ z : Int, cs = [.int k z] ∧ (Lit.int k z).wf = true := by
  obtain ⟨fuel, x, h, _, _⟩ := h
  obtain ⟨z, h1, _, h2⟩ := DataW.trod_int hu h
  exact ⟨z, h1, h2⟩
/-- An argument. -/
theorem Rd.arg {ts : List TypeId} {ds : List (DataW H)} {j : Nat} {t : TypeId} {v : Value} {d : DataW H} {ps : List MemPlace} (h : DataW.Trod enc P w 0 (fun _ => true) true t v d ps) (hlt : ∀ x ∈ ps, x.block < w.heap.size)
    (hsz : (DataW.weightsEach P ts ds).all (· ≤ reachBytes) = true) (ht : ts[j]? = some t) (hd : ds[j]? = some d) : Rd enc P w t v.cells.toList := by
  obtain ⟨fuel, hf⟩ := h
  exact ⟨fuel, _, hf, hlt, fun n hn => by simpa using List.all_eq_true.1 hsz _ (DataW.weights_mem_each ht hd n hn)⟩
end
end Go.Proofs.Ytoboecenlangmaa.Rd
end
section
namespace Go.Proofs.Ytoboecenlangmaa.Le
open Go.ChangeShapes Go.WideShapes Go.RowKit Go.Deep

/-- The types of a type's cells. -/
def lv (P : Program) : Nat → TypeId → List TypeId
  | 0, t => [t]
  | n + 1, t => match P.underlying t with
    | some (.struct fs) => fs.toList.flatMap fun f => lv P n f.type
    | some (.array k e) => (List.replicate k (lv P n e)).flatten
    | _ => [t]

/-- The cells' types are where the type's own table says. -/
def good (P : Program) : Nat → TypeId → Bool
  | 0, t => P.cellsOf t == 1
  | n + 1, t => match P.underlying t with
    | some (.struct fs) => (P.cellsOf t == (lv P (n + 1) t).length) && fs.toList.all (fun f => good P n f.type) &&
        (List.range (lv P (n + 1) t).length).all fun i => (List.range fs.size).any fun j => match fs[j]? with
          | some f => decide (f.offset ≤ i) && decide (i < f.offset + P.cellsOf f.type) && decide (f.offset + P.cellsOf f.type ≤ P.cellsOf t) && decide ((lv P n f.type)[i - f.offset]? = (lv P (n + 1) t)[i]?)
          | none => false
    | some (.array k e) => (P.cellsOf t == (lv P (n + 1) t).length) && good P n e &&
        (List.range (lv P (n + 1) t).length).all fun i => (List.range k).any fun j => decide (j * P.cellsOf e ≤ i) && decide (i < j * P.cellsOf e + P.cellsOf e) && decide (j * P.cellsOf e + P.cellsOf e ≤ P.cellsOf t) && decide ((lv P n e)[i - j * P.cellsOf e]? = (lv P (n + 1) t)[i]?)
    | _ => P.cellsOf t == 1

section
variable {H : Type} {enc : TypeId × Value → H} {P : Program} {w : World} {base : Nat} {spare : Nat → Bool} {held : Bool}

theorem slice_get {cs : List Value} {o c i : Nat} (h0 : o ≤ i) (h1 : i < o + c) : ((cs.drop o).take c)[i - o]? = cs[i]? := by
  rw [List.getElem?_take, if_pos (by omega), List.getElem?_drop]
  congr 1
  omega

/-- Each cell reads as its leaf's type. -/
theorem leaves : ∀ (n : Nat) {t : TypeId} {fuel : Nat} {cs : List Value} {x : DataW H × List MemPlace}, good P n t = true → cs.length = P.cellsOf t → DataW.trod enc P w base spare held fuel t cs = some x →
    ∀ (i : Nat) (u : TypeId), (lv P n t)[i]? = some u → ∃ (v : Value) (m : Nat) (y : DataW H × List MemPlace), cs[i]? = some v ∧ DataW.trod enc P w base spare held m u [v] = some y
  | 0, t, fuel, cs, x, hg, hl, h, i, u, hu => by
    simp only [lv] at hu
    match i, hu with
    | 0, hu =>
      simp at hu
      subst hu
      unfold good at hg
      rw [beq_iff_eq] at hg
      rw [hg] at hl
      match cs, hl with
      | [v], _ => exact ⟨v, fuel, x, rfl, h⟩
    | i + 1, hu => simp at hu
  | n + 1, t, fuel, cs, x, hg, hl, h, i, u, hu => by
    have hilt : i < (lv P (n + 1) t).length := by
      rcases Nat.lt_or_ge i (lv P (n + 1) t).length with h1 | h1
      · exact h1
      · rw [List.getElem?_eq_none h1] at hu; cases hu
    unfold good at hg
    split at hg
    · rename_i fs hfs
      simp only [Bool.and_eq_true, List.all_eq_true] at hg
      obtain ⟨⟨_, hgf⟩, hcov⟩ := hg
      have hc := hcov i (List.mem_range.2 hilt)
      simp only [List.any_eq_true] at hc
      obtain ⟨j, hj, hc⟩ := hc
      split at hc
      · rename_i f hf
        simp only [Bool.and_eq_true, decide_eq_true_eq] at hc
        obtain ⟨⟨⟨h1, h2⟩, h4⟩, h3⟩ := hc
        obtain ⟨xs, n', _, _, hcl, hxl, hat⟩ := DataW.trod_struct hfs h
        have hjl : j < fs.size := by
          rcases Nat.lt_or_ge j fs.size with hh | hh
          · exact hh
          · rw [Array.getElem?_eq_none hh] at hf; cases hf
        have hxj : xs[j]? = some (xs[j]'(by omega)) := List.getElem?_eq_getElem (by omega)
        have ht := (hat j f hf).trans hxj
        have hmem : f ∈ fs.toList := by
          have := Array.mem_of_getElem? hf
          simpa using this
        have hlen : ((cs.drop f.offset).take (P.cellsOf f.type)).length = P.cellsOf f.type := by
          rw [List.length_take, List.length_drop]
          omega
        obtain ⟨v, m, y, hv, hy⟩ := leaves n (hgf f hmem) hlen ht (i - f.offset) u (by rw [h3]; exact hu)
        exact ⟨v, m, y, by rw [← slice_get h1 h2]; exact hv, hy⟩
      · cases hc
    · rename_i k e he
      simp only [Bool.and_eq_true, List.all_eq_true] at hg
      obtain ⟨⟨_, hge⟩, hcov⟩ := hg
      have hc := hcov i (List.mem_range.2 hilt)
      simp only [List.any_eq_true, List.mem_range, Bool.and_eq_true, decide_eq_true_eq] at hc
      obtain ⟨j, hj, ⟨⟨h1, h2⟩, h4⟩, h3⟩ := hc
      obtain ⟨xs, n', _, _, hcl, hxl, hat⟩ := DataW.trod_array he h
      have hxj : xs[j]? = some (xs[j]'(by omega)) := List.getElem?_eq_getElem (by omega)
      have ht := (hat j hj).trans hxj
      have hlen : ((cs.drop (j * P.cellsOf e)).take (P.cellsOf e)).length = P.cellsOf e := by
        rw [List.length_take, List.length_drop]
        omega
      obtain ⟨v, m, y, hv, hy⟩ := leaves n hge hlen ht (i - j * P.cellsOf e) u (by rw [h3]; exact hu)
      exact ⟨v, m, y, by rw [← slice_get h1 h2]; exact hv, hy⟩
    · rename_i hns hna
      have hlv : lv P (n + 1) t = [t] := by
        unfold lv
        split
        · rename_i fs hfs; exact absurd hfs (hns fs)
        · rename_i k e he; exact absurd he (hna k e)
        · rfl
      rw [hlv] at hu
      match i, hu with
      | 0, hu =>
        simp at hu
        subst hu
        rw [beq_iff_eq] at hg
        rw [hg] at hl
        match cs, hl with
        | [v], _ => exact ⟨v, fuel, x, rfl, h⟩
      | i + 1, hu => simp at hu
end

section
variable {H : Type} {enc : TypeId × Value → H} {P : Program} {w : World} {base : Nat} {spare : Nat → Bool} {held : Bool}

/-- What is known of a row of cells of type t. -/
def Cells (enc : TypeId × Value → H) (P : Program) (w : World) (base : Nat) (spare : Nat → Bool) (held : Bool) (ls : List TypeId) (cs : List Value) : Prop :=
  cs.length = ls.length ∧ ∀ (i : Nat) (u : TypeId), ls[i]? = some u → ∃ (v : Value) (m : Nat) (y : DataW H × List MemPlace), cs[i]? = some v ∧ DataW.trod enc P w base spare held m u [v] = some y

/-- A struct that comes by value. -/
theorem open_flat {r : Reach} {b0 : Nat} {t : TypeId} {fs : Array Field} {v : Value} {d : DataW H} {ps : List MemPlace} (n : Nat) (ls : List TypeId) (hs : P.underlying t = some (.struct fs)) (hg : good P n t = true) (hl : lv P n t = ls) (hc : P.cellsOf t = ls.length)
    (hv : Value.okWide P w r b0 t v) (h : DataW.Trod enc P w base spare held t v d ps) : ∃ cs : List Value, v = .agg cs.toArray ∧ Cells enc P w base spare held ls cs := by
  obtain ⟨cs, rfl, hsz⟩ := okWide_struct hs hv
  obtain ⟨fuel, hf⟩ := h
  refine ⟨cs.toList, by simp, by simp [hsz, hc], fun i u hu => ?_⟩
  exact leaves n hg (by simp [hsz]) (by simpa [Value.cells] using hf) i u (by rw [hl]; exact hu)

/-- A slice that comes in: where it lies, and its elements' cells. -/
theorem open_rows0 {r : Reach} {b0 : Nat} {t e : TypeId} {v : Value} {d : DataW H} {ps : List MemPlace} (n : Nat) (ls : List TypeId) (ht : P.underlying t = some (.slice e)) (hg : good P n e = true) (hl : lv P n e = ls) (hc : P.cellsOf e = ls.length)
    (hv : Value.okWide P w r b0 t v) (h : DataW.Trod enc P w base (fun _ => true) held t v d ps) (hlt : ∀ x ∈ ps, x.block < w.heap.size) :
    ∃ (A : Option Addr) (c : Nat) (rows : List (List Value)), v = .slice A rows.length c ∧ rows.length ≤ c ∧ c ≤ maxLen ∧ (∀ cs ∈ rows, Cells enc P w base (fun _ => true) held ls cs) ∧ Me.Seg w w.heap.size A rows.flatten ∧ (A = none → c = 0) ∧
      (∃ es sp : List (DataW H), (d = .slice es sp ∧ es.length = rows.length ∧ es.length + sp.length = c) ∨ (d = .nil ∧ rows = [] ∧ c = 0)) := by
  obtain ⟨fuel, hf⟩ := h
  obtain ⟨a0, len0, cap0, rfl⟩ := okWide_slice ht hv
  rw [show Value.cells (.slice a0 len0 cap0) = #[.slice a0 len0 cap0] from rfl] at hf
  rcases open_slice ht hf with ⟨h0, hx⟩ | ⟨a, len, cap, m, nn, D, Pl, hcs, _, hlc, hcm, hm, hx, hi⟩
  · simp at h0
    obtain ⟨rfl, rfl, rfl⟩ := h0
    simp only [Prod.mk.injEq] at hx
    exact ⟨none, 0, [], rfl, Nat.le_refl _, by simp [maxLen], by simp, .inl rfl, fun _ => rfl, [], [], .inr ⟨hx.1, rfl, rfl⟩⟩
  · simp at hcs
    obtain ⟨rfl, rfl, rfl⟩ := hcs
    simp only [if_true] at hm
    subst hm
    simp only [Prod.mk.injEq] at hx
    obtain ⟨hd, hps⟩ := hx
    have hrow : ∀ i, i < len0 → ∃ cs, w.cells? base (a.add (i * P.cellsOf e)) (P.cellsOf e) = some cs ∧ Cells enc P w base (fun _ => true) held ls cs := by
      intro i hil
      obtain ⟨cs, h1, h2⟩ := hi i (by omega)
      obtain ⟨_, h3, _⟩ := World.cells?_some h1
      exact ⟨cs, h1, by rw [h3, hc], fun j u hu => leaves n hg h3 h2 j u (by rw [hl]; exact hu)⟩
    let R : Nat → List Value := fun i => (w.cells? base (a.add (i * P.cellsOf e)) (P.cellsOf e)).getD []
    have hR : ∀ i, i < len0 → Cells enc P w base (fun _ => true) held ls (R i) ∧ ∀ j, j < P.cellsOf e → w.cell? ((a.add (i * P.cellsOf e)).add j) = (R i)[j]? := by
      intro i hil
      obtain ⟨cs, h1, h2⟩ := hrow i hil
      have e1 : R i = cs := by simp [R, h1]
      rw [e1]
      exact ⟨h2, (World.cells?_some h1).2.2⟩
    have hlen : ∀ i, i < len0 → (R i).length = P.cellsOf e := fun i hil => by rw [hc]; exact (hR i hil).1.1
    refine ⟨some a, m, (List.range len0).map R, by simp, by simpa using hlc, hcm, ?_, ?_, (by intro hh; cases hh), (List.range len0).map D, (List.range (m - len0)).map fun j => D (len0 + j), .inl ⟨hd, by simp, by simp; omega⟩⟩
    · intro cs hcs
      obtain ⟨i, hi', rfl⟩ := List.mem_map.1 hcs
      exact (hR i (List.mem_range.1 hi')).1
    · by_cases hz : ((List.range len0).map R).flatten = []
      · exact .inl hz
      · have hpos : 0 < len0 * P.cellsOf e := by
          rcases Nat.eq_zero_or_pos (len0 * P.cellsOf e) with h1 | h1
          · exfalso
            apply hz
            rw [List.flatten_eq_nil_iff]
            intro l hl'
            obtain ⟨i, hi', rfl⟩ := List.mem_map.1 hl'
            have hil := List.mem_range.1 hi'
            have h2 := hlen i hil
            rcases Nat.mul_eq_zero.1 h1 with h3 | h3
            · omega
            · rw [h3] at h2; exact List.eq_nil_of_length_eq_zero h2
          · exact h1
        have hlen0 : 0 < len0 := Nat.pos_of_mul_pos_right hpos
        have hce : 0 < P.cellsOf e := Nat.pos_of_mul_pos_left hpos
        have hcell0 : ∃ u, w.cell? a = some u := by
          obtain ⟨h1, h2⟩ := hR 0 hlen0
          have h3 := h2 0 hce
          have h4 : (a.add (0 * P.cellsOf e)).add 0 = a := by simp [Addr.add]
          rw [h4] at h3
          refine ⟨_, h3.trans (List.getElem?_eq_getElem (by rw [hlen 0 hlen0]; exact hce))⟩
        obtain ⟨u0, hu0⟩ := hcell0
        have hspot : a.spot = none := World.cell?_spot hu0
        obtain ⟨b, off, sp⟩ := a
        simp only at hspot
        subst hspot
        refine .inr ⟨b, off, rfl, ?_, ?_⟩
        · have hm0 := Nat.mul_le_mul_right (P.cellsOf e) hlc
          have := hlt (.cell b off) (by rw [hps]; exact List.mem_append_left _ (List.mem_map.2 ⟨0, List.mem_range.2 (by omega), rfl⟩))
          exact this
        · intro j u hu
          have hall : ∀ (k : Nat) (l : List Nat), (∀ i ∈ l, i < len0) → ∀ j u, ((l.map R).flatten)[j]? = some u → ∃ i q, l[i]? ≠ none ∧ j = i * P.cellsOf e + q ∧ q < P.cellsOf e ∧ ∃ z, l[i]? = some z ∧ (R z)[q]? = some u := by
            intro k l
            induction l with
            | nil => intro _ j u h; simp at h
            | cons z l ih =>
              intro hl' j u h
              simp only [List.map_cons, List.flatten_cons] at h
              have hz1 := hlen z (hl' z (by simp))
              rcases Nat.lt_or_ge j (P.cellsOf e) with hj | hj
              · rw [List.getElem?_append_left (by omega)] at h
                exact ⟨0, j, by simp, by omega, hj, z, by simp, h⟩
              · rw [List.getElem?_append_right (by omega), hz1] at h
                obtain ⟨i, q, h1, h2, h3, y, h4, h5⟩ := ih (fun i hi' => hl' i (by simp [hi'])) _ _ h
                refine ⟨i + 1, q, by simpa using h1, ?_, h3, y, by simpa using h4, h5⟩
                rw [Nat.add_mul]; omega
          obtain ⟨i, q, _, hj, hq, z, hz1, hz2⟩ := hall 0 (List.range len0) (fun i hi' => List.mem_range.1 hi') j u hu
          have hzi : z = i ∧ i < len0 := by
            have hil : i < len0 := by
              rcases Nat.lt_or_ge i len0 with h1 | h1
              · exact h1
              · rw [List.getElem?_eq_none (by simpa using h1)] at hz1; cases hz1
            rw [List.getElem?_range hil] at hz1
            injection hz1 with hz1
            exact ⟨hz1.symm, hil⟩
          obtain ⟨rfl, hil⟩ := hzi
          have h6 := (hR z hil).2 q hq
          rw [hz2] at h6
          rw [← h6, hj]
          congr 1
          unfold Addr.add
          by_cases h7 : z * P.cellsOf e = 0 <;> by_cases h8 : q = 0 <;> simp [h7, h8, Nat.add_assoc]
theorem open_rows {r : Reach} {b0 : Nat} {t e : TypeId} {v : Value} {d : DataW H} {ps : List MemPlace} (n : Nat) (ls : List TypeId) (ht : P.underlying t = some (.slice e)) (hg : good P n e = true) (hl : lv P n e = ls) (hc : P.cellsOf e = ls.length)
    (hv : Value.okWide P w r b0 t v) (h : DataW.Trod enc P w base (fun _ => true) held t v d ps) (hlt : ∀ x ∈ ps, x.block < w.heap.size) :
    ∃ (A : Option Addr) (c : Nat) (rows : List (List Value)), v = .slice A rows.length c ∧ rows.length ≤ c ∧ c ≤ maxLen ∧ (∀ cs ∈ rows, Cells enc P w base (fun _ => true) held ls cs) ∧ Me.Seg w w.heap.size A rows.flatten ∧
      (∃ es sp : List (DataW H), (d = .slice es sp ∧ es.length = rows.length ∧ es.length + sp.length = c) ∨ (d = .nil ∧ rows = [] ∧ c = 0)) := by
  obtain ⟨A, c, rows, h1, h2, h3, h4, h5, _, h6⟩ := open_rows0 n ls ht hg hl hc hv h hlt
  exact ⟨A, c, rows, h1, h2, h3, h4, h5, h6⟩
end

section
variable {H : Type} {enc : TypeId × Value → H} {P : Program} {w : World} {base : Nat} {spare : Nat → Bool} {held : Bool}
/-- Cells that are all integers of one kind. -/
theorem cells_ints {ti : TypeId} {k : IntKind} (hu : P.underlying ti = some (.int k)) : ∀ {n : Nat} {cs : List Value}, Cells enc P w base spare held (List.replicate n ti) cs →
    ∃ zs : List Int, zs.length = n ∧ cs = zs.map (Value.int k) ∧ ∀ z ∈ zs, (Lit.int k z).wf = true
  | 0, cs, h => ⟨[], rfl, by simpa using h.1, by simp⟩
  | n + 1, cs, h => by
    obtain ⟨hl, hc⟩ := h
    match cs, hl with
    | c :: cs, hl =>
      obtain ⟨v, m, y, hv, hy⟩ := hc 0 ti (by simp [List.replicate_succ])
      simp at hv
      subst hv
      obtain ⟨z, hz, _, hw⟩ := DataW.trod_int hu hy
      simp at hz
      subst hz
      obtain ⟨zs, h1, h2, h3⟩ := cells_ints hu (n := n) (cs := cs) ⟨by simpa [List.replicate_succ] using hl, fun i u hi => by
        obtain ⟨v, m, y, hv, hy⟩ := hc (i + 1) u (by simpa [List.replicate_succ] using hi)
        exact ⟨v, m, y, by simpa using hv, hy⟩⟩
      exact ⟨z :: zs, by simp [h1], by simp [h2], by
        intro x hx
        rcases List.mem_cons.1 hx with rfl | hx
        · exact hw
        · exact h3 x hx⟩
theorem wf_bd {z : Int} (h : (Lit.int .i64 z).wf = true) : -9223372036854775808 ≤ z ∧ z ≤ 9223372036854775807 := by
  simp [Lit.wf, IntKind.min, IntKind.max, IntKind.signed, IntKind.bits] at h
  omega
end
end Go.Proofs.Ytoboecenlangmaa.Le
end
section
namespace Go.Proofs.Ytoboecenlangmaa.No
open Go.ChangeShapes Go.WideShapes Go.ChangeAt Go.RowKit
open Me Np
set_option linter.unusedVariables false

def leafs : List TypeId := [3, 3, 5, 3, 3, 3, 3, 3, 3, 3, 3, 3, 3, 3, 3, 3, 3, 3, 9]
theorem node_of {H : Type} {enc : TypeId × Value → H} {w : World} {base : Nat} {spare : Nat → Bool} {held : Bool} {cs : List Value} (h : Le.Cells enc Try.prog w base spare held leafs cs) : ∃ n : Nd, cs = ncs n := by
  obtain ⟨hl, hc⟩ := h
  have hl : cs.length = 19 := hl
  obtain ⟨v0, m0, y0, e0, t0⟩ := hc 0 3 rfl
  obtain ⟨z0, g0, _⟩ := DataW.trod_int Try.underlying3 t0
  simp only [List.cons.injEq, and_true] at g0
  subst g0
  obtain ⟨v1, m1, y1, e1, t1⟩ := hc 1 3 rfl
  obtain ⟨z1, g1, _⟩ := DataW.trod_int Try.underlying3 t1
  simp only [List.cons.injEq, and_true] at g1
  subst g1
  obtain ⟨v2, m2, y2, e2, t2⟩ := hc 2 5 rfl
  obtain ⟨z2, g2, _⟩ := DataW.trod_int Try.underlying5 t2
  simp only [List.cons.injEq, and_true] at g2
  subst g2
  obtain ⟨v3, m3, y3, e3, t3⟩ := hc 3 3 rfl
  obtain ⟨z3, g3, _⟩ := DataW.trod_int Try.underlying3 t3
  simp only [List.cons.injEq, and_true] at g3
  subst g3
  obtain ⟨v4, m4, y4, e4, t4⟩ := hc 4 3 rfl
  obtain ⟨z4, g4, _⟩ := DataW.trod_int Try.underlying3 t4
  simp only [List.cons.injEq, and_true] at g4
  subst g4
  obtain ⟨v5, m5, y5, e5, t5⟩ := hc 5 3 rfl
  obtain ⟨z5, g5, _⟩ := DataW.trod_int Try.underlying3 t5
  simp only [List.cons.injEq, and_true] at g5
  subst g5
  obtain ⟨v6, m6, y6, e6, t6⟩ := hc 6 3 rfl
  obtain ⟨z6, g6, _⟩ := DataW.trod_int Try.underlying3 t6
  simp only [List.cons.injEq, and_true] at g6
  subst g6
  obtain ⟨v7, m7, y7, e7, t7⟩ := hc 7 3 rfl
  obtain ⟨z7, g7, _⟩ := DataW.trod_int Try.underlying3 t7
  simp only [List.cons.injEq, and_true] at g7
  subst g7
  obtain ⟨v8, m8, y8, e8, t8⟩ := hc 8 3 rfl
  obtain ⟨z8, g8, _⟩ := DataW.trod_int Try.underlying3 t8
  simp only [List.cons.injEq, and_true] at g8
  subst g8
  obtain ⟨v9, m9, y9, e9, t9⟩ := hc 9 3 rfl
  obtain ⟨z9, g9, _⟩ := DataW.trod_int Try.underlying3 t9
  simp only [List.cons.injEq, and_true] at g9
  subst g9
  obtain ⟨v10, m10, y10, e10, t10⟩ := hc 10 3 rfl
  obtain ⟨z10, g10, _⟩ := DataW.trod_int Try.underlying3 t10
  simp only [List.cons.injEq, and_true] at g10
  subst g10
  obtain ⟨v11, m11, y11, e11, t11⟩ := hc 11 3 rfl
  obtain ⟨z11, g11, _⟩ := DataW.trod_int Try.underlying3 t11
  simp only [List.cons.injEq, and_true] at g11
  subst g11
  obtain ⟨v12, m12, y12, e12, t12⟩ := hc 12 3 rfl
  obtain ⟨z12, g12, _⟩ := DataW.trod_int Try.underlying3 t12
  simp only [List.cons.injEq, and_true] at g12
  subst g12
  obtain ⟨v13, m13, y13, e13, t13⟩ := hc 13 3 rfl
  obtain ⟨z13, g13, _⟩ := DataW.trod_int Try.underlying3 t13
  simp only [List.cons.injEq, and_true] at g13
  subst g13
  obtain ⟨v14, m14, y14, e14, t14⟩ := hc 14 3 rfl
  obtain ⟨z14, g14, _⟩ := DataW.trod_int Try.underlying3 t14
  simp only [List.cons.injEq, and_true] at g14
  subst g14
  obtain ⟨v15, m15, y15, e15, t15⟩ := hc 15 3 rfl
  obtain ⟨z15, g15, _⟩ := DataW.trod_int Try.underlying3 t15
  simp only [List.cons.injEq, and_true] at g15
  subst g15
  obtain ⟨v16, m16, y16, e16, t16⟩ := hc 16 3 rfl
  obtain ⟨z16, g16, _⟩ := DataW.trod_int Try.underlying3 t16
  simp only [List.cons.injEq, and_true] at g16
  subst g16
  obtain ⟨v17, m17, y17, e17, t17⟩ := hc 17 3 rfl
  obtain ⟨z17, g17, _⟩ := DataW.trod_int Try.underlying3 t17
  simp only [List.cons.injEq, and_true] at g17
  subst g17
  obtain ⟨v18, m18, y18, e18, t18⟩ := hc 18 9 rfl
  obtain ⟨z18, g18, _⟩ := DataW.trod_string Try.underlying9 t18
  simp only [List.cons.injEq, and_true] at g18
  subst g18
  refine ⟨⟨z0, z1, z2, z3, z4, z5, z6, z7, z8, z9, z10, z11, z12, z13, z14, z15, z16, z17, z18⟩, ?_⟩
  apply List.ext_getElem?
  intro i
  match i with
  | 0 => exact e0
  | 1 => exact e1
  | 2 => exact e2
  | 3 => exact e3
  | 4 => exact e4
  | 5 => exact e5
  | 6 => exact e6
  | 7 => exact e7
  | 8 => exact e8
  | 9 => exact e9
  | 10 => exact e10
  | 11 => exact e11
  | 12 => exact e12
  | 13 => exact e13
  | 14 => exact e14
  | 15 => exact e15
  | 16 => exact e16
  | 17 => exact e17
  | 18 => exact e18
  | i + 19 =>
    rw [List.getElem?_eq_none (by omega), List.getElem?_eq_none (by rw [ncs_length]; omega)]
theorem nodes_of {H : Type} {enc : TypeId × Value → H} {w : World} {base : Nat} {spare : Nat → Bool} {held : Bool} : ∀ {rows : List (List Value)}, (∀ cs ∈ rows, Le.Cells enc Try.prog w base spare held leafs cs) → ∃ l : List Nd, l.length = rows.length ∧ rows.flatten = l.flatMap ncs
  | [], _ => ⟨[], rfl, rfl⟩
  | cs :: rows, h => by
    obtain ⟨n, hn⟩ := node_of (h cs (by simp))
    obtain ⟨l, h1, h2⟩ := nodes_of (rows := rows) (fun c hc => h c (by simp [hc]))
    exact ⟨n :: l, by simp [h1], by simp [hn, h2]⟩
theorem bytes_node : Try.prog.bytesOf 54 = 160 := by kernel_rfl
end Go.Proofs.Ytoboecenlangmaa.No
end
section
namespace Go.Proofs.Ytoboecenlangmaa.Al
open Go.ChangeShapes Go.WideShapes Go.RowKit
open Me Np No
open Gl (G Row)
open Rd (Rd)
set_option linter.unusedVariables false

section
variable {H : Type} {enc : TypeId × Value → H} {w : World}
theorem cells_of {t : TypeId} {ls : List TypeId} {cs : List Value} (h : Rd enc Try.prog w t cs) (hg : Le.good Try.prog 8 t = true) (hl : Le.lv Try.prog 8 t = ls) (hc : Try.prog.cellsOf t = ls.length) (hn : cs.length = Try.prog.cellsOf t) : Le.Cells enc Try.prog w 0 (fun _ => true) true ls cs := by
  obtain ⟨fuel, x, hf, _⟩ := h
  exact ⟨by rw [hn, hc], fun i u hu => Le.leaves 8 hg hn hf i u (by rw [hl]; exact hu)⟩
theorem list_in {v : Value} (h : Rd enc Try.prog w 34 [v]) : ∃ (A : Option Addr) (c : Nat) (l : List Nd), v = .slice A l.length c ∧ LsOk w (fun _ => True) A c l := by
  obtain ⟨A, c, rows, hv, hc, _, hby, hs, hz, hr⟩ := h.slice Try.underlying34
  rw [No.bytes_node] at hby
  simp only [reachBytes] at hby
  have hce : Try.prog.cellsOf 54 = 19 := by kernel_rfl
  obtain ⟨l, hl1, hl2⟩ := No.nodes_of (rows := rows) (fun x hx => cells_of (hr x hx).2 (by kernel_rfl) (by kernel_rfl) (by rw [hce]; rfl) (hr x hx).1)
  injection hv with hv _
  refine ⟨A, c, l, by rw [hv, hl1], ⟨by rw [hl1]; exact hc, by omega, hz, ?_⟩⟩
  rw [hl2] at hs
  exact SegS.of hs (Nat.le_refl _) fun _ _ => trivial
theorem take_one {cs : List Value} {i n : Nat} {v : Value} (h : cs[i]? = some v) (hn : n = 1) : (cs.drop i).take n = [v] := by
  subst hn
  have hlt : i < cs.length := by
    rcases Nat.lt_or_ge i cs.length with h1 | h1
    · exact h1
    · rw [List.getElem?_eq_none h1] at h; cases h
  rw [List.drop_eq_getElem_cons hlt, List.take_succ_cons, List.take_zero]
  rw [List.getElem?_eq_getElem hlt] at h
  injection h with h
  rw [h]
theorem one_int : Try.prog.cellsOf 3 = 1 := by kernel_rfl
theorem one_nodes : Try.prog.cellsOf 34 = 1 := by kernel_rfl
theorem one_cells : Try.prog.cellsOf 76 = 1 := by kernel_rfl
theorem cell_in {cs : List Value} (hl : cs.length = 2) (h : Rd enc Try.prog w 79 cs) : ∃ x : Cl, cs = x.vals ∧ LsOk w (fun _ => True) x.A x.c x.l := by
  match cs, hl with
  | [v0, v1], _ =>
    obtain ⟨_, hf⟩ := h.struct Try.underlying79
    have h0 : Rd enc Try.prog w 34 (([v0, v1].drop 0).take (Try.prog.cellsOf 34)) := hf 0 _ rfl
    have h1 : Rd enc Try.prog w 3 (([v0, v1].drop 1).take (Try.prog.cellsOf 3)) := hf 1 _ rfl
    rw [take_one (v := v0) rfl one_nodes] at h0
    rw [take_one (v := v1) rfl one_int] at h1
    obtain ⟨A, c, l, rfl, hls⟩ := list_in h0
    obtain ⟨z, hz, _⟩ := h1.int Try.underlying3
    injection hz with hz _
    subst hz
    exact ⟨⟨A, c, l, z⟩, rfl, hls⟩
theorem cells_in : ∀ {rows : List (List Value)}, (∀ x ∈ rows, x.length = 2 ∧ Rd enc Try.prog w 79 x) → ∃ l : List Cl, l.length = rows.length ∧ rows.flatten = l.flatMap Cl.vals ∧ ∀ x ∈ l, LsOk w (fun _ => True) x.A x.c x.l
  | [], _ => ⟨[], rfl, rfl, by simp⟩
  | r :: rows, h => by
    obtain ⟨x, hx, hk⟩ := cell_in (h r (by simp)).1 (h r (by simp)).2
    obtain ⟨l, h1, h2, h3⟩ := cells_in (rows := rows) fun y hy => h y (by simp [hy])
    refine ⟨x :: l, by simp [h1], by simp [hx, h2], fun y hy => ?_⟩
    rcases List.mem_cons.1 hy with rfl | hy
    · exact hk
    · exact h3 y hy
theorem row_in {cs : List Value} (hl : cs.length = 2) (h : Rd enc Try.prog w 78 cs) : ∃ r : Rw, cs = r.vals ∧ r.Ok w (fun _ => True) := by
  match cs, hl with
  | [v0, v1], _ =>
    obtain ⟨_, hf⟩ := h.struct Try.underlying78
    have h0 : Rd enc Try.prog w 76 (([v0, v1].drop 0).take (Try.prog.cellsOf 76)) := hf 0 _ rfl
    have h1 : Rd enc Try.prog w 34 (([v0, v1].drop 1).take (Try.prog.cellsOf 34)) := hf 1 _ rfl
    rw [take_one (v := v0) rfl one_cells] at h0
    rw [take_one (v := v1) rfl one_nodes] at h1
    obtain ⟨A, c, rows, hv, hc, _, hby, hs, hz, hr⟩ := h0.slice Try.underlying76
    have hb32 : Try.prog.bytesOf 79 = 32 := by kernel_rfl
    rw [hb32] at hby
    simp only [reachBytes] at hby
    have hce : Try.prog.cellsOf 79 = 2 := by kernel_rfl
    obtain ⟨l, h2, h3, h4⟩ := cells_in (rows := rows) fun x hx => ⟨by rw [(hr x hx).1, hce], (hr x hx).2⟩
    obtain ⟨E, k, ex, rfl, hx⟩ := list_in h1
    injection hv with hv _
    subst hv
    refine ⟨⟨A, c, l, E, k, ex⟩, by rw [← h2]; rfl, ⟨by show l.length ≤ c; omega, by show l.length ≤ _; omega, ?_, h4, hx⟩⟩
    rw [h3] at hs
    exact SegS.of hs (Nat.le_refl _) fun _ _ => trivial
theorem rows_in : ∀ {rows : List (List Value)}, (∀ x ∈ rows, x.length = 2 ∧ Rd enc Try.prog w 78 x) → ∃ l : List Rw, l.length = rows.length ∧ rows.flatten = l.flatMap Rw.vals ∧ ∀ x ∈ l, x.Ok w (fun _ => True)
  | [], _ => ⟨[], rfl, rfl, by simp⟩
  | r :: rows, h => by
    obtain ⟨x, hx, hk⟩ := row_in (h r (by simp)).1 (h r (by simp)).2
    obtain ⟨l, h1, h2, h3⟩ := rows_in (rows := rows) fun y hy => h y (by simp [hy])
    refine ⟨x :: l, by simp [h1], by simp [hx, h2], fun y hy => ?_⟩
    rcases List.mem_cons.1 hy with rfl | hy
    · exact hk
    · exact h3 y hy
/-- Rows. -/
theorem arg_rows {v : Value} (h : Rd enc Try.prog w 23 [v]) : ∃ (A : Option Addr) (c : Nat) (rs : List Rw), v = .slice A rs.length c ∧ RsOk w (fun _ => True) A c rs := by
  obtain ⟨A, c, rows, hv, hc, _, hby, hs, hz, hr⟩ := h.slice Try.underlying23
  have hb48 : Try.prog.bytesOf 78 = 48 := by kernel_rfl
  rw [hb48] at hby
  simp only [reachBytes] at hby
  have hce : Try.prog.cellsOf 78 = 2 := by kernel_rfl
  obtain ⟨l, h2, h3, h4⟩ := rows_in (rows := rows) fun x hx => ⟨by rw [(hr x hx).1, hce], (hr x hx).2⟩
  injection hv with hv _
  refine ⟨A, c, l, by rw [hv, h2], ⟨by omega, by omega, ?_, h4⟩⟩
  rw [h3] at hs
  exact SegS.of hs (Nat.le_refl _) fun _ _ => trivial
theorem glue_in {cs : List Value} (hl : cs.length = 5) (h : Le.Cells enc Try.prog w 0 (fun _ => true) true (List.replicate 5 3) cs) : ∃ g : G, cs = g.vals := by
  obtain ⟨zs, h1, h2, _⟩ := Le.cells_ints Try.underlying3 h
  match zs, h1 with
  | [a, b, c, d, e], _ => exact ⟨⟨a, b, c, d, e⟩, h2⟩
theorem glues_in : ∀ {rows : List (List Value)}, (∀ x ∈ rows, x.length = 5 ∧ Le.Cells enc Try.prog w 0 (fun _ => true) true (List.replicate 5 3) x) → ∃ l : List G, l.length = rows.length ∧ rows.flatten = l.flatMap G.vals
  | [], _ => ⟨[], rfl, rfl⟩
  | r :: rows, h => by
    obtain ⟨x, hx⟩ := glue_in (h r (by simp)).1 (h r (by simp)).2
    obtain ⟨l, h1, h2⟩ := glues_in (rows := rows) fun y hy => h y (by simp [hy])
    exact ⟨x :: l, by simp [h1], by simp [hx, h2]⟩
/-- Skips. -/
theorem arg_glues {v : Value} (h : Rd enc Try.prog w 22 [v]) : ∃ (A : Option Addr) (c : Nat) (ss : List G), v = .slice A ss.length c ∧ Row w A ss ∧ ss.length ≤ maxLen := by
  obtain ⟨A, c, rows, hv, hc, hm, hby, hs, hz, hr⟩ := h.slice Try.underlying22
  have hce : Try.prog.cellsOf 40 = 5 := by kernel_rfl
  obtain ⟨l, h2, h3⟩ := glues_in (rows := rows) fun x hx => ⟨by rw [(hr x hx).1, hce], cells_of (hr x hx).2 (by kernel_rfl) (by kernel_rfl) (by rw [hce]; rfl) (hr x hx).1⟩
  injection hv with hv _
  refine ⟨A, c, l, by rw [hv, h2], ?_, by omega⟩
  rw [h3] at hs
  exact hs
end
end Go.Proofs.Ytoboecenlangmaa.Al
end
section
namespace Go.Proofs.Ytoboecenlangmaa.Li
open Go.ChangeShapes Go.WideShapes Go.ChangeAt Go.RowKit

section
variable {H : Type} {enc : TypeId × Value → H} {P : Program}

theorem trodAll_below (hl : laidOutB P = true) {W W' : World} (hb : Below W.heap.size W W') {sp : Nat → Bool} :
    ∀ {ts : List TypeId} {vs : List Value} {ds : List (DataW H)} {p : List MemPlace}, ts.all (fun t => P.readableRec t && decide (t < P.types.size)) = true → DataW.TrodAll enc P W 0 (fun _ => true) true ts vs ds p →
      (∀ x ∈ p, x.block < W.heap.size) → (∀ x ∈ p, sp x.block = true) → DataW.TrodAll enc P W' 0 sp true ts vs ds p
  | [], _, _, _, _, h, _, _ => by
    obtain ⟨rfl, rfl, rfl⟩ := trodAll_nil h
    exact trodAll_mk0
  | t :: ts, _, _, _, hr, h, hlt, hs => by
    obtain ⟨v, vs1, d, ds1, a, b, rfl, rfl, rfl, h1, h2⟩ := trodAll_cons h
    simp only [List.all_cons, Bool.and_eq_true, decide_eq_true_eq] at hr
    refine trodAll_cons_mk (WideElems.Trod_stays hl hr.1.1 hr.1.2 h1 (fun x hx => hb.same (hlt x (by simp [hx]))) (fun x hx => hs x (by simp [hx]))) ?_
    exact trodAll_below hl hb (by simpa using hr.2) h2 (fun x hx => hlt x (by simp [hx])) (fun x hx => hs x (by simp [hx]))

theorem law_post {f : Func} {s : ChangeSpec} {apart fresh handsOn again : Bool} {W W' : World} {args : Array Value} {ds gs : List (DataW H)} {before : List MemPlace} {tb : TypeId}
    (hl : laidOutB P = true) (hv : s.vars = []) (hW : DataW.Whole enc P f.params.toList s.vars apart W args.toList ds gs before) (hr : f.params.toList.all (fun t => P.readableRec t && decide (t < P.types.size)) = true)
    (hres : (s.fn H (ds ++ gs)).results = [.lit (.bool true)]) (hargs : (s.fn H (ds ++ gs)).args = ds) (hvars : (s.fn H (ds ++ gs)).vars = []) (hrt : f.resultTypes = #[tb]) (htb : P.underlying tb = some .bool)
    (hb : Below W.heap.size W W') : s.post enc P f apart fresh handsOn again W args (.bool true) W' := by
  have hlt0 := hW.lt
  obtain ⟨p, q, hA, hV, he, hfz, hnd⟩ := id hW
  rw [hv] at hV
  obtain ⟨rfl, rfl⟩ := trodVars_none hV
  rw [List.append_nil] at he
  subst he
  have hlt : ∀ x ∈ before, x.block < W.heap.size := fun x hx => hlt0 x hx
  have hR : ∀ (b : Nat) (sp : Nat → Bool) (hd : Bool), DataW.TrodAll enc P W' b sp hd f.resultTypes.toList ((Value.bool true).resultList f.resultTypes.size) (s.fn H (ds ++ [])).results [] := by
    intro b sp hd
    rw [hrt, hres]
    exact trodAll_mk1 (shut_bool htb _)
  have hVW : ∀ sp : Nat → Bool, DataW.TrodVars enc P W' sp s.vars (s.fn H (ds ++ [])).vars [] := by
    intro sp
    rw [hv, hvars]
    rfl
  have hAW : ∀ sp : Nat → Bool, (∀ x ∈ before, sp x.block = true) → DataW.TrodAll enc P W' 0 sp true f.params.toList args.toList (s.fn H (ds ++ [])).args before := by
    intro sp hs
    rw [hargs]
    exact trodAll_below hl hb hr hA hlt hs
  refine ⟨ds, [], before, [], before, [], hW, hR _ _ _, hAW _ (fun x hx => by simpa using hlt x hx), hVW _, World.keptBut_mono (fun x hx => ⟨hx, .inr (.inl hx)⟩) (hb.frame (· ∈ before)), fun _ => ⟨?_, ?_⟩⟩
  · exact ok_one hrt rfl (okWide_bool_mk htb _)
  · refine ⟨_, _, [] ++ before ++ [], ⟨[] ++ before, [], trodAll_append (hAW _ (fun _ _ => rfl)) (hR _ _ _), hVW _, rfl, ?_, ?_⟩, ?_⟩
    · intro b off hx
      have hx' : MemPlace.cell b off ∈ before := by simpa using hx
      rw [hb.frozen (hlt _ hx')]
      exact hfz b off hx'
    · intro ha
      simpa using hnd ha
    · intro x hx _
      simpa using hx
end
end Go.Proofs.Ytoboecenlangmaa.Li
end
section
namespace Go.Proofs.Ytoboecenlangmaa.Al
open Go.ChangeShapes Go.WideShapes Go.ChangeAt Go.RowKit
open Me Np No Pk
open Gl (G Row)
set_option linter.unusedVariables false
set_option linter.unusedSimpArgs false

theorem num21_q (x : Int) (w : World) : Calls Try.prog 13 #[.int .i64 x] w fun e w' => e = .returned (.int .i64 x) ∧ w' = w :=
  (num21 x w).mono fun _ _ h => ⟨h.1, h.2.symm⟩
/-- A row without what comes behind it. -/
def Rw.bare (r : Rw) : Rw := { r with E := none, k := 0, ex := [] }
theorem set_extra (l : List Rw) (i : Nat) (r : Rw) (h : l[i]? = some r) : (l.flatMap Rw.vals).set (i * 2 + 1) (.slice none 0 0) = (l.set i r.bare).flatMap Rw.vals := by
  have hl : i < l.length := (List.getElem?_eq_some_iff.1 h).1
  apply List.ext_getElem?
  intro q
  have h1 := flat_length Rw.vals_length l
  have h2 := flat_length Rw.vals_length (l.set i r.bare)
  rw [List.length_set] at h2
  rcases Nat.lt_or_ge q (l.length * 2) with hq | hq
  · obtain ⟨j, t, hj, ht, rfl⟩ : ∃ j t, j < l.length ∧ t < 2 ∧ q = j * 2 + t := ⟨q / 2, q % 2, by omega, by omega, by omega⟩
    obtain ⟨y, hy⟩ : ∃ y, l[j]? = some y := ⟨l[j], List.getElem?_eq_getElem hj⟩
    by_cases hji : j = i
    · subst hji
      rw [hy] at h
      injection h with h
      subst h
      rw [flat_get Rw.vals_length _ j y.bare t (by rw [List.getElem?_set_self hj]) ht]
      rcases (show t = 0 ∨ t = 1 by omega) with rfl | rfl
      · rw [List.getElem?_set_ne (by omega), flat_get Rw.vals_length _ j y 0 hy ht]
        rfl
      · rw [List.getElem?_set_self (by omega)]
        rfl
    · rw [List.getElem?_set_ne (by omega), flat_get Rw.vals_length _ j y t hy ht, flat_get Rw.vals_length _ j y t (by rw [List.getElem?_set_ne (by omega)]; exact hy) ht]
  · rw [List.getElem?_eq_none (by rw [List.length_set]; omega), List.getElem?_eq_none (by omega)]
/-- The rows, the first i of them bare. -/
def bares (l : List Rw) (i : Nat) : List Rw := (l.take i).map Rw.bare ++ l.drop i
theorem bares_len (l : List Rw) (i : Nat) : (bares l i).length = l.length := by unfold bares; simp; omega
theorem bares_get {l : List Rw} {i : Nat} {r : Rw} (h : l[i]? = some r) : (bares l i)[i]? = some r := by
  have hl : i < l.length := (List.getElem?_eq_some_iff.1 h).1
  unfold bares
  rw [List.getElem?_append_right (by simp; omega), List.getElem?_drop]
  simp only [List.length_map, List.length_take]
  rw [show i + (i - min i l.length) = i by omega]
  exact h
theorem bares_succ {l : List Rw} {i : Nat} {r : Rw} (h : l[i]? = some r) : (bares l i).set i r.bare = bares l (i + 1) := by
  have hl : i < l.length := (List.getElem?_eq_some_iff.1 h).1
  have hd : l.drop i = r :: l.drop (i + 1) := by
    rw [List.drop_eq_getElem_cons hl]
    congr 1
    rw [List.getElem?_eq_getElem hl] at h
    injection h
  have hlen : ((l.take i).map Rw.bare).length = i := by simp; omega
  unfold bares
  rw [hd, List.set_append_right _ _ (by rw [hlen]; exact Nat.le_refl _), hlen, Nat.sub_self, List.set_cons_zero, List.take_add_one, h, List.map_append, List.append_assoc]
  rfl
/-- What the rows' loop holds. -/
structure GB (w : World) (l : List Rw) (i : Nat) (v : Value) (wr : World) : Prop where
  own : wr.ownsRow w.heap.size 36 2 v l.length ((bares l i).flatMap Rw.vals)
  ok : ∀ r ∈ bares l i, r.Ok wr (fun b => w.heap.size ≤ b ∧ v.ownBlock ≠ some b)
  low : Below w.heap.size w wr
theorem bare_ok {w : World} {S : Nat → Prop} {r : Rw} (h : r.Ok w S) : r.bare.Ok w S := ⟨h.cap, h.len, h.seg, h.cells, ⟨Nat.le_refl _, by simp [Rw.bare], fun _ => rfl, .inl rfl⟩⟩
theorem GB.next {w wr : World} {l : List Rw} {i g c : Nat} {r : Rw} (h : GB w l i (.slice (some ⟨g, 0, none⟩) l.length c) wr) (hr : l[i]? = some r) : GB w l (i + 1) (.slice (some ⟨g, 0, none⟩) l.length c) (wr.setCell ⟨g, i * 2 + 1, none⟩ (.slice none 0 0)) := by
  refine ⟨?_, fun q hq => ?_, h.low.setCell (h.own.lt g rfl).1 _⟩
  · rw [← bares_succ hr, ← set_extra _ _ _ (bares_get hr)]
    exact (h.own.stored (i * 2 + 1) (.slice none 0 0)).1
  · have hk : Kp (fun b => w.heap.size ≤ b ∧ (Value.slice (some ⟨g, 0, none⟩) l.length c).ownBlock ≠ some b) wr (wr.setCell ⟨g, i * 2 + 1, none⟩ (.slice none 0 0)) := Kp.set fun b _ hs e => hs.2 (by rw [e]; rfl)
    rw [← bares_succ hr] at hq
    rcases List.mem_or_eq_of_mem_set hq with hq | rfl
    · exact (h.ok q hq).keep hk
    · exact (bare_ok (h.ok r (List.mem_of_getElem? (bares_get hr)))).keep hk
theorem GI.bares {w w1 : World} {rs : List Rw} {v : Value} {dn : List Rw} (h : GI w rs rs.length v dn w1) (hl : rs.length ≤ 2932031007402) : dn.length = rs.length ∧ ∃ A c, v = .slice A dn.length c ∧ (A = none → c = 0) ∧ dn.length ≤ c ∧ GB w dn 0 v w1 := by
  have hd := h.dat
  rw [List.take_length] at hd
  have hn : dn.length = rs.length := by have := congrArg List.length hd; simpa using this
  obtain ⟨A, c, hv, hc, _, hz, _⟩ := SegS.own (S := fun _ => True) h.own (fun _ _ => trivial)
  exact ⟨hn, A, c, by rw [hv, hn], hz, by omega, ⟨by rw [hn]; exact h.own, h.ok, h.low⟩⟩
theorem GB.rows {w w1 : World} {dn : List Rw} {A : Option Addr} {c : Nat} (h : GB w dn dn.length (.slice A dn.length c) w1) (hl : dn.length ≤ 2932031007402) (hc : dn.length ≤ c) : RsOk w1 (fun _ => True) A c (bares dn dn.length) := by
  obtain ⟨A', c', hv, _, _, _, hs⟩ := SegS.own (S := fun _ => True) h.own (fun _ _ => trivial)
  injection hv with e1 _ e2
  subst e1 e2
  exact ⟨by rw [bares_len]; exact hc, by rw [bares_len]; exact hl, hs, fun r hr => (h.ok r hr).mono fun _ _ _ => trivial⟩
theorem bares_ex (dn : List Rw) {i : Nat} {r : Rw} (h : (bares dn dn.length)[i]? = some r) : r.ex = [] := by
  unfold bares at h
  rw [List.drop_length, List.append_nil, List.take_length, List.getElem?_map] at h
  cases hr : dn[i]? with
  | none => rw [hr] at h; cases h
  | some y => rw [hr] at h; injection h with h; subst h; rfl

set_option maxHeartbeats 8000000 in
set_option maxRecDepth 100000 in
theorem columns_walk (A : Option Addr) (ss : List G) (c : Nat) (B : Option Addr) (rs : List Rw) (k : Nat) (tw : Int) (ex : Bool) (w : World) (hS : Row w A ss) (h63 : ss.length ≤ maxLen) (hR : RsOk w (fun _ => True) B k rs) :
    Calls Try.prog 9 #[.slice A ss.length c, .slice B rs.length k, .int .i64 tw, .bool ex] w fun e w' => e = .returned (.bool true) ∧ Below w.heap.size w w' := by
  have HG := Lib.hid (given_any B rs k w hR)
  have HRL := Lib.hid hR.len
  have HWH := Lib.hid (fun (dn : List Rw) (R : List Nd × List Nd × Int × Int × Int) (w1 : World) (A1 : Option Addr) (c1 : Nat) (hb : Below w.heap.size w w1) (h : RsOk w1 (fun _ => True) A1 c1 dn) hr => Head_al A ss c A1 dn c1 tw ex w1 (Seg.belowW hS hb) h h63 R hr)
  have HWS := Lib.hid (fun (dn : List Rw) (R : List Nd × List Nd × Int × Int × Int) (w1 : World) (A1 : Option Addr) (c1 : Nat) (hb : Below w.heap.size w w1) (h : RsOk w1 (fun _ => True) A1 c1 dn) hr hg => Set_al A ss c A1 dn c1 tw ex w1 (Seg.belowW hS hb) h h63 R hr hg)
  clear hS hR
  generalize hsl : ss.length = sl at *
  have HSL := Lib.hid hsl
  clear hsl
  go_enter Try.func9, Try.ntmps9
  go_upto_region 2 with (go_at_call 11; refine HG.out.mono ?_; rintro e w0 ⟨v, dn, rfl, hgi⟩)
  obtain ⟨hn, A1, c1, rfl, hz1, hdc, hgb⟩ := hgi.bares HRL.out
  have hrl := HRL.out
  have hdl : dn.length ≤ 2932031007402 := by omega
  have HGB := Lib.hid hgb
  clear hgi hgb HG hn hrl
  obtain ⟨m, hm⟩ : ∃ m, dn.length = m := ⟨_, rfl⟩
  rw [hm] at hdc hdl ⊢
  have HM := Lib.hid hm
  clear hm
  go_upto_region 3 with fail
  go_loopw [10] (fun v10 wr => ∃ i : Nat, i ≤ m ∧ v10 = .int .i64 (i : Int) ∧ GB w dn i (.slice A1 dn.length c1) wr) (fun v10 _ => m - (intOf v10).toNat)
  case atStart => exact ⟨0, by omega, rfl, HGB.out⟩
  case round =>
    obtain ⟨i, hi, rfl, hgb⟩ := hrel
    by_cases hlt : i < m
    · obtain ⟨r, hr⟩ := get_some (l := dn) (i := i) (by rw [HM.out]; exact hlt)
      obtain ⟨g, c', e, hcc⟩ := own_some hgb.own (by rw [HM.out]; omega)
      injection e with e1 _ e2
      subst e1 e2
      have hci : wr.cell? ⟨g, i * 2 + 1, none⟩ = some (.slice r.E r.ex.length r.k) := by
        rw [hgb.own.cellAt (i * 2 + 1) (by rw [HM.out]; omega), flat_get Rw.vals_length _ i r 1 (bares_get hr) (by decide)]
        rfl
      have hfi := hgb.own.frozenAt (i * 2 + 1)
      have hgl := (hgb.own.lt g rfl).2
      have hii : (i : Int) < (m : Int) := by omega
      have HNX := Lib.hid (hgb.next hr)
      clear hgb hr
      go_wp2_with fail
      go_roundw
      case rel => exact ⟨i + 1, by omega, by go_num, HNX.out⟩
      case measure => simp [intOf]; omega
    · obtain rfl : i = m := by omega
      have hro : RsOk wr (fun _ => True) A1 c1 (bares dn dn.length) := (show GB w dn dn.length (.slice A1 dn.length c1) wr from by rw [HM.out]; rw [HM.out] at hgb; exact hgb).rows (by rw [HM.out]; exact hdl) (by rw [HM.out]; exact hdc)
      have HRO := Lib.hid hro
      have HB1 := Lib.hid hgb.low
      have HEX := Lib.hid (fun (q : Nat) (r : Rw) (h : (bares dn dn.length)[q]? = some r) => bares_ex dn h)
      have hbl : (bares dn dn.length).length = i := by rw [bares_len, HM.out]
      generalize bares dn dn.length = bs at *
      obtain ⟨R, hRA, hRG⟩ := hd_ex ss (bs.map Rw.d) tw ex
      have HRG := Lib.hid hRG
      have HH := Lib.hid (HWH.out bs R wr A1 c1 HB1.out hro hRA)
      have HSS := Lib.hid (fun (w' : World) (hb : Below wr.heap.size wr w') => HWS.out bs R w' A1 c1 (andThen HB1.out hb) (hro.below hb) hRA hRG)
      clear hgb hro hRA hRG HWH HWS HGB
      generalize hC : mdC ss (bs.map Rw.d) = C at *
      generalize hE : mdE ss (bs.map Rw.d) = E0 at *
      clear hC hE
      rw [hbl] at HH HSS
      have HM := Lib.hid hbl
      clear hbl
      obtain ⟨m, rfl⟩ : ∃ z, z = i := ⟨_, rfl⟩
      obtain ⟨w1, rfl⟩ : ∃ z, z = wr := ⟨_, rfl⟩
      go_upto_region 7 with (go_at_call 32; refine HH.out.mono ?_; rintro e w2 ⟨vh, bh, oh, rfl, hoh, hb2⟩)
      have HOH := Lib.hid hoh
      have HB2 := Lib.hid hb2
      have HS2 := Lib.hid (HSS.out w2 hb2)
      clear hoh hb2 HH HSS
      go_upto_region 8 with (go_at_call 33; refine HS2.out.mono ?_; rintro e w3 ⟨vs, L, F, rfl, hos, hb3, hno, hyes⟩)
      have HOS := Lib.hid hos
      have HB3 := Lib.hid hb3
      have HNO := Lib.hid hno
      have HYES := Lib.hid hyes
      have HBW3 := Lib.hid (andThen HB1.out (andThen HB2.out hb3))
      clear hos hb3 hno hyes HS2
      by_cases hF : F = 0
      · obtain ⟨h0, n, hok, hcL, hrw, f, xs, hpa, hp0⟩ := HYES.out hF
        have hE1 : HdE E0 R = 0 := by unfold HdE; rw [if_pos h0]; exact hok.ok
        have hL0 : HdL E0 R = wrapL n (headL C.w C.s) := by unfold HdL; rw [if_pos h0]; exact hok.box
        have hc0 : chk (HdL E0 R) = 0 := by unfold HdL; rw [if_pos h0]; exact hok.chk
        have q1 : (HdE E0 R != 0) = false := by simp [hE1]
        have q2 : (F != 0) = false := by simp [hF]
        have hl2 := (chk_run hcL).1
        have hk4 := hok.kind
        have hin := hok.inn
        obtain ⟨A8, c8, rfl, hc8, _, _, hs8⟩ := SegS.own (S := fun _ => True) HOH.out (fun _ _ => trivial)
        obtain ⟨b8, o8, rfl, hb8, hn8⟩ := seg_node hs8.seg (k := 0) (show (HdL E0 R)[0]? = some n by rw [hL0]; rfl)
        rw [Nat.zero_mul, Nat.add_zero] at hn8
        have HPH := Lib.hid (fun (w' : World) (hb : Below w2.heap.size w2 w') => hpa.2.2 (HdL E0 R) 0 (some ⟨b8, o8, none⟩) c8 w' hc0 (by rw [hL0]; rfl) (by rw [hL0]; exact endc_wrap (by simp [opensB, hk4]) hin) (by rw [hL0]; simp [wrapL]) hc8 (Seg.belowW hs8.seg hb))
        have HPP := Lib.hid (fun (m1 k2 : Nat) (hk : m1 + k2 = C.w.length) (l : List Nd) (x : Nd) (f1 : Nat → Int) (xs1 : List Nat) (p1 : PlcAt C.w C.s m1 l x f1 xs1) (hx : x.sign = n.sign ∧ x.order = n.order ∧ x.num = n.num ∧ x.den = n.den) => places_pre (k := k2) p1.1 (by rw [hk]; exact hpa.1) p1.2.1 hpa.2.1 hx hp0)
        have HN8 := Lib.hid (And.intro hb8 hn8)
        have hhl : 0 < (HdL E0 R).length := by rw [hL0, wrap_len]; omega
        have HCL := Lib.hid hcL
        have HRW := Lib.hid hrw
        have HK4 := Lib.hid hk4
        rw [hp0] at HPH
        generalize (plcR n (headL C.w C.s) f xs).1 = PL at *
        obtain ⟨A9, c9, rfl, hc9, _, _, hs9⟩ := SegS.own (S := fun _ => True) HOS.out (fun _ _ => trivial)
        have HS9 := Lib.hid hs9.seg
        clear hok hcL hrw hpa hp0 hL0 hc0 hk4 hin hs8 hb8 hn8 hs9 hE1 h0 HYES HNO HRG
        generalize HdE E0 R = E1 at *
        generalize (HdL E0 R).length = hl at *
        generalize hll : L.length = ll at *
        have HLL := Lib.hid hll
        clear hll
        go_upto_region 10 with (first | (go_at_call 13; refine (num21 _ _).mono ?_; rintro e wz ⟨rfl, rfl⟩) | (go_at_call 14; refine (knows21 _).mono ?_; rintro e w4 ⟨rfl, hb4⟩))
        have HB4 := Lib.hid (andThen HBW3.out hb4)
        have HP4 := Lib.hid (HPH.out w4 (andThen HB3.out hb4))
        have HB24 := Lib.hid (andThen HB3.out hb4)
        have HS4 := Lib.hid (Seg.belowW HS9.out hb4)
        clear hb4 HPH
        go_upto_region 15 with (first | (go_at_call 23; refine HP4.out.mono ?_; rintro e w5 ⟨v5, rfl, ho5, hb5⟩) | (go_at_call 13; refine (num21 _ _).mono ?_; rintro e wz ⟨rfl, rfl⟩))
        obtain ⟨AP, cP, rfl, hcP, hcm, _, hsP⟩ := SegS.own (S := fun _ => True) ho5 (fun _ _ => trivial)
        have hlm : PL.length ≤ 9223372036854775807 := Nat.le_trans hcP (by simpa [maxLen] using hcm)
        have HB5 := Lib.hid (andThen HB4.out hb5)
        have HSP := Lib.hid hsP.seg
        have HS5 := Lib.hid (Seg.belowW HS4.out hb5)
        have HN5 := Lib.hid (HN8.out.2.below (andThen HB24.out hb5) HN8.out.1)
        have hb85 : b8 < w5.heap.size := Nat.lt_of_lt_of_le HN8.out.1 (andThen HB24.out hb5).size
        clear ho5 hb5 hsP HP4 HN8
        generalize hlP : PL.length = lP at *
        have HLP := Lib.hid hlP
        clear hlP
        have hhl2 : (0 : Int) < (hl : Int) := by omega
        obtain ⟨W5, rfl⟩ : ∃ z, z = w5 := ⟨_, rfl⟩
        go_loopw [19, 20] (fun v19 v20 wr => ∃ (i a : Nat), i ≤ m ∧ v19 = .int .i64 (i : Int) ∧ v20 = .int .i64 (a : Int) ∧ a ≤ ll ∧ RowsL C.w C.s n ((bs.map Rw.d).drop i) (L.drop a) ∧ Below W5.heap.size W5 wr) (fun _ v20 _ => ll - (intOf v20).toNat)
        case atStart => exact ⟨0, 0, by omega, rfl, rfl, by omega, by simpa using HRW.out, Below.refl _ _⟩
        case round =>
          obtain ⟨i, a, hi, rfl, rfl, ha, hrw, hb⟩ := hrel
          have HB := Lib.hid hb
          have HRI := Lib.hid hrw
          clear hb hrw
          by_cases hlt : a < ll
          · have hal : (a : Int) < (ll : Int) := by omega
            have him : i < m := by
              rcases Nat.lt_or_ge i m with h | h
              · exact h
              · have h1 := HRI.out
                rw [List.drop_of_length_le (by rw [List.length_map, HM.out]; exact h)] at h1
                have h2 : L.drop a = [] := h1
                have h3 := congrArg List.length h2
                rw [List.length_drop, HLL.out] at h3
                simp at h3
                omega
            obtain ⟨r, hr⟩ := get_some (l := bs) (i := i) (by rw [HM.out]; exact him)
            obtain ⟨m1, l, x, h1, h2, h3, hx, hx4, hxw, hxs, hend, hin, hle, hnx⟩ := rows_at HK4.out (show (bs.map Rw.d)[i]? = some r.d by rw [List.getElem?_map, hr]; rfl) (by rw [HLL.out]; exact ha) HRI.out
            have hex : r.d.2 = [] := HEX.out i r hr
            rw [hex] at hle hnx
            simp only [List.length_nil, Nat.add_zero] at hle hnx
            rw [HLL.out] at hle
            obtain ⟨f1, xs1, p1, p2, p3⟩ := places_row h2 x hx4 h3
            obtain ⟨hz, hlen, T, hT⟩ := HPP.out m1 (C.w.length - m1) (by omega) l x f1 xs1 ⟨p1, p2, p3⟩ hxs
            have hsg := Seg.belowW HS5.out HB.out
            obtain ⟨b9, o9, rfl, hb9, hn9⟩ := seg_node hsg hx
            have HPR := Lib.hid (p3 L a (some ⟨b9, o9, none⟩) c9 wr HCL.out hx hend hin (by rw [HLL.out]; exact hc9) hsg)
            rw [hz, HLL.out] at HPR
            have HEN := Lib.hid (fun (w' : World) (hb : Below wr.heap.size wr w') => rends_any (some ⟨b9, o9, none⟩) L c9 a (l.length + 2) w' (by rw [HLL.out]; omega) (Seg.belowW hsg hb) hend (fun y hy => by rw [hx] at hy; injection hy with hy; subst hy; omega))
            rw [HLL.out] at HEN
            have HN9 := Lib.hid (And.intro hb9 hn9)
            have HNX := Lib.hid hnx
            have HXW := Lib.hid hxw
            obtain ⟨sp, hsp⟩ : ∃ k, l.length + 2 = k := ⟨_, rfl⟩
            rw [hsp] at hle HNX HEN
            have hsp0 : 0 < sp := by omega
            generalize (plcR x l f1 xs1).1 = P1 at *
            have HT := Lib.hid hT
            have hlP1 : P1.length ≤ lP := by have h4 := congrArg List.length hT; rw [List.length_append, HLP.out] at h4; omega
            have hlP0 : 0 < P1.length := by omega
            clear h2 h3 hx hx4 hxw hxs hend hin hnx hex p1 p2 p3 hz hlen hsg hb9 hn9 hsp hT hr
            generalize hlp1 : P1.length = l1 at *
            have HL1 := Lib.hid hlp1
            clear hlp1
            go_upto_region 18 with (go_at_call 23; refine HPR.out.mono ?_; rintro e w6 ⟨v6, rfl, ho6, hb6⟩)
            rw [HL1.out] at ho6
            obtain ⟨A6, c6, rfl, hc6, _, _, hs6⟩ := SegS.own (S := fun _ => True) ho6 (fun _ _ => trivial)
            have HS6 := Lib.hid hs6.seg
            have HB6 := Lib.hid hb6
            have k3 : w6.cell? ⟨b9, o9 + a * 19 + 3, none⟩ = some (.int .i64 n.wd) := by rw [← HXW.out]; exact (HN9.out.2.below hb6 HN9.out.1) 3 _ rfl
            have k8 : w6.cell? ⟨b8, o8 + 3, none⟩ = some (.int .i64 n.wd) := (HN5.out.below (andThen HB.out hb6) hb85) 3 _ rfl
            have kb9 := Nat.lt_of_lt_of_le HN9.out.1 hb6.size
            have kb8 := Nat.lt_of_lt_of_le hb85 (andThen HB.out hb6).size
            have g1 : ((l1 : Int) == 0) = false := by rw [beq_eq_false_iff_ne]; omega
            have g2 : decide ((lP : Int) < (l1 : Int)) = false := by rw [decide_eq_false_iff_not]; omega
            clear ho6 hs6 hb6 HPR
            generalize n.wd = nw at *
            go_quiet ((go_at_call 13; refine Calls.quiet_of_same (num21_q _ _)))
            clear k3 k8 kb8 kb9 g1 g2
            obtain ⟨W6, hW6, hB6⟩ : ∃ W6, w6.drewN _ = W6 ∧ Below w6.heap.size w6 W6 := ⟨_, rfl, below_drewN (Below.refl _ _) _⟩
            rw [hW6]
            clear hW6
            have HB6' := Lib.hid (andThen HB6.out hB6)
            have HS6' := Lib.hid (Seg.belowW HS6.out hB6)
            have HSP6 := Lib.hid (Seg.belowW HSP.out (andThen HB.out HB6'.out))
            clear hB6
            go_wp2_with fail
            go_loopw [23] (fun v23 wr2 => ∃ q : Nat, q ≤ l1 ∧ v23 = .int .i64 (q : Int) ∧ Below W6.heap.size W6 wr2) (fun v23 _ => l1 - (intOf v23).toNat)
            case atStart => exact ⟨0, by omega, rfl, Below.refl _ _⟩
            case round =>
              obtain ⟨q, hq, rfl, hb⟩ := hrel
              by_cases hlt2 : q < l1
              · obtain ⟨y, hy⟩ := get_some (l := P1) (i := q) (by rw [HL1.out]; exact hlt2)
                have hy2 : PL[q]? = some y := by rw [HT.out, List.getElem?_append_left (by rw [HL1.out]; exact hlt2)]; exact hy
                obtain ⟨ba, oa, rfl, hba, hca⟩ := Si.seg_get (Seg.belowW HS6'.out hb) (k := q) (u := .int .i64 y) (by rw [List.getElem?_map, hy]; rfl)
                obtain ⟨bp, op, rfl, hbp, hcp⟩ := Si.seg_get (Seg.belowW HSP6.out hb) (k := q) (u := .int .i64 y) (by rw [List.getElem?_map, hy2]; rfl)
                have hql : (q : Int) < (l1 : Int) := by omega
                have hqp : (q : Int) < (lP : Int) := by omega
                have HBQ := Lib.hid hb
                clear hy hy2 hb
                go_upto_region 23 with fail
                go_quiet (fail)
                go_wp2_with fail
                go_roundw
                case rel => exact ⟨q + 1, by omega, by go_num, below_drewN HBQ.out _⟩
                case measure => simp [intOf]; omega
              · obtain rfl : q = l1 := by omega
                have HBQ := Lib.hid (andThen HB6'.out hb)
                clear hb
                go_wp2_with (go_at_call 34; refine (HEN.out _ HBQ.out).mono ?_; rintro e w8 ⟨rfl, hb8⟩; have HB8 := Lib.hid (andThen HB.out (andThen HBQ.out hb8)); clear hb8)
                go_roundw
                case rel => exact ⟨i + 1, a + sp, by omega, by go_num, by go_num, by omega, HNX.out, HB8.out⟩
                case measure => simp [intOf]; omega
          · obtain rfl : a = ll := by omega
            have him : i = m := by
              rcases Nat.lt_or_ge i m with h | h
              · obtain ⟨r, hr⟩ := get_some (l := bs) (i := i) (by rw [HM.out]; exact h)
                obtain ⟨m1, l, x, _, _, _, _, _, _, _, _, _, hle, _⟩ := rows_at HK4.out (show (bs.map Rw.d)[i]? = some r.d by rw [List.getElem?_map, hr]; rfl) (by rw [HLL.out]; exact ha) HRI.out
                rw [HLL.out] at hle
                omega
              · omega
            subst him
            go_wp2_with fail
            go_ret
            exact ⟨by simp, andThen HB5.out HB.out⟩
      · have q2 : (F != 0) = true := by simp [hF]
        have hL := HNO.out hF
        have hos := HOS.out
        rw [hL] at hos
        obtain ⟨A9, c9, rfl, _⟩ := SegS.own (S := fun _ => True) hos (fun _ _ => trivial)
        clear hos HOS
        generalize HdE E0 R = E1 at *
        by_cases hE1 : E1 = 0
        · have q1 : (E1 != 0) = false := by simp [hE1]
          go_wp2_with (first | (go_at_call 13; refine (num21 _ _).mono ?_; rintro e wz ⟨rfl, rfl⟩) | (go_at_call 14; refine (knows21 _).mono ?_; rintro e w5 ⟨rfl, hb5⟩))
          go_ret
          exact ⟨by simp, andThen HBW3.out hb5⟩
        · have q1 : (E1 != 0) = true := by simp [hE1]
          go_wp2_with (first | (go_at_call 13; refine (num21 _ _).mono ?_; rintro e wz ⟨rfl, rfl⟩) | (go_at_call 14; refine (knows21 _).mono ?_; rintro e w5 ⟨rfl, hb5⟩))
          go_ret
          exact ⟨by simp, andThen HBW3.out hb5⟩
end Go.Proofs.Ytoboecenlangmaa.Al
end
section
namespace Go.Proofs.Ytoboecenlangmaa.AlignColumns
open Go.ChangeShapes Go.WideShapes Go.ChangeAt Go.RowKit
set_option linter.unusedVariables false

theorem own : ownKnob Try.prog.godebug = none := by kernel_rfl
theorem laidOut : laidOutB Try.prog = true := by kernel_rfl

set_option maxRecDepth 100000 in
theorem lifted (os : Os) (started : os.Started) (H : Type) (enc : TypeId × Value → H) :
    ReturnsInHanded {} Try.checked os 9 .any (Rows.alignColumnsSpec.pre6 enc Try.prog Try.f9 Rows.alignColumnsRow.domain false) (Rows.alignColumnsSpec.post enc Try.prog Try.f9 false true false false) := by
  refine returnsInHanded_of_change_sized (C := Try.checked) own started (by kernel_rfl) Try.func9
    (ChangeSpec.witness6 (enc := enc) (C := Try.checked) false ⟨#[], #[.slice none 0 0, .slice none 0 0, .int .i64 0, .bool false], []⟩ 8 (by kernel_rfl) (by kernel_rfl) (by kernel_rfl) (by kernel_rfl)) ?_
  intro W base args ds gs before hval0 hW _ hsz0 _
  have hval : ∀ (j : Nat) t v, Try.f9.params[j]? = some t → args[j]? = some v → Value.okWide Try.prog W .any base t v := hval0
  have hsz : (DataW.weightsEach Try.prog (Try.f9.params.toList ++ Rows.alignColumnsSpec.plain.varTypes Try.prog) (ds ++ gs)).all (· ≤ reachBytes) = true := hsz0
  have hW' := hW
  have hlt0 := hW.lt
  obtain ⟨p, q, hA0, hV, he, hfz, hnd⟩ := hW
  have hA : DataW.TrodAll enc Try.prog W 0 (fun _ => true) true Try.f9.params.toList args.toList ds p := hA0
  rw [Try.params9] at hA hval hsz
  obtain ⟨rfl, rfl⟩ := trodVars_none hV
  rw [List.append_nil] at he
  subst he
  obtain ⟨v0, vs0, d0, ds0, p0, q0, hargs, rfl, rfl, h0, r0⟩ := trodAll_cons hA
  obtain ⟨v1, vs1, d1, ds1, p1, q1, rfl, rfl, rfl, h1, r1⟩ := trodAll_cons r0
  obtain ⟨v2, vs2, d2, ds2, p2, q2, rfl, rfl, rfl, h2, r2⟩ := trodAll_cons r1
  obtain ⟨v3, vs3, d3, ds3, p3, q3, rfl, rfl, rfl, h3, r3⟩ := trodAll_cons r2
  obtain ⟨rfl, rfl, rfl⟩ := trodAll_nil r3
  obtain rfl : args = #[v0, v1, v2, v3] := by cases args; simp_all
  have k0 : ∀ x ∈ p0, x.block < W.heap.size := fun x hx => hlt0 x (by simp [hx])
  have k1 : ∀ x ∈ p1, x.block < W.heap.size := fun x hx => hlt0 x (by simp [hx])
  have k2 : ∀ x ∈ p2, x.block < W.heap.size := fun x hx => hlt0 x (by simp [hx])
  have k3 : ∀ x ∈ p3, x.block < W.heap.size := fun x hx => hlt0 x (by simp [hx])
  have hR0 := Rd.Rd.arg h0 k0 hsz (j := 0) (t := 22) rfl rfl
  obtain ⟨a0, len0, cap0, rfl⟩ := okWide_slice Try.underlying22 (hval 0 22 v0 rfl rfl)
  obtain ⟨A0, c0, l0, hv0, hx0, h63⟩ := Al.arg_glues (show Rd.Rd enc Try.prog W 22 [.slice a0 len0 cap0] from hR0)
  injection hv0 with e1 e2 e3
  subst e1 e2 e3
  have hR1 := Rd.Rd.arg h1 k1 hsz (j := 1) (t := 23) rfl rfl
  obtain ⟨a1, len1, cap1, rfl⟩ := okWide_slice Try.underlying23 (hval 1 23 v1 rfl rfl)
  obtain ⟨A1, c1, l1, hv1, hx1⟩ := Al.arg_rows (show Rd.Rd enc Try.prog W 23 [.slice a1 len1 cap1] from hR1)
  injection hv1 with e1 e2 e3
  subst e1 e2 e3
  obtain ⟨z2, rfl, rfl, rfl, w2⟩ := open_int Try.underlying3 (hval 2 3 v2 rfl rfl) h2
  obtain ⟨z3, rfl, rfl, rfl⟩ := open_bool Try.underlying4 (hval 3 4 v3 rfl rfl) h3
  clear hA0 hval0
  refine (Al.columns_walk a0 l0 cap0 a1 l1 cap1 z2 z3 W hx0 h63 hx1).mono fun e W' ⟨he, hb⟩ => ?_
  subst he
  exact ⟨_, rfl, Li.law_post laidOut rfl hW' (by kernel_rfl) rfl rfl rfl rfl Try.underlying4 hb⟩

theorem over : Rows.alignColumnsRow.holds Try.pinned (OpenSpec.ofChange Rows.alignColumnsSpec) :=
  OpenClaim.holds_of_wide 9 Try.f9 rfl rfl rfl rfl rfl rfl rfl ⟨rfl, rfl, rfl, rfl, rfl⟩ rfl rfl rfl rfl rfl (by kernel_rfl) Try.func9 (by kernel_rfl)
    (of_decide_eq_true (by kernel_rfl)) (by unfold Func.isWrapper; first | (rw [if_pos (by decide +kernel)]; kernel_rfl) | (rw [if_neg (by decide +kernel)]; exact ⟨rfl, rfl⟩))
    (fun os started H enc _ => lifted os started H enc)

theorem proved : Rows.AlignColumnsSaid := over
#print axioms proved
end Go.Proofs.Ytoboecenlangmaa.AlignColumns
end

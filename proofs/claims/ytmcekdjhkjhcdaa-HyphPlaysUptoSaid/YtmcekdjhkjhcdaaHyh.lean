import Derived.Test.YtmcekdjhkjhcdaaHyg
/- The contract of Points of a word that is an exception. Conditions: those that each theorem names. -/
namespace Go.Proofs.Ytmcekdjhkjhcdaa.Hy
open Go.ChangeShapes Go.WideShapes Go.ChangeAt Go.RowKit
open Me Hp
set_option linter.unusedVariables false
set_option linter.unusedSimpArgs false

theorem XAt.pts {w : World} {B g c : Nat} {X : List Xc} (h : XAt w B X (.slice (some ⟨g, 0, none⟩) X.length c)) {k : Nat} {x : Xc} (hx : X[k]? = some x) : ∃ A cu, w.cell? ⟨g, k * 2 + 1, none⟩ = some (.slice A x.2.length cu) ∧ w.ownsRow B 3 1 (.slice A x.2.length cu) x.2.length (x.2.map iv) := by
  obtain ⟨g', c', u, e1, _, _, _, _, h5, h6⟩ := h.get hx
  injection e1 with e1 _ _
  injection e1 with e1
  injection e1 with e1 _ _
  subst e1
  obtain ⟨A, cu, rfl, _⟩ := own_sl h6
  exact ⟨A, cu, h5, h6⟩
set_option maxRecDepth 100000 in
set_option maxHeartbeats 1000000 in
theorem Points_there (B p : Nat) (P : List Pt) (X : List Xc) (x0 : Xc) (v xv : Value) (s : ByteArray) (left right : Int) (w : World) (hs : s.size ≤ 1048576) (hw : wordB s.data.toList = true) (h : HyAt w B p P v xv) (hx : XAt w B X xv) (hh : xhas X s.data.toList = true) (hx0 : X[xk X s.data.toList]? = some x0) (hl : 1 ≤ left) (hr : 1 ≤ right) :
    Calls Try.prog 27 #[.pointer (some ⟨p, 0, none⟩), .string s, .int .i64 left, .int .i64 right] w fun e w' => Below w.heap.size w w' ∧ ∃ u, e = .returned (.tuple #[u, .int .i64 0]) ∧ w'.ownsRow w.heap.size 3 1 u (x0.2.filter (farB (s.size : Int) left right)).length ((x0.2.filter (farB (s.size : Int) left right)).map iv) := by
  obtain ⟨h1, h2, h3⟩ := wordB_is hw
  rw [size_list] at h1 h2
  have HG := Lib.hid (good_any B p P v xv w h)
  have HF := Lib.hid (find_any B p P X v xv s w h hx)
  rw [hh] at HF
  have HW := Lib.hid (word_any s w hs)
  rw [hw] at HW
  have hxe : x0.1 = s.data.toList := by
    obtain ⟨y, hy, he⟩ := xhas_at hh
    rw [hx0] at hy
    injection hy with hy
    rw [hy]; exact he
  have hisx := hx.ex.is x0 (List.mem_of_getElem? hx0)
  have HPB := Lib.hid (show ∀ p ∈ x0.2, 1 ≤ p ∧ p ≤ (s.size : Int) from fun p hp => by
    have := hisx.bd p hp
    rw [hxe, size_list] at this
    omega)
  have hpl : x0.2.length ≤ 63 := by
    have key : ∀ (l : List Int) (a : Int), (∀ p ∈ l, a ≤ p ∧ p < 64) → l.Pairwise (· < ·) → (l.length : Int) ≤ max 0 (64 - a) := by
      intro l
      induction l with
      | nil => intro a _ _; simp; omega
      | cons y l ih =>
        intro a hb hp
        have h1 := hb y (by simp)
        have hp' := List.pairwise_cons.1 hp
        have h2 := ih (y + 1) (fun q hq => ⟨by have := hp'.1 q hq; omega, (hb q (by simp [hq])).2⟩) hp'.2
        simp only [List.length_cons]
        omega
    have := key x0.2 1 (fun p hp => by have := HPB.out p hp; omega) hisx.rise
    omega
  obtain ⟨g0, c0, _, hxv, hnc0, _, _, _, _, _⟩ := hx.get hx0
  subst hxv
  have hkx := (List.getElem?_eq_some_iff.1 hx0).1
  generalize hK : xk X s.data.toList = K at hx0 HF hkx
  have HXX := Lib.hid (fun w2 (hb : Below w.heap.size w w2) => And.intro (h.below hb) ((hx.below hb).pts hx0))
  have hfew : X.length ≤ 1000 := hx.ex.few
  clear h hx hh hx0 h3 hw hxe hisx hK
  go_enter Try.func27, Try.ntmps27
  go_wp2_with (first | (go_at_call 61; refine HG.out.mono ?_; rintro e w' ⟨rfl, rfl⟩) | (go_at_call 62; refine HW.out.mono ?_; rintro e w' ⟨rfl, rfl⟩) | (go_at_call 66; refine HF.out.mono ?_; rintro e w2 ⟨rfl, hb2⟩; obtain ⟨hy2, A, cu, hcu, hou⟩ := HXX.out _ hb2; have hp2 := hy2.tr.blk.cell 2; have HOW := Lib.hid hou; have HB2 := Lib.hid hb2; clear hou hb2 hy2))
  obtain ⟨wo, hwo⟩ : ∃ wo, wo = w2 := ⟨w2, rfl⟩
  subst hwo
  generalize hps : x0.2 = ps at *
  have HPS := Lib.hid hps
  clear hps
  go_loopw [15, 68] (fun v15 v68 w3 => ∃ k : Nat, k ≤ ps.length ∧ v68 = .int .i64 (k : Int) ∧ Pt2 wo ps (s.size : Int) left right k v15 w3) (fun _ v68 _ => ps.length - (intOf v68).toNat)
  case atStart => exact ⟨0, by omega, rfl, World.ownsRow_nil _ _ _ _, Below.refl _ _⟩
  case round =>
    obtain ⟨k, hk, rfl, hQ⟩ := hrel
    have HQ := Lib.hid hQ
    by_cases hlt2 : k < ps.length
    · obtain ⟨x, hx⟩ := get_some hlt2
      obtain ⟨g, c', hgu, hgl, hgc⟩ := own_get HOW.out hx
      injection hgu with hgA _ _
      subst hgA
      have hcx : wr.cell? ⟨g, k, none⟩ = some (.int .i64 x) := (hQ.low.cell (p := ⟨g, k, none⟩) hgl).trans hgc
      obtain ⟨x1, x2⟩ := HPB.out x (List.mem_of_getElem? hx)
      have HX := Lib.hid hx
      have hfl : ((ps.take k).filter (farB (s.size : Int) left right)).length ≤ 63 := by
        have := List.length_filter_le (farB (s.size : Int) left right) (ps.take k)
        rw [List.length_take] at this
        omega
      have hxn : x ≤ (s.size : Int) := by omega
      clear hQ hgc hx
      have HFB := Lib.hid (show farB (s.size : Int) left right x = (decide (left ≤ x) && decide (right ≤ (s.size : Int) - x)) from rfl)
      by_cases hc1 : left ≤ x
      · by_cases hc2 : right ≤ (s.size : Int) - x
        · have HT := Lib.hid (show farB (s.size : Int) left right x = true by rw [HFB.out]; simp [hc1, hc2])
          go_wp2_with (at_builtin; refine wpList_push rfl _ _ 42 rfl wo.heap.size 3 _ 1 8 Try.underlying42 info_int rfl (by decide) (by decide) _ _ _ rfl HQ.out.own HQ.out.low.size _ rfl rfl rfl (by simp) (by omega) ?_; intro v7 w7 hown7 hg7 hn7; have HQ7 := Lib.hid (HQ.out.push HX.out HT.out hown7 hg7); clear hown7 hg7)
          go_roundw
          case rel => exact ⟨v7, _, _, ⟨k + 1, by omega, by go_num, HQ7.out⟩, rfl, rfl, rfl⟩
          case measure => simp [intOf]; omega
        · have HT := Lib.hid (HQ.out.skip HX.out (show farB (s.size : Int) left right x = false by rw [HFB.out]; simp [hc2]))
          go_wp2_with fail
          go_roundw
          case rel => exact ⟨k + 1, by omega, by go_num, HT.out⟩
          case measure => simp [intOf]; omega
      · have HT := Lib.hid (HQ.out.skip HX.out (show farB (s.size : Int) left right x = false by rw [HFB.out]; simp [hc1]))
        go_wp2_with fail
        go_roundw
        case rel => exact ⟨k + 1, by omega, by go_num, HT.out⟩
        case measure => simp [intOf]; omega
    · obtain rfl : k = ps.length := by omega
      clear hQ
      go_wp2_with fail
      go_ret2
      have h := HQ.out.own
      rw [List.take_length, ← HPS.out] at h
      exact ⟨andThen HB2.out HQ.out.low, _, rfl, own_base h HB2.out.size⟩
end Go.Proofs.Ytmcekdjhkjhcdaa.Hy

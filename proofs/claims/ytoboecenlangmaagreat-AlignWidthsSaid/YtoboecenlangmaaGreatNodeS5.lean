import Derived.Test.YtoboecenlangmaaGreatNodeS4
/- The document's Sum of every good list. Conditions: those that each theorem names. -/
namespace Go.Proofs.YtoboecenlangmaaGreat.No
open Go.ChangeShapes Go.WideShapes Go.ChangeAt Go.RowKit
open Me Np
set_option linter.unusedVariables false
set_option linter.unusedSimpArgs false

theorem rsum_any (A : Option Addr) (ns : List Nd) (c : Nat) (xs : List Nat) (down : Bool) (w : World) (hc : chk ns = 0) (hcap : ns.length ≤ c) (hseg : Seg w w.heap.size A (ns.flatMap ncs)) (hx : Its xs ns 0) :
    Calls Tryz.prog 94 #[.slice A ns.length c, .bool down] w fun e w' => e = .returned (.agg (tc (totD ns down xs))) ∧ Below w.heap.size w w' := by
  have hl := (chk_run hc).1
  have hr := chk_right hc
  refine rsum_of A ns c xs down (alD ns down) w hl hseg hx hr ?_ (fun x hm => alV_bd hc (alD_spec down hc hx x hm)) ?_ ?_
  · intro x hm n hn
    obtain ⟨n', hn', h6, _⟩ := its_beg hc hx x hm
    rw [hn] at hn'
    injection hn' with e
    rw [e]
    exact h6
  · intro k hk n hn hd
    have hv : AlV ns down k (alongP n down) := ⟨n, hn, by
      rw [if_neg]
      rintro ⟨h1, h2⟩
      rcases hd with hd | hd
      · rw [hd] at h2; cases h2
      · exact hd h1⟩
    exact alD_of hv
  · intro k hk n hn hdown h10 w1 hb1
    subst hdown
    obtain ⟨m, hm⟩ := item_ends hc hn (by omega) (by omega)
    obtain ⟨hm2, ss, hss⟩ := disc_steps hc hn h10 hm
    obtain ⟨xs', hxs, hsm⟩ := thr_its 2 0 hss
    have hv : AlV ns false k (tsum (thr ss (ns.drop (k + 1)) 0 2) (al0 (thr ss (ns.drop (k + 1)) 0 2) false) xs' tz).nat := ⟨n, hn, by rw [if_pos ⟨h10, rfl⟩]; exact ⟨ss, m - 2, xs', hss, hxs, rfl⟩⟩
    rw [alD_of hv]
    have hr3 : ∀ y ∈ thr ss (ns.drop (k + 1)) 0 2, right y = true := fun y hy => hr y (List.mem_of_mem_drop (thr_mem y hy))
    have hlen : (thr ss (ns.drop (k + 1)) 0 2).length ≤ 2000 := by
      have h1 := thr_len (j := 2) hss
      have h2 := hss.le
      rw [List.length_drop] at h2
      omega
    refine (rthree_any A ns c k m ss n w1 hc hcap (Seg.belowW hseg hb1) hn hm hss hm2 h10).mono ?_
    rintro e w2 ⟨vs, rfl, ho, hb2⟩
    obtain ⟨A2, c2, h2, hc2, _, hs2⟩ := Seg.of_own (ho.own 2 (by omega))
    refine ⟨vs, A2, c2, _, rfl, h2, hb2, ?_⟩
    have hsm' : ∀ x ∈ xs', ∀ y, (thr ss (ns.drop (k + 1)) 0 2)[x]? = some y → smallB y = true := fun x hx' y hy => by
      obtain ⟨y', hy', hs⟩ := hsm x hx'
      rw [Nat.sub_zero, hy] at hy'
      injection hy' with e
      rw [e]
      exact hs
    refine (rsum_of A2 (thr ss (ns.drop (k + 1)) 0 2) c2 xs' false (al0 (thr ss (ns.drop (k + 1)) 0 2) false) w2 hlen hs2 hxs hr3 (fun x hx' y hy h => ?_) (fun x _ => by have := al0_bd hr3 false x; omega) (fun x hx' y hy _ => by simp [al0, hy]) (fun x hx' y hy _ h => ?_)).mono ?_
    · have := hsm' x hx' y hy
      simp [smallB, h] at this
    · have := hsm' x hx' y hy
      simp [smallB, h] at this
    · rintro e w3 ⟨rfl, hb3⟩
      exact ⟨_, rfl, tsum_len _ _ _ _ ⟨rfl, rfl⟩, rfl, hb3⟩
end Go.Proofs.YtoboecenlangmaaGreat.No

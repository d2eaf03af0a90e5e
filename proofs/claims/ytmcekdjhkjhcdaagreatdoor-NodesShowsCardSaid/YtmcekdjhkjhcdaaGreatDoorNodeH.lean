import Derived.Test.YtmcekdjhkjhcdaaGreatDoorNodeG
/- Contracts of items and Count (printed by gen_nodeh.py). Conditions: those that each theorem names. -/
namespace Go.Proofs.YtmcekdjhkjhcdaaGreatDoor.No
open Go.ChangeShapes Go.WideShapes Go.ChangeAt Go.RowKit
open Me Np
set_option linter.unusedVariables false
set_option linter.unusedSimpArgs false

def nat64 (x : Nat) : Value := .int .i64 (x : Int)
/-- A slice of the call's own with these numbers. -/
def Made (w : World) (xs : List Nat) (e : Ending) (w' : World) : Prop := ∃ v, e = .returned v ∧ w'.ownsRow w.heap.size 3 1 v xs.length (xs.map nat64) ∧ Below w.heap.size w w'
/-- What the loop of items holds. -/
structure InvI (ns : List Nd) (w : World) (xs : List Nat) (a : Nat) (v : Value) (ys zs : List Nat) (wr : World) : Prop where
  all : ys ++ zs = xs
  rest : Its zs (ns.drop a) a
  le : a ≤ ns.length
  own : wr.ownsRow w.heap.size 3 1 v ys.length (ys.map nat64)
  low : Below w.heap.size w wr
theorem InvI.slice {ns : List Nd} {w : World} {xs : List Nat} {a : Nat} {v : Value} {ys zs : List Nat} {wr : World} (h : InvI ns w xs a v ys zs wr) : ∃ (A : Option Addr) (c : Nat), v = .slice A ys.length c ∧ ys.length ≤ c ∧ c ≤ maxLen := by
  rcases h.own.2 with ⟨rfl, h0⟩ | ⟨g, c, cur, rfl, hb, hg, hnc, hcm, hcs, htake⟩
  · exact ⟨none, 0, by rw [h0], by omega, by simp [maxLen]⟩
  · exact ⟨_, c, rfl, hnc, hcm⟩
set_option maxHeartbeats 1000000 in
set_option maxRecDepth 100000 in
theorem items_any (A : Option Addr) (ns : List Nd) (c : Nat) (xs : List Nat) (w : World) (hl : ns.length ≤ 2000) (hseg : Seg w w.heap.size A (ns.flatMap ncs)) (hx : Its xs ns 0) :
    Calls Tryz.prog 25 #[.slice A ns.length c] w (Made w xs) := by
  have HX := Lib.hid hx
  have HEN := Lib.hid fun (a m : Nat) w1 (h : Below w.heap.size w w1) hm => end_any A ns c a m w1 (by omega) (Seg.belowW hseg h) hm
  clear hseg hx
  have HL := Lib.hid (rfl : ns.length = ns.length)
  generalize hlen : ns.length = len at hl HEN HL ⊢
  clear HL
  have HL := Lib.hid hlen
  clear hlen
  go_enter Tryz.func25, Tryz.ntmps25
  go_wp2_with fail
  go_loopw [3, 4] (fun v i wr => ∃ (a : Nat) (ys zs : List Nat), i = .int .i64 a ∧ InvI ns w xs a v ys zs wr) (fun _ i _ => len - (intOf i).toNat)
  case atStart => exact ⟨0, [], xs, rfl, rfl, by simpa using HX.out, Nat.zero_le _, World.ownsRow_nil _ _ _ _, Below.refl _ _⟩
  case round =>
    obtain ⟨a, ys, zs, rfl, hI⟩ := hrel
    have hle := hI.le
    rw [HL.out] at hle
    have hyl : ys.length ≤ 2000 := by
      have h1 := Its.len HX.out
      have h2 := congrArg List.length hI.all
      rw [HL.out] at h1
      simp only [List.length_append] at h2
      omega
    have HI := Lib.hid hI
    clear hI
    by_cases hlt : a < len
    · have hz : ∃ m zs', zs = a :: zs' ∧ endc (ns.drop a) 0 = some m ∧ Its zs' ((ns.drop a).drop m) (a + m) := by
        have hr := HI.out.rest
        cases zs with
        | nil =>
          have hr : ns.drop a = [] := hr
          rw [List.drop_eq_nil_iff, HL.out] at hr
          omega
        | cons z zs' =>
          obtain ⟨rfl, m, h1, h2⟩ := hr
          exact ⟨m, zs', rfl, h1, h2⟩
      obtain ⟨m, zs', rfl, hm, hr⟩ := hz
      have hmb := endc_bd hm
      rw [List.length_drop, HL.out] at hmb
      have hma : a + m ≤ len := by omega
      have HM := Lib.hid hm
      have HR := Lib.hid hr
      have HB := Lib.hid hmb
      clear hm hr hmb
      go_wp2_with (at_builtin; refine wpList_push rfl _ _ 64 rfl w.heap.size 3 _ 1 8 Tryz.underlying64 info_int rfl (by decide) (by decide) _ _ _ rfl HI.out.own HI.out.low.size _ rfl rfl rfl (by simp) (by omega) ?_; intro v6 w6 hown6 hg6 hnn6)
      have hlow6 : Below w.heap.size w w6 := below_grown (Nat.le_refl _) (andAlloc HI.out.low _) hg6 (fun k hk => (HI.out.own.lt k hk).1)
      have HO6 := Lib.hid hown6
      clear hown6 hg6 hnn6
      refine (HEN.out a m w6 hlow6 HM.out).mono ?_
      rintro e w7 ⟨rfl, hb7⟩
      go_wp2_with fail
      have hB := HB.out
      go_roundw
      case rel => exact ⟨a + m, ys ++ [a], zs', rfl, by simpa using HI.out.all, by simpa [List.drop_drop] using HR.out, by rw [HL.out]; exact hma, own_below (by simpa [nat64] using HO6.out) hb7, andThen hlow6 hb7⟩
      case measure => simp [intOf]; omega
    · obtain rfl : a = len := by omega
      have hz : zs = [] := by
        have hr := HI.out.rest
        rw [List.drop_of_length_le (by rw [HL.out]; exact Nat.le_refl _)] at hr
        cases zs with
        | nil => rfl
        | cons z zs' =>
          obtain ⟨_, m, h1, _⟩ := hr
          simp [endc] at h1
      subst hz
      go_wp2_with fail
      go_ret
      have h1 := HI.out.all
      rw [List.append_nil] at h1
      subst h1
      exact ⟨_, rfl, HI.out.own, HI.out.low⟩
theorem made_len {w w' : World} {xs : List Nat} {v : Value} (h : w'.ownsRow w.heap.size 3 1 v xs.length (xs.map nat64)) : ∃ (A : Option Addr) (c : Nat), v = .slice A xs.length c := by
  rcases h.2 with ⟨rfl, h0⟩ | ⟨g, c, cur, rfl, _⟩
  · exact ⟨none, 0, by rw [h0]⟩
  · exact ⟨_, c, rfl⟩
end Go.Proofs.YtmcekdjhkjhcdaaGreatDoor.No

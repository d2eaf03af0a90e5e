import Derived.Test.YtmcekdjhkjhcdaaHmg
import Derived.BigQuiet
/- The document's Size. Conditions: those that each theorem names. -/
namespace Go.Proofs.Ytmcekdjhkjhcdaa.Hy
open Go.ChangeShapes Go.WideShapes Go.ChangeAt Go.RowKit
open Me Hp
set_option linter.unusedVariables false
set_option linter.unusedSimpArgs false
/-- How far two texts are the same. -/
def cpl : Nm → Nm → Nat
  | a :: x, b :: y => if a = b then cpl x y + 1 else 0
  | _, _ => 0
theorem cpl_le : ∀ a b : Nm, cpl a b ≤ a.length ∧ cpl a b ≤ b.length
  | [], _ => ⟨Nat.le_refl _, Nat.zero_le _⟩
  | _ :: _, [] => ⟨Nat.zero_le _, Nat.le_refl _⟩
  | a :: x, b :: y => by
    have := cpl_le x y
    unfold cpl
    simp only [List.length_cons]
    split <;> omega
theorem cpl_same : ∀ (a b : Nm) (q : Nat), q < cpl a b → a[q]? = b[q]?
  | [], _, _ => by intro h; simp [cpl] at h
  | _ :: _, [], _ => by intro h; simp [cpl] at h
  | a :: x, b :: y, q => by
    intro h
    unfold cpl at h
    split at h
    · rename_i e
      subst e
      cases q with
      | zero => rfl
      | succ q => simpa using cpl_same x y q (by omega)
    · omega
theorem cpl_end : ∀ (a b : Nm), cpl a b < a.length → cpl a b < b.length → a[cpl a b]? ≠ b[cpl a b]?
  | [], _ => by intro h; simp at h
  | _ :: _, [] => by intro _ h; simp at h
  | a :: x, b :: y => by
    intro h1 h2
    unfold cpl at h1 h2 ⊢
    split
    · rename_i e
      rw [if_pos e] at h1 h2
      simp only [List.length_cons] at h1 h2
      simpa using cpl_end x y (by omega) (by omega)
    · rename_i e
      simpa using e
theorem cpl_self (a : Nm) : cpl a [] = 0 := by cases a <;> rfl
/-- The letters of the pattern ahead. -/
def prv (L : List Xc) (k : Nat) : Nm := if k = 0 then [] else ((L[k - 1]?).getD ([], [])).1
/-- What Size has counted. -/
def dsz (L : List Xc) : Nat → Nat
  | 0 => 1
  | k + 1 => dsz L k + (((L[k]?).getD ([], [])).1.length - cpl ((L[k]?).getD ([], [])).1 (prv L k))
theorem dsz_le {L : List Xc} (h : ∀ p ∈ L, p.1.length ≤ 63) : ∀ k, dsz L k ≤ 1 + 63 * k
  | 0 => Nat.le_refl _
  | k + 1 => by
    have h1 := dsz_le h k
    have h2 : ((L[k]?).getD ([], [])).1.length ≤ 63 := by
      cases hp : L[k]? with
      | none => simp
      | some p => simpa using h p (List.mem_of_getElem? hp)
    show dsz L k + _ ≤ _
    omega
theorem prv_le {L : List Xc} (h : ∀ p ∈ L, p.1.length ≤ 63) (k : Nat) : (prv L k).length ≤ 63 := by
  unfold prv
  split
  · simp
  · cases hp : L[k - 1]? with
    | none => simp
    | some p => simpa using h p (List.mem_of_getElem? hp)
set_option maxHeartbeats 4000000 in
set_option maxRecDepth 100000 in
theorem rsize_any (B q0 : Nat) (L X : List Xc) (pv xv : Value) (w : World) (h : DAt w B q0 L X pv xv) (hP : Pats L) :
    Calls Try.prog 92 #[.pointer (some ⟨q0, 0, none⟩)] w fun e w' => e = .returned (.int .i64 (dsz L L.length : Int)) ∧ Below w.heap.size w w' := by
  have HD := Lib.hid (fun W (hb : Below w.heap.size w W) => h.below hb)
  have H63 := Lib.hid (show ∀ p ∈ L, p.1.length ≤ 63 from fun p hp => (hP.is p hp).2.2.1)
  have hf : L.length ≤ 5000 := hP.few
  obtain ⟨A, cP, rfl, hnc, hcm, hA⟩ := h.pr.slice
  generalize hln : L.length = n at *
  have HLN := Lib.hid hln
  clear h hP hln
  go_enter Try.func92, Try.ntmps92
  go_wp2_with fail
  go_loopw [3, 4, 5] (fun v3 v4 v5 wr => ∃ k : Nat, k ≤ n ∧ v5 = .int .i64 (k : Int) ∧ v3 = .int .i64 (dsz L k : Int) ∧ v4 = .string (S (prv L k)) ∧ Below w.heap.size w wr) (fun _ _ v5 _ => n - (intOf v5).toNat)
  case atStart => exact ⟨0, by omega, rfl, rfl, rfl, Below.refl _ _⟩
  case round =>
    obtain ⟨k, hk, rfl, rfl, rfl, hlow⟩ := hrel
    have cq : wr.cell? ⟨q0, 0, none⟩ = some (.slice A n cP) := (HD.out wr hlow).blk.cell 0
    have hdd := HD.out wr hlow
    have HLO := Lib.hid hlow
    clear hlow
    have hpl := prv_le H63.out k
    have hdl := dsz_le H63.out k
    by_cases hlt : k < n
    · obtain ⟨p, hp⟩ := get_some (l := L) (k := k) (by rw [HLN.out]; exact hlt)
      have hsl := H63.out p (List.mem_of_getElem? hp)
      obtain ⟨gP, cP', u, he, _, _, hgl, cy, cu, hu⟩ := hdd.pr.get hp
      injection he with he e2 e3
      subst he
      subst e3
      clear e2 hu cu
      have hkn : (k : Int) < (n : Int) := by omega
      have HDS := Lib.hid (show dsz L (k + 1) = dsz L k + (p.1.length - cpl p.1 (prv L k)) by show dsz L k + _ = _; rw [hp]; rfl)
      have HPV := Lib.hid (show prv L (k + 1) = p.1 by unfold prv; rw [if_neg (by omega), Nat.add_sub_cancel, hp]; rfl)
      clear hp hdd
      obtain ⟨s1, vs⟩ := p
      simp only at HDS HPV cy hsl
      generalize hpv : prv L k = p1 at *
      obtain ⟨hc1, hc2⟩ := cpl_le s1 p1
      have HSA := Lib.hid (cpl_same s1 p1)
      have HEN := Lib.hid (cpl_end s1 p1)
      generalize hCC : cpl s1 p1 = cc at *
      have hz1 : (S s1).size = s1.length := rfl
      have hz2 : (S p1).size = p1.length := rfl
      rw [← hz1] at hsl hc1
      rw [← hz2] at hpl hc2
      have HG := Lib.hid (fun (i : Nat) (h1 : i < (S s1).size) (h2 : i < (S p1).size) => show (i < cc → (S s1)[i] = (S p1)[i]) ∧ (i = cc → (S s1)[i] ≠ (S p1)[i]) by
        have g1 := get_list (S s1) i h1
        have g2 := get_list (S p1) i h2
        rw [S_list] at g1 g2
        constructor
        · intro hi
          have := HSA.out i hi
          rw [g1, g2] at this
          injection this
        · rintro rfl
          have := HEN.out (by rw [← hz1]; exact h1) (by rw [← hz2]; exact h2)
          rw [g1, g2] at this
          intro e; exact this (by rw [e]))
      have HZ := Lib.hid hz1
      clear HSA HEN hz1 hz2 hpv hCC
      generalize hYs : S s1 = Z at *
      have HZS := Lib.hid hYs
      generalize S p1 = Y at *
      generalize hdk : dsz L k = dk at *
      clear hYs hdk
      go_wp2_with fail
      obtain ⟨w5, hw5⟩ : ∃ w5, w5 = wr := ⟨wr, rfl⟩
      subst hw5
      go_loopw [7] (fun v7 wr => ∃ q : Nat, q ≤ cc ∧ v7 = .int .i64 (q : Int) ∧ Below w.heap.size w wr) (fun v7 _ => cc - (intOf v7).toNat)
      case atStart => exact ⟨0, by omega, rfl, HLO.out⟩
      case round =>
        obtain ⟨q, hq, rfl, hlow2⟩ := hrel
        have HL2 := Lib.hid hlow2
        clear hlow2 cq cy
        by_cases hqc : q < cc
        · have h1 : q < Z.size := by omega
          have h2 : q < Y.size := by omega
          have he := (HG.out q h1 h2).1 hqc
          have h1i : (q : Int) < (Z.size : Int) := by omega
          have h2i : (q : Int) < (Y.size : Int) := by omega
          go_wp2_with fail
          go_quiet (fail)
          go_wp2_with fail
          go_roundw
          case rel => exact ⟨q + 1, by omega, by go_num, below_drewN HL2.out _⟩
          case measure => simp [intOf]; omega
        · obtain rfl : q = cc := by omega
          have hint := Lib.hid (show Value.int IntKind.i64 ((dk : Int) + (Z.size : Int) - (q : Int)) = .int .i64 ((dsz L (k + 1) : Nat) : Int) by rw [HDS.out]; have := HZ.out; congr 1; omega)
          by_cases h1 : q < Z.size
          · have h1i : (q : Int) < (Z.size : Int) := by omega
            by_cases h2 : q < Y.size
            · have h2i : (q : Int) < (Y.size : Int) := by omega
              have he := (HG.out q h1 h2).2 rfl
              have hne : ((Z[q].toNat : Int) == (Y[q].toNat : Int)) = false := beq_eq_false_iff_ne.2 fun e => he (UInt8.toNat_inj.1 (by omega))
              go_wp2_with fail
              go_quiet (fail)
              go_wp2_with fail
              go_roundw
              case rel => exact ⟨k + 1, by omega, by go_num, hint.out, by rw [HPV.out, HZS.out], below_drewN HL2.out _⟩
              case measure => clear hkn; simp [intOf]; omega
            · have h2i : ¬ (q : Int) < (Y.size : Int) := by omega
              have h2d : decide ((q : Int) < (Y.size : Int)) = false := decide_eq_false h2i
              go_wp2_with fail
              go_quiet (fail)
              go_wp2_with fail
              go_roundw
              case rel => exact ⟨k + 1, by omega, by go_num, hint.out, by rw [HPV.out, HZS.out], below_drewN HL2.out _⟩
              case measure => clear hkn; simp [intOf]; omega
          · have h1i : ¬ (q : Int) < (Z.size : Int) := by omega
            have h1d : decide ((q : Int) < (Z.size : Int)) = false := decide_eq_false h1i
            go_wp2_with fail
            go_quiet (fail)
            go_wp2_with fail
            go_roundw
            case rel => exact ⟨k + 1, by omega, by go_num, hint.out, by rw [HPV.out, HZS.out], below_drewN HL2.out _⟩
            case measure => clear hkn; simp [intOf]; omega
    · obtain rfl : k = n := by omega
      have hkn : ¬ (k : Int) < (k : Int) := by omega
      clear hdd
      go_wp2_with fail
      go_ret
      exact ⟨rfl, HLO.out⟩
end Go.Proofs.Ytmcekdjhkjhcdaa.Hy

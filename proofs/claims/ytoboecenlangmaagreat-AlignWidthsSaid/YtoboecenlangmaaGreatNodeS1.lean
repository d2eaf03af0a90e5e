import Derived.Test.YtoboecenlangmaaGreatNodeRo
import Derived.Test.YtoboecenlangmaaGreatNodeTe
/- Contracts of the document's Ends and Starts. Conditions: those that each theorem names. -/
namespace Go.Proofs.YtoboecenlangmaaGreat.No
open Go.ChangeShapes Go.WideShapes Go.ChangeAt Go.RowKit
open Me Np
set_option linter.unusedVariables false
set_option linter.unusedSimpArgs false

/-- What the loop of Ends holds. -/
structure InvEr (ns : List Nd) (w : World) (a m i : Nat) (q : Int) (wr : World) : Prop where
  lt : i < m
  bd : 0 ≤ q ∧ q ≤ i
  pos : q = 0 → i = 0
  rest : endc (ns.drop (a + i)) q = some (m - i)
  low : Below w.heap.size w wr
set_option maxHeartbeats 1000000 in
set_option maxRecDepth 100000 in
theorem rends_any (A : Option Addr) (ns : List Nd) (c a m : Nat) (w : World) (hl : ns.length ≤ 9223372036854775806) (hseg : Seg w w.heap.size A (ns.flatMap ncs)) (hm : endc (ns.drop a) 0 = some m) (h6 : ∀ n, ns[a]? = some n → ¬ n.kind = 6) :
    Calls Tryz.prog 93 #[.slice A ns.length c, .int .i64 (a : Int)] w fun e w' => e = .returned (.int .i64 ((a + m : Nat) : Int)) ∧ Below w.heap.size w w' := by
  have hb0 := endc_bd hm
  rw [List.length_drop] at hb0
  have hb1 : a + m ≤ ns.length := by omega
  have hal : a < ns.length := by omega
  have HM := Lib.hid hm
  have HSEG := Lib.hid hseg
  obtain ⟨x0, hx0⟩ : ∃ x, ns[a]? = some x := ⟨_, List.getElem?_eq_getElem (by omega)⟩
  have h60 := h6 x0 hx0
  obtain ⟨b, off, rfl, hb, hnode⟩ := seg_node hseg hx0
  obtain ⟨x1, hx1, hd⟩ := get_drop (l := ns) (k := a) (by omega)
  rw [hx0] at hx1
  injection hx1 with hx1
  subst hx1
  have hrest := hm
  rw [hd] at hrest
  have HE := Lib.hid (endc_cons hrest)
  have HX0 := Lib.hid hx0
  have H60 := Lib.hid h60
  clear hseg hm hb0 h6 h60 hrest hd hx0
  generalize hlen : ns.length = len at *
  have HL := Lib.hid hlen
  clear hlen
  cases hO : opensB x0
  · have HO := Lib.hid hO
    clear hO
    go_enter Tryz.func93, Tryz.ntmps93
    go_wp2_with (first | (go_at_call 91; (with_reducible refine (ropens_any _ _).mono ?_); rintro e w' ⟨rfl, rfl⟩; simp only [HO.out]) | (with_reducible show wpList _ _ _ _ _ _; refine wpList_load_node rfl _ rfl _ _ rfl _ (by repeat (first | apply NodeAt.row | (apply Blk.new'; first | rfl | (simp; done)) | (apply Blk.node; apply Blk.new'; first | rfl | (simp; done)) | assumption | apply NodeAt.alloc)) ?_))
    go_ret
    refine ⟨ret_int ?_, andAlloc (Below.refl _ _) _⟩
    have h1 := HE.out
    have hcn : cnt x0 0 = 0 := by simp [cnt, HO.out, H60.out]
    rw [hcn] at h1
    rcases h1 with ⟨_, h1⟩ | ⟨h1, _⟩
    · omega
    · exact absurd rfl h1
  · have HO := Lib.hid hO
    have HO0 := Lib.hid hO
    clear hO
    go_enter Tryz.func93, Tryz.ntmps93
    go_wp2_with (first | (go_at_call 91; (with_reducible refine (ropens_any _ _).mono ?_); rintro e w' ⟨rfl, rfl⟩; simp only [HO.out]) | (with_reducible show wpList _ _ _ _ _ _; refine wpList_load_node rfl _ rfl _ _ rfl _ (by repeat (first | apply NodeAt.row | (apply Blk.new'; first | rfl | (simp; done)) | (apply Blk.node; apply Blk.new'; first | rfl | (simp; done)) | assumption | apply NodeAt.alloc)) ?_))
    clear hnode HE
    go_loopw [5, 6] (fun n v wr => ∃ (i : Nat) (q : Int), v = .int .i64 ((a : Int) + (i : Int)) ∧ n = .int .i64 q ∧ InvEr ns w a m i q wr) (fun _ v _ => a + m - (intOf v).toNat)
    case atStart =>
      have h1 := endc_bd HM.out
      exact ⟨0, 0, by simp, rfl, by omega, by simp, fun _ => rfl, by simpa using HM.out, andAlloc (Below.refl _ _) _⟩
    case round =>
      obtain ⟨i, q, rfl, rfl, hI⟩ := hrel
      obtain ⟨b0, b1⟩ := hI.bd
      have hi := hI.lt
      have hi2 : a + i < len := by omega
      have hi3 : 0 ≤ (a : Int) + i := by omega
      have hi4 : (a : Int) + i < len := by omega
      obtain ⟨x, hx, hd⟩ := get_drop (l := ns) (k := a + i) (by rw [HL.out]; omega)
      obtain ⟨b', off', he, _, hnode⟩ := seg_node HSEG.out hx
      injection he with he
      injection he with he1 he2
      subst he1; subst he2
      have hnr : NodeAt wr b (off + (a + i) * 19) x := hnode.below hI.low hb
      have hrest := hI.rest
      rw [hd] at hrest
      have HE := Lib.hid (endc_cons hrest)
      have HI := Lib.hid hI
      have hq0 : opensB x = true ∨ 1 ≤ q := by
        by_cases hq : q = 0
        · left
          have hi0 := hI.pos hq
          subst hi0
          rw [Nat.add_zero, HX0.out] at hx
          injection hx with hx
          rw [← hx]
          exact HO0.out
        · right; omega
      have htn : ((a : Int) + (i : Int)).toNat = a + i := by omega
      clear hx hd hnode hrest hI
      have hc0 : wr.cell? ⟨b, off + (a + i) * 19, none⟩ = some (.int .i64 x.kind) := hnr 0 _ rfl
      have hbw := hnr.lt
      cases hO : opensB x
      · have hq1 : 1 ≤ q := by rcases hq0 with h | h; (rw [h] at hO; cases hO); exact h
        by_cases k6 : x.kind = 6
        · have e6 : (x.kind == 6) = true := by simp [k6]
          have hcn : cnt x q = q - 1 := by simp [cnt, hO, k6]
          have HO := Lib.hid hO
          clear hO k6 hq0
          have HC := Lib.hid hcn
          clear hcn
          by_cases hz : q - 1 = 0
          · have ez : (q - 1 == 0) = true := by simp [hz]
            have HZ := Lib.hid hz
            clear hz
            go_wp2_with (first | (go_at_call 91; (with_reducible refine (ropens_any _ _).mono ?_); rintro e w' ⟨rfl, rfl⟩; simp only [HO.out]) | (with_reducible show wpList _ _ _ _ _ _; refine wpList_load_node rfl _ rfl _ _ rfl _ (by repeat (first | apply NodeAt.row | (apply Blk.new'; first | rfl | (simp; done)) | (apply Blk.node; apply Blk.new'; first | rfl | (simp; done)) | assumption | apply NodeAt.alloc)) ?_))
            try rw [Exit.noGoto_ret]
            go_ret
            refine ⟨ret_int ?_, andAlloc HI.out.low _⟩
            have h1 := HE.out
            rw [HC.out] at h1
            have h2 := HZ.out
            rcases h1 with ⟨_, h1⟩ | ⟨h1, _⟩
            · omega
            · exact absurd h2 h1
          · have ez : (q - 1 == 0) = false := by simp [hz]
            have HZ := Lib.hid hz
            clear hz
            go_wp2_with (first | (go_at_call 91; (with_reducible refine (ropens_any _ _).mono ?_); rintro e w' ⟨rfl, rfl⟩; simp only [HO.out]) | (with_reducible show wpList _ _ _ _ _ _; refine wpList_load_node rfl _ rfl _ _ rfl _ (by repeat (first | apply NodeAt.row | (apply Blk.new'; first | rfl | (simp; done)) | (apply Blk.node; apply Blk.new'; first | rfl | (simp; done)) | assumption | apply NodeAt.alloc)) ?_))
            have h1 := HE.out
            rw [HC.out] at h1
            rcases h1 with ⟨h1, _⟩ | ⟨_, h1, h2⟩
            · exact absurd h1 HZ.out
            go_roundw
            case rel => exact ⟨i + 1, q - 1, end_num, rfl, by omega, by have := HZ.out; omega, fun h => absurd h HZ.out, h2, andAlloc HI.out.low _⟩
            case measure => simp [intOf]; omega
        · have e6 : (x.kind == 6) = false := by simp [k6]
          have hcn : cnt x q = q := by simp [cnt, hO, k6]
          have HO := Lib.hid hO
          clear hO k6 hq0
          have HC := Lib.hid hcn
          clear hcn
          go_wp2_with (first | (go_at_call 91; (with_reducible refine (ropens_any _ _).mono ?_); rintro e w' ⟨rfl, rfl⟩; simp only [HO.out]) | (with_reducible show wpList _ _ _ _ _ _; refine wpList_load_node rfl _ rfl _ _ rfl _ (by repeat (first | apply NodeAt.row | (apply Blk.new'; first | rfl | (simp; done)) | (apply Blk.node; apply Blk.new'; first | rfl | (simp; done)) | assumption | apply NodeAt.alloc)) ?_))
          have h1 := HE.out
          rw [HC.out] at h1
          rcases h1 with ⟨h1, _⟩ | ⟨_, h1, h2⟩
          · omega
          go_roundw
          case rel => exact ⟨i + 1, q, end_num, rfl, by omega, by omega, fun h => by omega, h2, andAlloc HI.out.low _⟩
          case measure => simp [intOf]; omega
      · have k6 : ¬ x.kind = 6 := by
          intro h
          simp [opensB, h] at hO
        have e6 : (x.kind == 6) = false := by simp [k6]
        have hcn : cnt x q = q + 1 := by simp [cnt, hO]
        have HO := Lib.hid hO
        clear hO k6 hq0
        have HC := Lib.hid hcn
        clear hcn
        go_wp2_with (first | (go_at_call 91; (with_reducible refine (ropens_any _ _).mono ?_); rintro e w' ⟨rfl, rfl⟩; simp only [HO.out]) | (with_reducible show wpList _ _ _ _ _ _; refine wpList_load_node rfl _ rfl _ _ rfl _ (by repeat (first | apply NodeAt.row | (apply Blk.new'; first | rfl | (simp; done)) | (apply Blk.node; apply Blk.new'; first | rfl | (simp; done)) | assumption | apply NodeAt.alloc)) ?_))
        have h1 := HE.out
        rw [HC.out] at h1
        rcases h1 with ⟨h1, _⟩ | ⟨_, h1, h2⟩
        · omega
        go_roundw
        case rel => exact ⟨i + 1, q + 1, end_num, rfl, by omega, by omega, fun h => by omega, h2, andAlloc HI.out.low _⟩
        case measure => simp [intOf]; omega
set_option maxHeartbeats 1000000 in
set_option maxRecDepth 100000 in
theorem rstarts_any (A : Option Addr) (ns : List Nd) (c : Nat) (xs : List Nat) (w : World) (hl : ns.length ≤ 2000) (hseg : Seg w w.heap.size A (ns.flatMap ncs)) (hx : Its xs ns 0) (h6 : ∀ x ∈ xs, ∀ n, ns[x]? = some n → ¬ n.kind = 6) :
    Calls Tryz.prog 92 #[.slice A ns.length c] w (Made w xs) := by
  have HX := Lib.hid hx
  have HEN := Lib.hid fun (a m : Nat) w1 (h : Below w.heap.size w w1) hm hk => rends_any A ns c a m w1 (by omega) (Seg.belowW hseg h) hm hk
  have H6 := Lib.hid h6
  clear hseg hx h6
  have HL := Lib.hid (rfl : ns.length = ns.length)
  generalize hlen : ns.length = len at hl HEN HL ⊢
  clear HL
  have HL := Lib.hid hlen
  clear hlen
  go_enter Tryz.func92, Tryz.ntmps92
  go_wp2_with fail
  go_loopw [3, 4] (fun v i wr => ∃ (a : Nat) (ys zs : List Nat), i = .int .i64 a ∧ InvI ns w xs a v ys zs wr) (fun _ i _ => len - (intOf i).toNat)
  case atStart => exact ⟨0, [], xs, rfl, rfl, by simpa using HX.out, Nat.zero_le _, World.ownsRow_nil _ _ _ _, Below.refl _ _⟩
  case round =>
    obtain ⟨a, ys, zs, rfl, hI⟩ := hrel
    have hle := hI.le
    rw [HL.out] at hle
    have hyl : ys.length ≤ 2000 := by
      have h1 := Its.len HX.out
      have h2 := congrArg List.length hI.all
      rw [HL.out] at h1
      simp only [List.length_append] at h2
      omega
    have HI := Lib.hid hI
    clear hI
    by_cases hlt : a < len
    · have hz : ∃ m zs', zs = a :: zs' ∧ endc (ns.drop a) 0 = some m ∧ Its zs' ((ns.drop a).drop m) (a + m) := by
        have hr := HI.out.rest
        cases zs with
        | nil =>
          have hr : ns.drop a = [] := hr
          rw [List.drop_eq_nil_iff, HL.out] at hr
          omega
        | cons z zs' =>
          obtain ⟨rfl, m, h1, h2⟩ := hr
          exact ⟨m, zs', rfl, h1, h2⟩
      obtain ⟨m, zs', rfl, hm, hr⟩ := hz
      have hmb := endc_bd hm
      rw [List.length_drop, HL.out] at hmb
      have hma : a + m ≤ len := by omega
      have HM := Lib.hid hm
      have HR := Lib.hid hr
      have HB := Lib.hid hmb
      clear hm hr hmb
      go_wp2_with (at_builtin; refine wpList_push rfl _ _ 26 rfl w.heap.size 3 _ 1 8 Tryz.underlying26 info_int rfl (by decide) (by decide) _ _ _ rfl HI.out.own HI.out.low.size _ rfl rfl rfl (by simp) (by omega) ?_; intro v6 w6 hown6 hg6 hnn6)
      have hlow6 : Below w.heap.size w w6 := below_grown (Nat.le_refl _) (andAlloc HI.out.low _) hg6 (fun k hk => (HI.out.own.lt k hk).1)
      have HO6 := Lib.hid hown6
      clear hown6 hg6 hnn6
      refine (HEN.out a m w6 hlow6 HM.out (H6.out a (by rw [← HI.out.all]; simp))).mono ?_
      rintro e w7 ⟨rfl, hb7⟩
      go_wp2_with fail
      have hB := HB.out
      go_roundw
      case rel => exact ⟨a + m, ys ++ [a], zs', rfl, by simpa using HI.out.all, by simpa [List.drop_drop] using HR.out, by rw [HL.out]; exact hma, own_below (by simpa [nat64] using HO6.out) hb7, andThen hlow6 hb7⟩
      case measure => simp [intOf]; omega
    · obtain rfl : a = len := by omega
      have hz : zs = [] := by
        have hr := HI.out.rest
        rw [List.drop_of_length_le (by rw [HL.out]; exact Nat.le_refl _)] at hr
        cases zs with
        | nil => rfl
        | cons z zs' =>
          obtain ⟨_, m, h1, _⟩ := hr
          simp [endc] at h1
      subst hz
      go_wp2_with fail
      go_ret
      have h1 := HI.out.all
      rw [List.append_nil] at h1
      subst h1
      exact ⟨_, rfl, HI.out.own, HI.out.low⟩
end Go.Proofs.YtoboecenlangmaaGreat.No

import Derived.Test.YtoboecenlangmaaGreatNw
import Derived.IntWalk
/- How great totals can be, in plain Lean. No Go in sight. Conditions: those that each theorem names. -/
namespace Go.Proofs.YtoboecenlangmaaGreat.Np
theorem TB.mono {k m : Nat} {T : Tot} (h : TB k T) (hk : k ≤ m) : TB m T := by
  obtain ⟨h1, h2, h3, h4, h5⟩ := h
  exact ⟨by omega, h2, h3, fun i => by have := h4 i; omega, fun i => by have := h5 i; omega⟩
theorem tsum_tb (ns : List Nd) (al : Nat → Int) (hr : ∀ x ∈ ns, right x = true) : ∀ (xs : List Nat) (T : Tot) (k : Nat), (∀ x ∈ xs, -4294967292000 ≤ al x ∧ al x ≤ 4294967292000) → TB k T → TB (k + xs.length) (tsum ns al xs T)
  | [], T, k, h, hT => by simpa [tsum] using hT
  | x :: xs, T, k, h, hT => by
    have hx := h x (by simp)
    have hxs : ∀ y ∈ xs, -4294967292000 ≤ al y ∧ al y ≤ 4294967292000 := fun y hy => h y (by simp [hy])
    simp only [tsum, List.length_cons]
    have e : k + (xs.length + 1) = (k + 1) + xs.length := by omega
    rw [e]
    split
    · exact tsum_tb ns al hr xs T (k + 1) hxs (hT.mono (by omega))
    · rename_i n hn
      exact tsum_tb ns al hr xs _ (k + 1) hxs (hT.step (hr n (List.mem_of_getElem? hn)) hx)
theorem totD_tb {l : List Nd} {xs : List Nat} (down : Bool) (h : chk l = 0) (hx : Its xs l 0) : TB 2000 (totD l down xs) := by
  have h1 := tsum_tb l (alD l down) (chk_right h) xs tz 0 (fun x hm => alV_bd h (alD_spec down h hx x hm)) TB.zero
  have h2 := hx.len
  have h3 : l.length ≤ 2000 := by
    unfold chk at h
    split at h
    · cases h
    · omega
  exact TB.mono h1 (by omega)
/-- What the law of joined lists asks of the three totals. -/
structure J3 (T U V : Tot) : Prop where
  nat : V.nat = IntKind.i64.wrap (T.nat + U.nat)
  st : ∀ i : Nat, V.st.getD i 0 = IntKind.i64.wrap (T.st.getD i 0 + U.st.getD i 0)
  sh : ∀ i : Nat, V.sh.getD i 0 = IntKind.i64.wrap (T.sh.getD i 0 + U.sh.getD i 0)
theorem j3_of {a b : List Nd} {xs ys : List Nat} (down : Bool) (ha : chk a = 0) (hb : chk b = 0) (hx : Its xs a 0) (hy : Its ys b 0) :
    J3 (totD a down xs) (totD b down ys) (totD (a ++ b) down (xs ++ ys.map (a.length + ·))) := by
  have h := tot_join down ha hb hx hy
  have b1 := totD_tb down ha hx
  have b2 := totD_tb down hb hy
  refine ⟨?_, fun i => ?_, fun i => ?_⟩
  · have h1 := b1.nat
    have h2 := b2.nat
    rw [IntWalk.i64_in _ (by omega), h.nat]
    omega
  · have h1 := b1.st i
    have h2 := b2.st i
    rw [IntWalk.i64_in _ (by omega), h.st i]
    omega
  · have h1 := b1.sh i
    have h2 := b2.sh i
    rw [IntWalk.i64_in _ (by omega), h.sh i]
    omega
end Go.Proofs.YtoboecenlangmaaGreat.Np

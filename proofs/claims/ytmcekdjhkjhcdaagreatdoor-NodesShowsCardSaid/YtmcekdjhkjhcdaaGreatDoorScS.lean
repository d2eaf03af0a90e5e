import Derived.Test.YtmcekdjhkjhcdaaGreatDoorSc
/- Texts out of bytes. No conditions. -/
namespace Go.Proofs.YtmcekdjhkjhcdaaGreatDoor.Ss

/-- A text out of its bytes. -/
abbrev S (l : List UInt8) : ByteArray := ⟨l.toArray⟩
theorem S_size (l : List UInt8) : (S l).size = l.length := by
  show l.toArray.size = _
  simp
theorem S_app (a b : List UInt8) : S a ++ S b = S (a ++ b) := by
  unfold S
  rw [ByteArray.mk_append_mk]
end Go.Proofs.YtmcekdjhkjhcdaaGreatDoor.Ss

/- Small facts that the walk uses: which kinds of whole numbers are signed. No conditions. -/
import Derived.WalkKit
namespace Go.Proofs.Ytikekepiimaccaa.X
@[go_sem] theorem signed_u64 : IntKind.u64.signed = false := rfl
@[go_sem] theorem signed_u32 : IntKind.u32.signed = false := rfl
@[go_sem] theorem signed_u8 : IntKind.u8.signed = false := rfl
theorem lit_size (l : List UInt8) : (ByteArray.mk l.toArray).size = l.length := rfl
end Go.Proofs.Ytikekepiimaccaa.X

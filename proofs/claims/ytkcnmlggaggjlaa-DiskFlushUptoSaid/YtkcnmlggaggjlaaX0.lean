/- Small facts that the walk uses: which kinds of whole numbers are signed. No conditions. -/
import Derived.WalkKit
namespace Go.Proofs.Ytkcnmlggaggjlaa.X
@[go_sem] theorem signed_u64 : IntKind.u64.signed = false := rfl
@[go_sem] theorem signed_u32 : IntKind.u32.signed = false := rfl
@[go_sem] theorem signed_u8 : IntKind.u8.signed = false := rfl
end Go.Proofs.Ytkcnmlggaggjlaa.X

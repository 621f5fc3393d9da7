/-
  No cell of these rows narrows 'for every input' (looked for: loops, veiled, ifaces, maps, wideKeys, modest, calm, conditions, laid).
  DERIVED. THE GIVEN ROWS OF THIS SEAT. 12 by the template 'for every input the law returns true; each argument reads behind the call as it read before'; 0 by the template 'total and deterministic' (their statements: YtkcnmlggaggjlaaTotals.lean).
  GIVEN WITH THE SEED: the statements are not yours to turn. If you find one false, say at which input.
  Laid BY PROGRAM, IN A SANDBOX (cutbox-rows.mjs): the forced cells as the released guide's own fill.sh prints them over the translation 652a85a0cf593c38… (all of the seat's roots in one cut). By AI agents, Wed Nov 11 2026. No macro, syntax, notation, axiom, sorry.
-/
import Derived.Test.YtkcnmlggaggjlaaChecked
import GoSem.Claim
import GoSem.ClaimJoined
import GoSem.ClaimMapViews
import Derived.JoinedTies
import Derived.KernelRfl
namespace Go.Proofs.Ytkcnmlggaggjlaa
/- THE CELL 'sum', in the pinned program and in every row, IS THE sha256 OF THE DUMP (.gsa) THAT YtkcnmlggaggjlaaProg.lean LOADS. Nothing in Lean hashes anything: it is a label: what it is worth is what the hold of that sum in a sandbox is worth. -/
noncomputable def Try.pinned : Pinned := { name := "ytkcnmlggaggjlaa", sum := "652a85a0cf593c38c6afc5659c63986f4baadb7972279514e67fec360a64c3d9", checked := Try.checked }
namespace Rows
def none {H : Type} : Left H := { results := [], args := [] }

/-- 'holtlaw0.HoltNames': WHATEVER THE INPUT: true; the input reads as it did. -/
def holtNamesSpec : ChangeSpec := { name := "holtNames", fn := fun _ => fun
  | [] => { results := [.lit (.bool true)], args := [] }
  | _ => none }
def holtNamesRow : OpenClaim := { program := "ytkcnmlggaggjlaa", sum := "652a85a0cf593c38c6afc5659c63986f4baadb7972279514e67fec360a64c3d9", func := "holt/holtlaw0.HoltNames", spec := "holtNames", apart := false }
def HoltNamesSaid : Prop := holtNamesRow.holds Try.pinned (OpenSpec.ofChange holtNamesSpec)

/-- ITS FALSE NEIGHBOUR: 'it returns false'. Refute it at one input. -/
def holtNamesWrong : ChangeSpec := { name := "holtNames", fn := fun _ => fun
  | [] => { results := [.lit (.bool false)], args := [] }
  | _ => none }
def HoltNamesWrongFalsely : Prop := holtNamesRow.holds Try.pinned (OpenSpec.ofChange holtNamesWrong)

/-- 'holtlaw1.NumSums': WHATEVER THE INPUT: true; the input reads as it did. -/
def numSumsSpec : ChangeSpec := { name := "numSums", fn := fun _ => fun
  | [d1, d2] => { results := [.lit (.bool true)], args := [d1, d2] }
  | _ => none }
def numSumsRow : OpenClaim := { program := "ytkcnmlggaggjlaa", sum := "652a85a0cf593c38c6afc5659c63986f4baadb7972279514e67fec360a64c3d9", func := "holt/holtlaw1.NumSums", spec := "numSums", apart := false }
def NumSumsSaid : Prop := numSumsRow.holds Try.pinned (OpenSpec.ofChange numSumsSpec)

/-- ITS FALSE NEIGHBOUR: 'it returns false'. Refute it at one input. -/
def numSumsWrong : ChangeSpec := { name := "numSums", fn := fun _ => fun
  | [d1, d2] => { results := [.lit (.bool false)], args := [d1, d2] }
  | _ => none }
def NumSumsWrongFalsely : Prop := numSumsRow.holds Try.pinned (OpenSpec.ofChange numSumsWrong)

/-- 'holtlaw1.NumLaws': WHATEVER THE INPUT: true; the input reads as it did. -/
def numLawsSpec : ChangeSpec := { name := "numLaws", fn := fun _ => fun
  | [d1, d2] => { results := [.lit (.bool true)], args := [d1, d2] }
  | _ => none }
def numLawsRow : OpenClaim := { program := "ytkcnmlggaggjlaa", sum := "652a85a0cf593c38c6afc5659c63986f4baadb7972279514e67fec360a64c3d9", func := "holt/holtlaw1.NumLaws", spec := "numLaws", apart := false }
def NumLawsSaid : Prop := numLawsRow.holds Try.pinned (OpenSpec.ofChange numLawsSpec)

/-- ITS FALSE NEIGHBOUR: 'it returns false'. Refute it at one input. -/
def numLawsWrong : ChangeSpec := { name := "numLaws", fn := fun _ => fun
  | [d1, d2] => { results := [.lit (.bool false)], args := [d1, d2] }
  | _ => none }
def NumLawsWrongFalsely : Prop := numLawsRow.holds Try.pinned (OpenSpec.ofChange numLawsWrong)

/-- 'holtlaw21.HandleTexts': WHATEVER THE INPUT: true; the input reads as it did. -/
def handleTextsSpec : ChangeSpec := { name := "handleTexts", fn := fun _ => fun
  | [d1, d2] => { results := [.lit (.bool true)], args := [d1, d2] }
  | _ => none }
def handleTextsRow : OpenClaim := { program := "ytkcnmlggaggjlaa", sum := "652a85a0cf593c38c6afc5659c63986f4baadb7972279514e67fec360a64c3d9", func := "holt/holtlaw21.HandleTexts", spec := "handleTexts", apart := false }
def HandleTextsSaid : Prop := handleTextsRow.holds Try.pinned (OpenSpec.ofChange handleTextsSpec)

/-- ITS FALSE NEIGHBOUR: 'it returns false'. Refute it at one input. -/
def handleTextsWrong : ChangeSpec := { name := "handleTexts", fn := fun _ => fun
  | [d1, d2] => { results := [.lit (.bool false)], args := [d1, d2] }
  | _ => none }
def HandleTextsWrongFalsely : Prop := handleTextsRow.holds Try.pinned (OpenSpec.ofChange handleTextsWrong)

/-- 'holtlaw1.NumTexts': WHATEVER THE INPUT: true; the input reads as it did. -/
def numTextsSpec : ChangeSpec := { name := "numTexts", fn := fun _ => fun
  | [d1, d2, d3] => { results := [.lit (.bool true)], args := [d1, d2, d3] }
  | _ => none }
def numTextsRow : OpenClaim := { program := "ytkcnmlggaggjlaa", sum := "652a85a0cf593c38c6afc5659c63986f4baadb7972279514e67fec360a64c3d9", func := "holt/holtlaw1.NumTexts", spec := "numTexts", apart := false }
def NumTextsSaid : Prop := numTextsRow.holds Try.pinned (OpenSpec.ofChange numTextsSpec)

/-- ITS FALSE NEIGHBOUR: 'it returns false'. Refute it at one input. -/
def numTextsWrong : ChangeSpec := { name := "numTexts", fn := fun _ => fun
  | [d1, d2, d3] => { results := [.lit (.bool false)], args := [d1, d2, d3] }
  | _ => none }
def NumTextsWrongFalsely : Prop := numTextsRow.holds Try.pinned (OpenSpec.ofChange numTextsWrong)

/-- 'holtlaw1.NumBack': WHATEVER THE INPUT: true; the input reads as it did. -/
def numBackSpec : ChangeSpec := { name := "numBack", fn := fun _ => fun
  | [d1, d2] => { results := [.lit (.bool true)], args := [d1, d2] }
  | _ => none }
def numBackRow : OpenClaim := { program := "ytkcnmlggaggjlaa", sum := "652a85a0cf593c38c6afc5659c63986f4baadb7972279514e67fec360a64c3d9", func := "holt/holtlaw1.NumBack", spec := "numBack", apart := false }
def NumBackSaid : Prop := numBackRow.holds Try.pinned (OpenSpec.ofChange numBackSpec)

/-- ITS FALSE NEIGHBOUR: 'it returns false'. Refute it at one input. -/
def numBackWrong : ChangeSpec := { name := "numBack", fn := fun _ => fun
  | [d1, d2] => { results := [.lit (.bool false)], args := [d1, d2] }
  | _ => none }
def NumBackWrongFalsely : Prop := numBackRow.holds Try.pinned (OpenSpec.ofChange numBackWrong)

/-- 'holtlaw15.ChargeSums': WHATEVER THE INPUT: true; the input reads as it did. -/
def chargeSumsSpec : ChangeSpec := { name := "chargeSums", fn := fun _ => fun
  | [d1, d2, d3, d4] => { results := [.lit (.bool true)], args := [d1, d2, d3, d4] }
  | _ => none }
def chargeSumsRow : OpenClaim := { program := "ytkcnmlggaggjlaa", sum := "652a85a0cf593c38c6afc5659c63986f4baadb7972279514e67fec360a64c3d9", func := "holt/holtlaw15.ChargeSums", spec := "chargeSums", inPlace := ["math/bits.Add64", "math/bits.Sub64"], apart := false }
def ChargeSumsSaid : Prop := chargeSumsRow.holds Try.pinned (OpenSpec.ofChange chargeSumsSpec)

/-- ITS FALSE NEIGHBOUR: 'it returns false'. Refute it at one input. -/
def chargeSumsWrong : ChangeSpec := { name := "chargeSums", fn := fun _ => fun
  | [d1, d2, d3, d4] => { results := [.lit (.bool false)], args := [d1, d2, d3, d4] }
  | _ => none }
def ChargeSumsWrongFalsely : Prop := chargeSumsRow.holds Try.pinned (OpenSpec.ofChange chargeSumsWrong)

/-- 'holtlaw15.ChargeAdds': WHATEVER THE INPUT: true; the input reads as it did. -/
def chargeAddsSpec : ChangeSpec := { name := "chargeAdds", fn := fun _ => fun
  | [d1, d2, d3] => { results := [.lit (.bool true)], args := [d1, d2, d3] }
  | _ => none }
def chargeAddsRow : OpenClaim := { program := "ytkcnmlggaggjlaa", sum := "652a85a0cf593c38c6afc5659c63986f4baadb7972279514e67fec360a64c3d9", func := "holt/holtlaw15.ChargeAdds", spec := "chargeAdds", inPlace := ["math/bits.Add64", "math/bits.Sub64"], apart := false }
def ChargeAddsSaid : Prop := chargeAddsRow.holds Try.pinned (OpenSpec.ofChange chargeAddsSpec)

/-- ITS FALSE NEIGHBOUR: 'it returns false'. Refute it at one input. -/
def chargeAddsWrong : ChangeSpec := { name := "chargeAdds", fn := fun _ => fun
  | [d1, d2, d3] => { results := [.lit (.bool false)], args := [d1, d2, d3] }
  | _ => none }
def ChargeAddsWrongFalsely : Prop := chargeAddsRow.holds Try.pinned (OpenSpec.ofChange chargeAddsWrong)

/-- 'holtlaw15.ChargeTurns': WHATEVER THE INPUT: true; the input reads as it did. -/
def chargeTurnsSpec : ChangeSpec := { name := "chargeTurns", fn := fun _ => fun
  | [d1, d2, d3, d4] => { results := [.lit (.bool true)], args := [d1, d2, d3, d4] }
  | _ => none }
def chargeTurnsRow : OpenClaim := { program := "ytkcnmlggaggjlaa", sum := "652a85a0cf593c38c6afc5659c63986f4baadb7972279514e67fec360a64c3d9", func := "holt/holtlaw15.ChargeTurns", spec := "chargeTurns", inPlace := ["math/bits.Add64", "math/bits.Sub64"], apart := false }
def ChargeTurnsSaid : Prop := chargeTurnsRow.holds Try.pinned (OpenSpec.ofChange chargeTurnsSpec)

/-- ITS FALSE NEIGHBOUR: 'it returns false'. Refute it at one input. -/
def chargeTurnsWrong : ChangeSpec := { name := "chargeTurns", fn := fun _ => fun
  | [d1, d2, d3, d4] => { results := [.lit (.bool false)], args := [d1, d2, d3, d4] }
  | _ => none }
def ChargeTurnsWrongFalsely : Prop := chargeTurnsRow.holds Try.pinned (OpenSpec.ofChange chargeTurnsWrong)

/-- 'holtlaw3.DiskFlush': WHATEVER THE INPUT: true; the input reads as it did. -/
def diskFlushSpec : ChangeSpec := { name := "diskFlush", fn := fun _ => fun
  | [d1, d2] => { results := [.lit (.bool true)], args := [d1, d2] }
  | _ => none }
def diskFlushRow : OpenClaim := { program := "ytkcnmlggaggjlaa", sum := "652a85a0cf593c38c6afc5659c63986f4baadb7972279514e67fec360a64c3d9", func := "holt/holtlaw3.DiskFlush", spec := "diskFlush", apart := false }
def DiskFlushSaid : Prop := diskFlushRow.holds Try.pinned (OpenSpec.ofChange diskFlushSpec)

/-- ITS FALSE NEIGHBOUR: 'it returns false'. Refute it at one input. -/
def diskFlushWrong : ChangeSpec := { name := "diskFlush", fn := fun _ => fun
  | [d1, d2] => { results := [.lit (.bool false)], args := [d1, d2] }
  | _ => none }
def DiskFlushWrongFalsely : Prop := diskFlushRow.holds Try.pinned (OpenSpec.ofChange diskFlushWrong)

/-- 'holtlaw3.DiskReads': WHATEVER THE INPUT: true; the input reads as it did. -/
def diskReadsSpec : ChangeSpec := { name := "diskReads", fn := fun _ => fun
  | [d1, d2] => { results := [.lit (.bool true)], args := [d1, d2] }
  | _ => none }
def diskReadsRow : OpenClaim := { program := "ytkcnmlggaggjlaa", sum := "652a85a0cf593c38c6afc5659c63986f4baadb7972279514e67fec360a64c3d9", func := "holt/holtlaw3.DiskReads", spec := "diskReads", apart := false }
def DiskReadsSaid : Prop := diskReadsRow.holds Try.pinned (OpenSpec.ofChange diskReadsSpec)

/-- ITS FALSE NEIGHBOUR: 'it returns false'. Refute it at one input. -/
def diskReadsWrong : ChangeSpec := { name := "diskReads", fn := fun _ => fun
  | [d1, d2] => { results := [.lit (.bool false)], args := [d1, d2] }
  | _ => none }
def DiskReadsWrongFalsely : Prop := diskReadsRow.holds Try.pinned (OpenSpec.ofChange diskReadsWrong)

/-- 'holtlaw3.DiskTorn': WHATEVER THE INPUT: true; the input reads as it did. -/
def diskTornSpec : ChangeSpec := { name := "diskTorn", fn := fun _ => fun
  | [d1, d2, d3, d4, d5] => { results := [.lit (.bool true)], args := [d1, d2, d3, d4, d5] }
  | _ => none }
def diskTornRow : OpenClaim := { program := "ytkcnmlggaggjlaa", sum := "652a85a0cf593c38c6afc5659c63986f4baadb7972279514e67fec360a64c3d9", func := "holt/holtlaw3.DiskTorn", spec := "diskTorn", apart := false }
def DiskTornSaid : Prop := diskTornRow.holds Try.pinned (OpenSpec.ofChange diskTornSpec)

/-- ITS FALSE NEIGHBOUR: 'it returns false'. Refute it at one input. -/
def diskTornWrong : ChangeSpec := { name := "diskTorn", fn := fun _ => fun
  | [d1, d2, d3, d4, d5] => { results := [.lit (.bool false)], args := [d1, d2, d3, d4, d5] }
  | _ => none }
def DiskTornWrongFalsely : Prop := diskTornRow.holds Try.pinned (OpenSpec.ofChange diskTornWrong)

/- THE SECOND FORM. 'bulk': how many values and letters a reading holds, each counted each time it is reached (what is shared counts as often as it is met; a slice's spare places count too). A statement '..UptoSaid' is the law's where the arguments, and the package variables that the reading takes, are together of bulk at most 1048576: NARROWER than '..Said'. Prove '..Said' where nothing that the law and all that it calls make is longer than what came in: it says more and counts as full. Else prove '..UptoSaid'. A law counts once. -/
mutual
def uptoBulk {H : Type} : DataW H → Nat
  | .lit (.string bytes) => bytes.length + 1
  | .lit _ => 1
  | .nil => 1
  | .ptr d => uptoBulk d + 1
  | .slice elems spare => uptoBulkAll elems + uptoBulkAll spare + 1
  | .agg parts => uptoBulkAll parts + 1
  | .iface _ d => uptoBulk d + 1
  | .map entries => uptoBulkEntries entries + 1
  | .held _ => 1
def uptoBulkAll {H : Type} : List (DataW H) → Nat
  | [] => 0
  | d :: r => uptoBulk d + uptoBulkAll r
def uptoBulkEntries {H : Type} : List (Lit × DataW H) → Nat
  | [] => 0
  | x :: r => uptoBulkEntry x + uptoBulkEntries r
def uptoBulkEntry {H : Type} : Lit × DataW H → Nat
  | (.string bytes, d) => bytes.length + uptoBulk d + 1
  | (_, d) => uptoBulk d + 1
 end
def uptoSmall : (H : Type) → List (DataW H) → Bool := fun _ ds => decide (uptoBulkAll ds ≤ 1048576)
def OpenSpec.upto (s : _root_.Go.ChangeSpec) : _root_.Go.OpenSpec := { _root_.Go.OpenSpec.ofChange s with cond := some uptoSmall }

/-- 'holtlaw0.HoltNames', WHERE WHAT IT READS IS OF BULK AT MOST 1048576: true; the input reads as it did. -/
def holtNamesUptoRow : OpenClaim := { program := "ytkcnmlggaggjlaa", sum := "652a85a0cf593c38c6afc5659c63986f4baadb7972279514e67fec360a64c3d9", func := "holt/holtlaw0.HoltNames", spec := "holtNames", apart := false, narrowed := true }
def HoltNamesUptoSaid : Prop := holtNamesUptoRow.holds Try.pinned (OpenSpec.upto holtNamesSpec)

/-- 'holtlaw1.NumSums', WHERE WHAT IT READS IS OF BULK AT MOST 1048576: true; the input reads as it did. -/
def numSumsUptoRow : OpenClaim := { program := "ytkcnmlggaggjlaa", sum := "652a85a0cf593c38c6afc5659c63986f4baadb7972279514e67fec360a64c3d9", func := "holt/holtlaw1.NumSums", spec := "numSums", apart := false, narrowed := true }
def NumSumsUptoSaid : Prop := numSumsUptoRow.holds Try.pinned (OpenSpec.upto numSumsSpec)

/-- 'holtlaw1.NumLaws', WHERE WHAT IT READS IS OF BULK AT MOST 1048576: true; the input reads as it did. -/
def numLawsUptoRow : OpenClaim := { program := "ytkcnmlggaggjlaa", sum := "652a85a0cf593c38c6afc5659c63986f4baadb7972279514e67fec360a64c3d9", func := "holt/holtlaw1.NumLaws", spec := "numLaws", apart := false, narrowed := true }
def NumLawsUptoSaid : Prop := numLawsUptoRow.holds Try.pinned (OpenSpec.upto numLawsSpec)

/-- 'holtlaw21.HandleTexts', WHERE WHAT IT READS IS OF BULK AT MOST 1048576: true; the input reads as it did. -/
def handleTextsUptoRow : OpenClaim := { program := "ytkcnmlggaggjlaa", sum := "652a85a0cf593c38c6afc5659c63986f4baadb7972279514e67fec360a64c3d9", func := "holt/holtlaw21.HandleTexts", spec := "handleTexts", apart := false, narrowed := true }
def HandleTextsUptoSaid : Prop := handleTextsUptoRow.holds Try.pinned (OpenSpec.upto handleTextsSpec)

/-- 'holtlaw1.NumTexts', WHERE WHAT IT READS IS OF BULK AT MOST 1048576: true; the input reads as it did. -/
def numTextsUptoRow : OpenClaim := { program := "ytkcnmlggaggjlaa", sum := "652a85a0cf593c38c6afc5659c63986f4baadb7972279514e67fec360a64c3d9", func := "holt/holtlaw1.NumTexts", spec := "numTexts", apart := false, narrowed := true }
def NumTextsUptoSaid : Prop := numTextsUptoRow.holds Try.pinned (OpenSpec.upto numTextsSpec)

/-- 'holtlaw1.NumBack', WHERE WHAT IT READS IS OF BULK AT MOST 1048576: true; the input reads as it did. -/
def numBackUptoRow : OpenClaim := { program := "ytkcnmlggaggjlaa", sum := "652a85a0cf593c38c6afc5659c63986f4baadb7972279514e67fec360a64c3d9", func := "holt/holtlaw1.NumBack", spec := "numBack", apart := false, narrowed := true }
def NumBackUptoSaid : Prop := numBackUptoRow.holds Try.pinned (OpenSpec.upto numBackSpec)

/-- 'holtlaw15.ChargeSums', WHERE WHAT IT READS IS OF BULK AT MOST 1048576: true; the input reads as it did. -/
def chargeSumsUptoRow : OpenClaim := { program := "ytkcnmlggaggjlaa", sum := "652a85a0cf593c38c6afc5659c63986f4baadb7972279514e67fec360a64c3d9", func := "holt/holtlaw15.ChargeSums", spec := "chargeSums", inPlace := ["math/bits.Add64", "math/bits.Sub64"], apart := false, narrowed := true }
def ChargeSumsUptoSaid : Prop := chargeSumsUptoRow.holds Try.pinned (OpenSpec.upto chargeSumsSpec)

/-- 'holtlaw15.ChargeAdds', WHERE WHAT IT READS IS OF BULK AT MOST 1048576: true; the input reads as it did. -/
def chargeAddsUptoRow : OpenClaim := { program := "ytkcnmlggaggjlaa", sum := "652a85a0cf593c38c6afc5659c63986f4baadb7972279514e67fec360a64c3d9", func := "holt/holtlaw15.ChargeAdds", spec := "chargeAdds", inPlace := ["math/bits.Add64", "math/bits.Sub64"], apart := false, narrowed := true }
def ChargeAddsUptoSaid : Prop := chargeAddsUptoRow.holds Try.pinned (OpenSpec.upto chargeAddsSpec)

/-- 'holtlaw15.ChargeTurns', WHERE WHAT IT READS IS OF BULK AT MOST 1048576: true; the input reads as it did. -/
def chargeTurnsUptoRow : OpenClaim := { program := "ytkcnmlggaggjlaa", sum := "652a85a0cf593c38c6afc5659c63986f4baadb7972279514e67fec360a64c3d9", func := "holt/holtlaw15.ChargeTurns", spec := "chargeTurns", inPlace := ["math/bits.Add64", "math/bits.Sub64"], apart := false, narrowed := true }
def ChargeTurnsUptoSaid : Prop := chargeTurnsUptoRow.holds Try.pinned (OpenSpec.upto chargeTurnsSpec)

/-- 'holtlaw3.DiskFlush', WHERE WHAT IT READS IS OF BULK AT MOST 1048576: true; the input reads as it did. -/
def diskFlushUptoRow : OpenClaim := { program := "ytkcnmlggaggjlaa", sum := "652a85a0cf593c38c6afc5659c63986f4baadb7972279514e67fec360a64c3d9", func := "holt/holtlaw3.DiskFlush", spec := "diskFlush", apart := false, narrowed := true }
def DiskFlushUptoSaid : Prop := diskFlushUptoRow.holds Try.pinned (OpenSpec.upto diskFlushSpec)

/-- 'holtlaw3.DiskReads', WHERE WHAT IT READS IS OF BULK AT MOST 1048576: true; the input reads as it did. -/
def diskReadsUptoRow : OpenClaim := { program := "ytkcnmlggaggjlaa", sum := "652a85a0cf593c38c6afc5659c63986f4baadb7972279514e67fec360a64c3d9", func := "holt/holtlaw3.DiskReads", spec := "diskReads", apart := false, narrowed := true }
def DiskReadsUptoSaid : Prop := diskReadsUptoRow.holds Try.pinned (OpenSpec.upto diskReadsSpec)

/-- 'holtlaw3.DiskTorn', WHERE WHAT IT READS IS OF BULK AT MOST 1048576: true; the input reads as it did. -/
def diskTornUptoRow : OpenClaim := { program := "ytkcnmlggaggjlaa", sum := "652a85a0cf593c38c6afc5659c63986f4baadb7972279514e67fec360a64c3d9", func := "holt/holtlaw3.DiskTorn", spec := "diskTorn", apart := false, narrowed := true }
def DiskTornUptoSaid : Prop := diskTornUptoRow.holds Try.pinned (OpenSpec.upto diskTornSpec)

end Rows
end Go.Proofs.Ytkcnmlggaggjlaa

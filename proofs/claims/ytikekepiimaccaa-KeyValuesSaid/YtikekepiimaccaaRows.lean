/-
  No cell of these rows narrows 'for every input' (looked for: loops, veiled, ifaces, maps, wideKeys, modest, calm, conditions, laid).
  DERIVED. THE GIVEN ROWS OF THIS SEAT. 12 by the template 'for every input the law returns true; each argument reads behind the call as it read before'; 0 by the template 'total and deterministic' (their statements: YtikekepiimaccaaTotals.lean).
  GIVEN WITH THE SEED: the statements are not yours to turn. If you find one false, say at which input.
  Laid BY PROGRAM, IN A SANDBOX (cutbox-rows.mjs): the forced cells as the released guide's own fill.sh prints them over the translation 32e5c4d3d8dd7ae6… (all of the seat's roots in one cut). By AI agents, Wed Nov 11 2026. No macro, syntax, notation, axiom, sorry.
-/
import Derived.Test.YtikekepiimaccaaChecked
import GoSem.Claim
import GoSem.ClaimJoined
import GoSem.ClaimMapViews
import Derived.JoinedTies
import Derived.KernelRfl
namespace Go.Proofs.Ytikekepiimaccaa
/- THE CELL 'sum', in the pinned program and in every row, IS THE sha256 OF THE DUMP (.gsa) THAT YtikekepiimaccaaProg.lean LOADS. Nothing in Lean hashes anything: it is a label: what it is worth is what the hold of that sum in a sandbox is worth. -/
noncomputable def Try.pinned : Pinned := { name := "ytikekepiimaccaa", sum := "32e5c4d3d8dd7ae620119676adfc9db92234ac0d4ee0a951e10ee02739fa85f3", checked := Try.checked }
namespace Rows
def none {H : Type} : Left H := { results := [], args := [] }

/-- 'holtlaw12.KeyOrder': WHATEVER THE INPUT: true; the input reads as it did. -/
def keyOrderSpec : ChangeSpec := { name := "keyOrder", fn := fun _ => fun
  | [d1, d2, d3, d4] => { results := [.lit (.bool true)], args := [d1, d2, d3, d4] }
  | _ => none }
def keyOrderRow : OpenClaim := { program := "ytikekepiimaccaa", sum := "32e5c4d3d8dd7ae620119676adfc9db92234ac0d4ee0a951e10ee02739fa85f3", func := "holt/holtlaw12.KeyOrder", spec := "keyOrder", plainKeys := false, apart := false }
def KeyOrderSaid : Prop := keyOrderRow.holds Try.pinned (OpenSpec.ofChange keyOrderSpec)

/-- ITS FALSE NEIGHBOUR: 'it returns false'. Refute it at one input. -/
def keyOrderWrong : ChangeSpec := { name := "keyOrder", fn := fun _ => fun
  | [d1, d2, d3, d4] => { results := [.lit (.bool false)], args := [d1, d2, d3, d4] }
  | _ => none }
def KeyOrderWrongFalsely : Prop := keyOrderRow.holds Try.pinned (OpenSpec.ofChange keyOrderWrong)

/-- 'holtlaw12.KeyValues': WHATEVER THE INPUT: true; the input reads as it did. -/
def keyValuesSpec : ChangeSpec := { name := "keyValues", fn := fun _ => fun
  | [d1, d2, d3, d4] => { results := [.lit (.bool true)], args := [d1, d2, d3, d4] }
  | _ => none }
def keyValuesRow : OpenClaim := { program := "ytikekepiimaccaa", sum := "32e5c4d3d8dd7ae620119676adfc9db92234ac0d4ee0a951e10ee02739fa85f3", func := "holt/holtlaw12.KeyValues", spec := "keyValues", plainKeys := false, apart := false }
def KeyValuesSaid : Prop := keyValuesRow.holds Try.pinned (OpenSpec.ofChange keyValuesSpec)

/-- ITS FALSE NEIGHBOUR: 'it returns false'. Refute it at one input. -/
def keyValuesWrong : ChangeSpec := { name := "keyValues", fn := fun _ => fun
  | [d1, d2, d3, d4] => { results := [.lit (.bool false)], args := [d1, d2, d3, d4] }
  | _ => none }
def KeyValuesWrongFalsely : Prop := keyValuesRow.holds Try.pinned (OpenSpec.ofChange keyValuesWrong)

/-- 'holtlaw12.KeyBack': WHATEVER THE INPUT: true; the input reads as it did. -/
def keyBackSpec : ChangeSpec := { name := "keyBack", fn := fun _ => fun
  | [d1, d2, d3] => { results := [.lit (.bool true)], args := [d1, d2, d3] }
  | _ => none }
def keyBackRow : OpenClaim := { program := "ytikekepiimaccaa", sum := "32e5c4d3d8dd7ae620119676adfc9db92234ac0d4ee0a951e10ee02739fa85f3", func := "holt/holtlaw12.KeyBack", spec := "keyBack", plainKeys := false, apart := false }
def KeyBackSaid : Prop := keyBackRow.holds Try.pinned (OpenSpec.ofChange keyBackSpec)

/-- ITS FALSE NEIGHBOUR: 'it returns false'. Refute it at one input. -/
def keyBackWrong : ChangeSpec := { name := "keyBack", fn := fun _ => fun
  | [d1, d2, d3] => { results := [.lit (.bool false)], args := [d1, d2, d3] }
  | _ => none }
def KeyBackWrongFalsely : Prop := keyBackRow.holds Try.pinned (OpenSpec.ofChange keyBackWrong)

/-- 'holtlaw3.DiskSteps': WHATEVER THE INPUT: true; the input reads as it did. -/
def diskStepsSpec : ChangeSpec := { name := "diskSteps", fn := fun _ => fun
  | [d1, d2] => { results := [.lit (.bool true)], args := [d1, d2] }
  | _ => none }
def diskStepsRow : OpenClaim := { program := "ytikekepiimaccaa", sum := "32e5c4d3d8dd7ae620119676adfc9db92234ac0d4ee0a951e10ee02739fa85f3", func := "holt/holtlaw3.DiskSteps", spec := "diskSteps", plainKeys := false, apart := false }
def DiskStepsSaid : Prop := diskStepsRow.holds Try.pinned (OpenSpec.ofChange diskStepsSpec)

/-- ITS FALSE NEIGHBOUR: 'it returns false'. Refute it at one input. -/
def diskStepsWrong : ChangeSpec := { name := "diskSteps", fn := fun _ => fun
  | [d1, d2] => { results := [.lit (.bool false)], args := [d1, d2] }
  | _ => none }
def DiskStepsWrongFalsely : Prop := diskStepsRow.holds Try.pinned (OpenSpec.ofChange diskStepsWrong)

/-- 'holtlaw3.DiskKeeps': WHATEVER THE INPUT: true; the input reads as it did. -/
def diskKeepsSpec : ChangeSpec := { name := "diskKeeps", fn := fun _ => fun
  | [d1, d2, d3] => { results := [.lit (.bool true)], args := [d1, d2, d3] }
  | _ => none }
def diskKeepsRow : OpenClaim := { program := "ytikekepiimaccaa", sum := "32e5c4d3d8dd7ae620119676adfc9db92234ac0d4ee0a951e10ee02739fa85f3", func := "holt/holtlaw3.DiskKeeps", spec := "diskKeeps", plainKeys := false, apart := false }
def DiskKeepsSaid : Prop := diskKeepsRow.holds Try.pinned (OpenSpec.ofChange diskKeepsSpec)

/-- ITS FALSE NEIGHBOUR: 'it returns false'. Refute it at one input. -/
def diskKeepsWrong : ChangeSpec := { name := "diskKeeps", fn := fun _ => fun
  | [d1, d2, d3] => { results := [.lit (.bool false)], args := [d1, d2, d3] }
  | _ => none }
def DiskKeepsWrongFalsely : Prop := diskKeepsRow.holds Try.pinned (OpenSpec.ofChange diskKeepsWrong)

/-- 'holtlaw12.KeyTexts': WHATEVER THE INPUT: true; the input reads as it did. -/
def keyTextsSpec : ChangeSpec := { name := "keyTexts", fn := fun _ => fun
  | [d1, d2, d3, d4] => { results := [.lit (.bool true)], args := [d1, d2, d3, d4] }
  | _ => none }
def keyTextsRow : OpenClaim := { program := "ytikekepiimaccaa", sum := "32e5c4d3d8dd7ae620119676adfc9db92234ac0d4ee0a951e10ee02739fa85f3", func := "holt/holtlaw12.KeyTexts", spec := "keyTexts", plainKeys := false, apart := false }
def KeyTextsSaid : Prop := keyTextsRow.holds Try.pinned (OpenSpec.ofChange keyTextsSpec)

/-- ITS FALSE NEIGHBOUR: 'it returns false'. Refute it at one input. -/
def keyTextsWrong : ChangeSpec := { name := "keyTexts", fn := fun _ => fun
  | [d1, d2, d3, d4] => { results := [.lit (.bool false)], args := [d1, d2, d3, d4] }
  | _ => none }
def KeyTextsWrongFalsely : Prop := keyTextsRow.holds Try.pinned (OpenSpec.ofChange keyTextsWrong)

/-- 'holtlaw27.ClientDrops': WHATEVER THE INPUT: true; the input reads as it did. -/
def clientDropsSpec : ChangeSpec := { name := "clientDrops", fn := fun _ => fun
  | [d] => { results := [.lit (.bool true)], args := [d] }
  | _ => none }
def clientDropsRow : OpenClaim := { program := "ytikekepiimaccaa", sum := "32e5c4d3d8dd7ae620119676adfc9db92234ac0d4ee0a951e10ee02739fa85f3", func := "holt/holtlaw27.ClientDrops", spec := "clientDrops", unfollowed := true, recurses := true, plainKeys := false, apart := false }
def ClientDropsSaid : Prop := clientDropsRow.holds Try.pinned (OpenSpec.ofChange clientDropsSpec)

/-- ITS FALSE NEIGHBOUR: 'it returns false'. Refute it at one input. -/
def clientDropsWrong : ChangeSpec := { name := "clientDrops", fn := fun _ => fun
  | [d] => { results := [.lit (.bool false)], args := [d] }
  | _ => none }
def ClientDropsWrongFalsely : Prop := clientDropsRow.holds Try.pinned (OpenSpec.ofChange clientDropsWrong)

/-- 'holtlaw6.StoreBlocks': WHATEVER THE INPUT: true; the input reads as it did. -/
def storeBlocksSpec : ChangeSpec := { name := "storeBlocks", fn := fun _ => fun
  | [d1, d2, d3] => { results := [.lit (.bool true)], args := [d1, d2, d3] }
  | _ => none }
def storeBlocksRow : OpenClaim := { program := "ytikekepiimaccaa", sum := "32e5c4d3d8dd7ae620119676adfc9db92234ac0d4ee0a951e10ee02739fa85f3", func := "holt/holtlaw6.StoreBlocks", spec := "storeBlocks", inPlace := ["internal/abi.NoEscape"], unfollowed := true, recurses := true, plainKeys := false, apart := false }
def StoreBlocksSaid : Prop := storeBlocksRow.holds Try.pinned (OpenSpec.ofChange storeBlocksSpec)

/-- ITS FALSE NEIGHBOUR: 'it returns false'. Refute it at one input. -/
def storeBlocksWrong : ChangeSpec := { name := "storeBlocks", fn := fun _ => fun
  | [d1, d2, d3] => { results := [.lit (.bool false)], args := [d1, d2, d3] }
  | _ => none }
def StoreBlocksWrongFalsely : Prop := storeBlocksRow.holds Try.pinned (OpenSpec.ofChange storeBlocksWrong)

/-- 'holtlaw24.DelegFull': WHATEVER THE INPUT: true; the input reads as it did. -/
def delegFullSpec : ChangeSpec := { name := "delegFull", fn := fun _ => fun
  | [d1, d2] => { results := [.lit (.bool true)], args := [d1, d2] }
  | _ => none }
def delegFullRow : OpenClaim := { program := "ytikekepiimaccaa", sum := "32e5c4d3d8dd7ae620119676adfc9db92234ac0d4ee0a951e10ee02739fa85f3", func := "holt/holtlaw24.DelegFull", spec := "delegFull", unfollowed := true, recurses := true, plainKeys := false, apart := false }
def DelegFullSaid : Prop := delegFullRow.holds Try.pinned (OpenSpec.ofChange delegFullSpec)

/-- ITS FALSE NEIGHBOUR: 'it returns false'. Refute it at one input. -/
def delegFullWrong : ChangeSpec := { name := "delegFull", fn := fun _ => fun
  | [d1, d2] => { results := [.lit (.bool false)], args := [d1, d2] }
  | _ => none }
def DelegFullWrongFalsely : Prop := delegFullRow.holds Try.pinned (OpenSpec.ofChange delegFullWrong)

/-- 'holtlaw27.ClientNotes': WHATEVER THE INPUT: true; the input reads as it did. -/
def clientNotesSpec : ChangeSpec := { name := "clientNotes", fn := fun _ => fun
  | [d1, d2, d3, d4] => { results := [.lit (.bool true)], args := [d1, d2, d3, d4] }
  | _ => none }
def clientNotesRow : OpenClaim := { program := "ytikekepiimaccaa", sum := "32e5c4d3d8dd7ae620119676adfc9db92234ac0d4ee0a951e10ee02739fa85f3", func := "holt/holtlaw27.ClientNotes", spec := "clientNotes", unfollowed := true, recurses := true, plainKeys := false, apart := false }
def ClientNotesSaid : Prop := clientNotesRow.holds Try.pinned (OpenSpec.ofChange clientNotesSpec)

/-- ITS FALSE NEIGHBOUR: 'it returns false'. Refute it at one input. -/
def clientNotesWrong : ChangeSpec := { name := "clientNotes", fn := fun _ => fun
  | [d1, d2, d3, d4] => { results := [.lit (.bool false)], args := [d1, d2, d3, d4] }
  | _ => none }
def ClientNotesWrongFalsely : Prop := clientNotesRow.holds Try.pinned (OpenSpec.ofChange clientNotesWrong)

/-- 'holtlaw27.ClientLease': WHATEVER THE INPUT: true; the input reads as it did. -/
def clientLeaseSpec : ChangeSpec := { name := "clientLease", fn := fun _ => fun
  | [d1, d2, d3] => { results := [.lit (.bool true)], args := [d1, d2, d3] }
  | _ => none }
def clientLeaseRow : OpenClaim := { program := "ytikekepiimaccaa", sum := "32e5c4d3d8dd7ae620119676adfc9db92234ac0d4ee0a951e10ee02739fa85f3", func := "holt/holtlaw27.ClientLease", spec := "clientLease", unfollowed := true, recurses := true, plainKeys := false, apart := false }
def ClientLeaseSaid : Prop := clientLeaseRow.holds Try.pinned (OpenSpec.ofChange clientLeaseSpec)

/-- ITS FALSE NEIGHBOUR: 'it returns false'. Refute it at one input. -/
def clientLeaseWrong : ChangeSpec := { name := "clientLease", fn := fun _ => fun
  | [d1, d2, d3] => { results := [.lit (.bool false)], args := [d1, d2, d3] }
  | _ => none }
def ClientLeaseWrongFalsely : Prop := clientLeaseRow.holds Try.pinned (OpenSpec.ofChange clientLeaseWrong)

/-- 'holtlaw24.DelegSteps': WHATEVER THE INPUT: true; the input reads as it did. -/
def delegStepsSpec : ChangeSpec := { name := "delegSteps", fn := fun _ => fun
  | [d1, d2, d3] => { results := [.lit (.bool true)], args := [d1, d2, d3] }
  | _ => none }
def delegStepsRow : OpenClaim := { program := "ytikekepiimaccaa", sum := "32e5c4d3d8dd7ae620119676adfc9db92234ac0d4ee0a951e10ee02739fa85f3", func := "holt/holtlaw24.DelegSteps", spec := "delegSteps", unfollowed := true, recurses := true, plainKeys := false, apart := false }
def DelegStepsSaid : Prop := delegStepsRow.holds Try.pinned (OpenSpec.ofChange delegStepsSpec)

/-- ITS FALSE NEIGHBOUR: 'it returns false'. Refute it at one input. -/
def delegStepsWrong : ChangeSpec := { name := "delegSteps", fn := fun _ => fun
  | [d1, d2, d3] => { results := [.lit (.bool false)], args := [d1, d2, d3] }
  | _ => none }
def DelegStepsWrongFalsely : Prop := delegStepsRow.holds Try.pinned (OpenSpec.ofChange delegStepsWrong)

/- THE SECOND FORM. 'bulk': how many values and letters a reading holds, each counted each time it is reached (what is shared counts as often as it is met; a slice's spare places count too). A statement '..UptoSaid' is the law's where the arguments, and the package variables that the reading takes, are together of bulk at most 1048576: NARROWER than '..Said'. Prove '..Said' where nothing that the law and all that it calls make is longer than what came in: it says more and counts as full. Else prove '..UptoSaid'. A law counts once. -/
mutual
def uptoBulk {H : Type} : DataW H → Nat
  | .lit (.string bytes) => bytes.length + 1
  | .lit _ => 1
  | .nil => 1
  | .ptr d => uptoBulk d + 1
  | .slice elems spare => uptoBulkAll elems + uptoBulkAll spare + 1
  | .agg parts => uptoBulkAll parts + 1
  | .iface _ d => uptoBulk d + 1
  | .map entries => uptoBulkEntries entries + 1
  | .held _ => 1
def uptoBulkAll {H : Type} : List (DataW H) → Nat
  | [] => 0
  | d :: r => uptoBulk d + uptoBulkAll r
def uptoBulkEntries {H : Type} : List (Lit × DataW H) → Nat
  | [] => 0
  | x :: r => uptoBulkEntry x + uptoBulkEntries r
def uptoBulkEntry {H : Type} : Lit × DataW H → Nat
  | (.string bytes, d) => bytes.length + uptoBulk d + 1
  | (_, d) => uptoBulk d + 1
 end
def uptoSmall : (H : Type) → List (DataW H) → Bool := fun _ ds => decide (uptoBulkAll ds ≤ 1048576)
def OpenSpec.upto (s : _root_.Go.ChangeSpec) : _root_.Go.OpenSpec := { _root_.Go.OpenSpec.ofChange s with cond := some uptoSmall }

/-- 'holtlaw12.KeyOrder', WHERE WHAT IT READS IS OF BULK AT MOST 1048576: true; the input reads as it did. -/
def keyOrderUptoRow : OpenClaim := { program := "ytikekepiimaccaa", sum := "32e5c4d3d8dd7ae620119676adfc9db92234ac0d4ee0a951e10ee02739fa85f3", func := "holt/holtlaw12.KeyOrder", spec := "keyOrder", plainKeys := false, apart := false, narrowed := true }
def KeyOrderUptoSaid : Prop := keyOrderUptoRow.holds Try.pinned (OpenSpec.upto keyOrderSpec)

/-- 'holtlaw12.KeyValues', WHERE WHAT IT READS IS OF BULK AT MOST 1048576: true; the input reads as it did. -/
def keyValuesUptoRow : OpenClaim := { program := "ytikekepiimaccaa", sum := "32e5c4d3d8dd7ae620119676adfc9db92234ac0d4ee0a951e10ee02739fa85f3", func := "holt/holtlaw12.KeyValues", spec := "keyValues", plainKeys := false, apart := false, narrowed := true }
def KeyValuesUptoSaid : Prop := keyValuesUptoRow.holds Try.pinned (OpenSpec.upto keyValuesSpec)

/-- 'holtlaw12.KeyBack', WHERE WHAT IT READS IS OF BULK AT MOST 1048576: true; the input reads as it did. -/
def keyBackUptoRow : OpenClaim := { program := "ytikekepiimaccaa", sum := "32e5c4d3d8dd7ae620119676adfc9db92234ac0d4ee0a951e10ee02739fa85f3", func := "holt/holtlaw12.KeyBack", spec := "keyBack", plainKeys := false, apart := false, narrowed := true }
def KeyBackUptoSaid : Prop := keyBackUptoRow.holds Try.pinned (OpenSpec.upto keyBackSpec)

/-- 'holtlaw3.DiskSteps', WHERE WHAT IT READS IS OF BULK AT MOST 1048576: true; the input reads as it did. -/
def diskStepsUptoRow : OpenClaim := { program := "ytikekepiimaccaa", sum := "32e5c4d3d8dd7ae620119676adfc9db92234ac0d4ee0a951e10ee02739fa85f3", func := "holt/holtlaw3.DiskSteps", spec := "diskSteps", plainKeys := false, apart := false, narrowed := true }
def DiskStepsUptoSaid : Prop := diskStepsUptoRow.holds Try.pinned (OpenSpec.upto diskStepsSpec)

/-- 'holtlaw3.DiskKeeps', WHERE WHAT IT READS IS OF BULK AT MOST 1048576: true; the input reads as it did. -/
def diskKeepsUptoRow : OpenClaim := { program := "ytikekepiimaccaa", sum := "32e5c4d3d8dd7ae620119676adfc9db92234ac0d4ee0a951e10ee02739fa85f3", func := "holt/holtlaw3.DiskKeeps", spec := "diskKeeps", plainKeys := false, apart := false, narrowed := true }
def DiskKeepsUptoSaid : Prop := diskKeepsUptoRow.holds Try.pinned (OpenSpec.upto diskKeepsSpec)

/-- 'holtlaw12.KeyTexts', WHERE WHAT IT READS IS OF BULK AT MOST 1048576: true; the input reads as it did. -/
def keyTextsUptoRow : OpenClaim := { program := "ytikekepiimaccaa", sum := "32e5c4d3d8dd7ae620119676adfc9db92234ac0d4ee0a951e10ee02739fa85f3", func := "holt/holtlaw12.KeyTexts", spec := "keyTexts", plainKeys := false, apart := false, narrowed := true }
def KeyTextsUptoSaid : Prop := keyTextsUptoRow.holds Try.pinned (OpenSpec.upto keyTextsSpec)

/-- 'holtlaw27.ClientDrops', WHERE WHAT IT READS IS OF BULK AT MOST 1048576: true; the input reads as it did. -/
def clientDropsUptoRow : OpenClaim := { program := "ytikekepiimaccaa", sum := "32e5c4d3d8dd7ae620119676adfc9db92234ac0d4ee0a951e10ee02739fa85f3", func := "holt/holtlaw27.ClientDrops", spec := "clientDrops", unfollowed := true, recurses := true, plainKeys := false, apart := false, narrowed := true }
def ClientDropsUptoSaid : Prop := clientDropsUptoRow.holds Try.pinned (OpenSpec.upto clientDropsSpec)

/-- 'holtlaw6.StoreBlocks', WHERE WHAT IT READS IS OF BULK AT MOST 1048576: true; the input reads as it did. -/
def storeBlocksUptoRow : OpenClaim := { program := "ytikekepiimaccaa", sum := "32e5c4d3d8dd7ae620119676adfc9db92234ac0d4ee0a951e10ee02739fa85f3", func := "holt/holtlaw6.StoreBlocks", spec := "storeBlocks", inPlace := ["internal/abi.NoEscape"], unfollowed := true, recurses := true, plainKeys := false, apart := false, narrowed := true }
def StoreBlocksUptoSaid : Prop := storeBlocksUptoRow.holds Try.pinned (OpenSpec.upto storeBlocksSpec)

/-- 'holtlaw24.DelegFull', WHERE WHAT IT READS IS OF BULK AT MOST 1048576: true; the input reads as it did. -/
def delegFullUptoRow : OpenClaim := { program := "ytikekepiimaccaa", sum := "32e5c4d3d8dd7ae620119676adfc9db92234ac0d4ee0a951e10ee02739fa85f3", func := "holt/holtlaw24.DelegFull", spec := "delegFull", unfollowed := true, recurses := true, plainKeys := false, apart := false, narrowed := true }
def DelegFullUptoSaid : Prop := delegFullUptoRow.holds Try.pinned (OpenSpec.upto delegFullSpec)

/-- 'holtlaw27.ClientNotes', WHERE WHAT IT READS IS OF BULK AT MOST 1048576: true; the input reads as it did. -/
def clientNotesUptoRow : OpenClaim := { program := "ytikekepiimaccaa", sum := "32e5c4d3d8dd7ae620119676adfc9db92234ac0d4ee0a951e10ee02739fa85f3", func := "holt/holtlaw27.ClientNotes", spec := "clientNotes", unfollowed := true, recurses := true, plainKeys := false, apart := false, narrowed := true }
def ClientNotesUptoSaid : Prop := clientNotesUptoRow.holds Try.pinned (OpenSpec.upto clientNotesSpec)

/-- 'holtlaw27.ClientLease', WHERE WHAT IT READS IS OF BULK AT MOST 1048576: true; the input reads as it did. -/
def clientLeaseUptoRow : OpenClaim := { program := "ytikekepiimaccaa", sum := "32e5c4d3d8dd7ae620119676adfc9db92234ac0d4ee0a951e10ee02739fa85f3", func := "holt/holtlaw27.ClientLease", spec := "clientLease", unfollowed := true, recurses := true, plainKeys := false, apart := false, narrowed := true }
def ClientLeaseUptoSaid : Prop := clientLeaseUptoRow.holds Try.pinned (OpenSpec.upto clientLeaseSpec)

/-- 'holtlaw24.DelegSteps', WHERE WHAT IT READS IS OF BULK AT MOST 1048576: true; the input reads as it did. -/
def delegStepsUptoRow : OpenClaim := { program := "ytikekepiimaccaa", sum := "32e5c4d3d8dd7ae620119676adfc9db92234ac0d4ee0a951e10ee02739fa85f3", func := "holt/holtlaw24.DelegSteps", spec := "delegSteps", unfollowed := true, recurses := true, plainKeys := false, apart := false, narrowed := true }
def DelegStepsUptoSaid : Prop := delegStepsUptoRow.holds Try.pinned (OpenSpec.upto delegStepsSpec)

end Rows
end Go.Proofs.Ytikekepiimaccaa

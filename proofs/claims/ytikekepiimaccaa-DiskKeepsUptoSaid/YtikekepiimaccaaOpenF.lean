/- What the cells of a struct are, out of its reading as data. No conditions beyond those in the statements. -/
import Derived.Test.YtikekepiimaccaaProg
import Derived.WalkKit
import Derived.ProofKit
import Derived.KernelRfl
import Derived.ChangeArms
import Derived.WideShapes
set_option linter.unusedVariables false
set_option linter.unusedSimpArgs false
namespace Go.Proofs.Ytikekepiimaccaa.Open
open Go.WideShapes Go.ChangeShapes Go.RowKit
theorem size65 : Try.prog.cellsOf 65 = 3 := by kernel_rfl
theorem size22 : Try.prog.cellsOf 22 = 1 := by kernel_rfl
theorem size3 : Try.prog.cellsOf 3 = 1 := by kernel_rfl
set_option maxRecDepth 100000 in
theorem cells65 {H : Type} {enc : TypeId × Value → H} {w : World} {base : Nat} {spare : Nat → Bool} {held : Bool} {fuel : Nat} {cs : List Value} {x : DataW H × List MemPlace} (h : DataW.trod enc Try.prog w base spare held fuel 65 cs = some x) :
    ∃ (a0 : Int) (a1 : Int) (a2 : Int), cs = [.int .u64 a0, .int .i64 a1, .int .i64 a2] ∧ (Lit.int .u64 a0).wf = true ∧ (Lit.int .i64 a1).wf = true ∧ (Lit.int .i64 a2).wf = true := by
  obtain ⟨zs, m, rfl, _, hl, hz, hf⟩ := DataW.trod_struct Try.underlying65 h
  rw [size65] at hl
  obtain ⟨c0, c1, c2, rfl⟩ : ∃ c0 c1 c2, cs = [c0, c1, c2] := by
    match cs, hl with
    | [c0, c1, c2], _ => exact ⟨c0, c1, c2, rfl⟩
  replace hz : zs.length = 3 := hz
  obtain ⟨z0, e0⟩ : ∃ y, zs[0]? = some y := ⟨_, List.getElem?_eq_getElem (by omega)⟩
  have f0 : DataW.trod enc Try.prog w base spare held m 22 [c0] = some z0 := by have q := hf 0 _ rfl; rw [e0] at q; simpa [size22] using q
  obtain ⟨a0, g0, _, w0⟩ := DataW.trod_int Try.underlying22 f0
  simp only [List.cons.injEq, and_true] at g0
  subst g0
  obtain ⟨z1, e1⟩ : ∃ y, zs[1]? = some y := ⟨_, List.getElem?_eq_getElem (by omega)⟩
  have f1 : DataW.trod enc Try.prog w base spare held m 3 [c1] = some z1 := by have q := hf 1 _ rfl; rw [e1] at q; simpa [size3] using q
  obtain ⟨a1, g1, _, w1⟩ := DataW.trod_int Try.underlying3 f1
  simp only [List.cons.injEq, and_true] at g1
  subst g1
  obtain ⟨z2, e2⟩ : ∃ y, zs[2]? = some y := ⟨_, List.getElem?_eq_getElem (by omega)⟩
  have f2 : DataW.trod enc Try.prog w base spare held m 3 [c2] = some z2 := by have q := hf 2 _ rfl; rw [e2] at q; simpa [size3] using q
  obtain ⟨a2, g2, _, w2⟩ := DataW.trod_int Try.underlying3 f2
  simp only [List.cons.injEq, and_true] at g2
  subst g2
  exact ⟨a0, a1, a2, rfl, w0, w1, w2⟩
set_option maxRecDepth 100000 in
theorem open65 {H : Type} {enc : TypeId × Value → H} {W w : World} {r : Reach} {b base : Nat} {spare : Nat → Bool} {held : Bool} {v : Value} {d : DataW H} {p : List MemPlace} (o : Value.okWide Try.prog W r b 65 v) (h : DataW.Trod enc Try.prog w base spare held 65 v d p) :
    ∃ (a0 : Int) (a1 : Int) (a2 : Int), v = .agg #[.int .u64 a0, .int .i64 a1, .int .i64 a2] ∧ (Lit.int .u64 a0).wf = true ∧ (Lit.int .i64 a1).wf = true ∧ (Lit.int .i64 a2).wf = true := by
  obtain ⟨cs, rfl, _⟩ := okWide_struct Try.underlying65 o
  obtain ⟨fuel, hf⟩ := h
  obtain ⟨a0, a1, a2, e, hw⟩ := cells65 (by simpa [Value.cells] using hf)
  obtain ⟨l⟩ := cs
  simp only at e
  subst e
  exact ⟨a0, a1, a2, rfl, hw⟩
end Go.Proofs.Ytikekepiimaccaa.Open

/- What the cells of a struct are, out of its reading as data. No conditions beyond those in the statements. -/
import Derived.Test.YtikekepiimaccaaProg
import Derived.WalkKit
import Derived.ProofKit
import Derived.KernelRfl
import Derived.ChangeArms
import Derived.WideShapes
set_option linter.unusedVariables false
set_option linter.unusedSimpArgs false
namespace Go.Proofs.Ytikekepiimaccaa.Open
open Go.WideShapes Go.ChangeShapes Go.RowKit
theorem size30 : Try.prog.cellsOf 30 = 4 := by kernel_rfl
theorem size3 : Try.prog.cellsOf 3 = 1 := by kernel_rfl
theorem size28 : Try.prog.cellsOf 28 = 1 := by kernel_rfl
theorem size22 : Try.prog.cellsOf 22 = 1 := by kernel_rfl
set_option maxRecDepth 100000 in
theorem cells30 {H : Type} {enc : TypeId × Value → H} {w : World} {base : Nat} {spare : Nat → Bool} {held : Bool} {fuel : Nat} {cs : List Value} {x : DataW H × List MemPlace} (h : DataW.trod enc Try.prog w base spare held fuel 30 cs = some x) :
    ∃ (a0 : Int) (a1 : Int) (a2 : Int) (a3 : Int), cs = [.int .i64 a0, .int .u32 a1, .int .u64 a2, .int .u64 a3] ∧ (Lit.int .i64 a0).wf = true ∧ (Lit.int .u32 a1).wf = true ∧ (Lit.int .u64 a2).wf = true ∧ (Lit.int .u64 a3).wf = true := by
  obtain ⟨zs, m, rfl, _, hl, hz, hf⟩ := DataW.trod_struct Try.underlying30 h
  rw [size30] at hl
  obtain ⟨c0, c1, c2, c3, rfl⟩ : ∃ c0 c1 c2 c3, cs = [c0, c1, c2, c3] := by
    match cs, hl with
    | [c0, c1, c2, c3], _ => exact ⟨c0, c1, c2, c3, rfl⟩
  replace hz : zs.length = 4 := hz
  obtain ⟨z0, e0⟩ : ∃ y, zs[0]? = some y := ⟨_, List.getElem?_eq_getElem (by omega)⟩
  have f0 : DataW.trod enc Try.prog w base spare held m 3 [c0] = some z0 := by have q := hf 0 _ rfl; rw [e0] at q; simpa [size3] using q
  obtain ⟨a0, g0, _, w0⟩ := DataW.trod_int Try.underlying3 f0
  simp only [List.cons.injEq, and_true] at g0
  subst g0
  obtain ⟨z1, e1⟩ : ∃ y, zs[1]? = some y := ⟨_, List.getElem?_eq_getElem (by omega)⟩
  have f1 : DataW.trod enc Try.prog w base spare held m 28 [c1] = some z1 := by have q := hf 1 _ rfl; rw [e1] at q; simpa [size28] using q
  obtain ⟨a1, g1, _, w1⟩ := DataW.trod_int Try.underlying28 f1
  simp only [List.cons.injEq, and_true] at g1
  subst g1
  obtain ⟨z2, e2⟩ : ∃ y, zs[2]? = some y := ⟨_, List.getElem?_eq_getElem (by omega)⟩
  have f2 : DataW.trod enc Try.prog w base spare held m 22 [c2] = some z2 := by have q := hf 2 _ rfl; rw [e2] at q; simpa [size22] using q
  obtain ⟨a2, g2, _, w2⟩ := DataW.trod_int Try.underlying22 f2
  simp only [List.cons.injEq, and_true] at g2
  subst g2
  obtain ⟨z3, e3⟩ : ∃ y, zs[3]? = some y := ⟨_, List.getElem?_eq_getElem (by omega)⟩
  have f3 : DataW.trod enc Try.prog w base spare held m 22 [c3] = some z3 := by have q := hf 3 _ rfl; rw [e3] at q; simpa [size22] using q
  obtain ⟨a3, g3, _, w3⟩ := DataW.trod_int Try.underlying22 f3
  simp only [List.cons.injEq, and_true] at g3
  subst g3
  exact ⟨a0, a1, a2, a3, rfl, w0, w1, w2, w3⟩
set_option maxRecDepth 100000 in
theorem open30 {H : Type} {enc : TypeId × Value → H} {W w : World} {r : Reach} {b base : Nat} {spare : Nat → Bool} {held : Bool} {v : Value} {d : DataW H} {p : List MemPlace} (o : Value.okWide Try.prog W r b 30 v) (h : DataW.Trod enc Try.prog w base spare held 30 v d p) :
    ∃ (a0 : Int) (a1 : Int) (a2 : Int) (a3 : Int), v = .agg #[.int .i64 a0, .int .u32 a1, .int .u64 a2, .int .u64 a3] ∧ (Lit.int .i64 a0).wf = true ∧ (Lit.int .u32 a1).wf = true ∧ (Lit.int .u64 a2).wf = true ∧ (Lit.int .u64 a3).wf = true := by
  obtain ⟨cs, rfl, _⟩ := okWide_struct Try.underlying30 o
  obtain ⟨fuel, hf⟩ := h
  obtain ⟨a0, a1, a2, a3, e, hw⟩ := cells30 (by simpa [Value.cells] using hf)
  obtain ⟨l⟩ := cs
  simp only at e
  subst e
  exact ⟨a0, a1, a2, a3, rfl, hw⟩
theorem size32 : Try.prog.cellsOf 32 = 7 := by kernel_rfl
set_option maxRecDepth 100000 in
theorem cells32 {H : Type} {enc : TypeId × Value → H} {w : World} {base : Nat} {spare : Nat → Bool} {held : Bool} {fuel : Nat} {cs : List Value} {x : DataW H × List MemPlace} (h : DataW.trod enc Try.prog w base spare held fuel 32 cs = some x) :
    ∃ (a0 : Int) (a1 : Int) (a2 : Int) (a3 : Int) (a4 : Int) (a5 : Int) (a6 : Int), cs = [.int .i64 a0, .int .u32 a1, .int .u64 a2, .int .u64 a3, .int .u64 a4, .int .u64 a5, .int .u64 a6] ∧ (Lit.int .i64 a0).wf = true ∧ (Lit.int .u32 a1).wf = true ∧ (Lit.int .u64 a2).wf = true ∧ (Lit.int .u64 a3).wf = true ∧ (Lit.int .u64 a4).wf = true ∧ (Lit.int .u64 a5).wf = true ∧ (Lit.int .u64 a6).wf = true := by
  obtain ⟨zs, m, rfl, _, hl, hz, hf⟩ := DataW.trod_struct Try.underlying32 h
  rw [size32] at hl
  obtain ⟨c0, c1, c2, c3, c4, c5, c6, rfl⟩ : ∃ c0 c1 c2 c3 c4 c5 c6, cs = [c0, c1, c2, c3, c4, c5, c6] := by
    match cs, hl with
    | [c0, c1, c2, c3, c4, c5, c6], _ => exact ⟨c0, c1, c2, c3, c4, c5, c6, rfl⟩
  replace hz : zs.length = 4 := hz
  obtain ⟨z0, e0⟩ : ∃ y, zs[0]? = some y := ⟨_, List.getElem?_eq_getElem (by omega)⟩
  have f0 : DataW.trod enc Try.prog w base spare held m 30 [c0, c1, c2, c3] = some z0 := by have q := hf 0 _ rfl; rw [e0] at q; simpa [size30] using q
  obtain ⟨a0, a1, a2, a3, g0, w0, w1, w2, w3⟩ := cells30 f0
  simp only [List.cons.injEq, and_true] at g0
  obtain ⟨rfl, rfl, rfl, rfl⟩ := g0
  obtain ⟨z1, e1⟩ : ∃ y, zs[1]? = some y := ⟨_, List.getElem?_eq_getElem (by omega)⟩
  have f1 : DataW.trod enc Try.prog w base spare held m 22 [c4] = some z1 := by have q := hf 1 _ rfl; rw [e1] at q; simpa [size22] using q
  obtain ⟨a4, g1, _, w4⟩ := DataW.trod_int Try.underlying22 f1
  simp only [List.cons.injEq, and_true] at g1
  subst g1
  obtain ⟨z2, e2⟩ : ∃ y, zs[2]? = some y := ⟨_, List.getElem?_eq_getElem (by omega)⟩
  have f2 : DataW.trod enc Try.prog w base spare held m 22 [c5] = some z2 := by have q := hf 2 _ rfl; rw [e2] at q; simpa [size22] using q
  obtain ⟨a5, g2, _, w5⟩ := DataW.trod_int Try.underlying22 f2
  simp only [List.cons.injEq, and_true] at g2
  subst g2
  obtain ⟨z3, e3⟩ : ∃ y, zs[3]? = some y := ⟨_, List.getElem?_eq_getElem (by omega)⟩
  have f3 : DataW.trod enc Try.prog w base spare held m 22 [c6] = some z3 := by have q := hf 3 _ rfl; rw [e3] at q; simpa [size22] using q
  obtain ⟨a6, g3, _, w6⟩ := DataW.trod_int Try.underlying22 f3
  simp only [List.cons.injEq, and_true] at g3
  subst g3
  exact ⟨a0, a1, a2, a3, a4, a5, a6, rfl, w0, w1, w2, w3, w4, w5, w6⟩
set_option maxRecDepth 100000 in
theorem open32 {H : Type} {enc : TypeId × Value → H} {W w : World} {r : Reach} {b base : Nat} {spare : Nat → Bool} {held : Bool} {v : Value} {d : DataW H} {p : List MemPlace} (o : Value.okWide Try.prog W r b 32 v) (h : DataW.Trod enc Try.prog w base spare held 32 v d p) :
    ∃ (a0 : Int) (a1 : Int) (a2 : Int) (a3 : Int) (a4 : Int) (a5 : Int) (a6 : Int), v = .agg #[.int .i64 a0, .int .u32 a1, .int .u64 a2, .int .u64 a3, .int .u64 a4, .int .u64 a5, .int .u64 a6] ∧ (Lit.int .i64 a0).wf = true ∧ (Lit.int .u32 a1).wf = true ∧ (Lit.int .u64 a2).wf = true ∧ (Lit.int .u64 a3).wf = true ∧ (Lit.int .u64 a4).wf = true ∧ (Lit.int .u64 a5).wf = true ∧ (Lit.int .u64 a6).wf = true := by
  obtain ⟨cs, rfl, _⟩ := okWide_struct Try.underlying32 o
  obtain ⟨fuel, hf⟩ := h
  obtain ⟨a0, a1, a2, a3, a4, a5, a6, e, hw⟩ := cells32 (by simpa [Value.cells] using hf)
  obtain ⟨l⟩ := cs
  simp only at e
  subst e
  exact ⟨a0, a1, a2, a3, a4, a5, a6, rfl, hw⟩
end Go.Proofs.Ytikekepiimaccaa.Open

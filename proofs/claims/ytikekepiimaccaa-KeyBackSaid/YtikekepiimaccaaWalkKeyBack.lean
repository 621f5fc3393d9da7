/- KeyBack: there and back is the same: from the arguments' readings to the call's end. Conditions: as in the statement. -/
import Derived.Test.YtikekepiimaccaaKeyBackP
import Derived.Test.YtikekepiimaccaaOpenI
import Derived.Test.YtikekepiimaccaaWSized
import Derived.WalkKit
import Derived.ProofKit
import Derived.OpenShut
import Derived.ShutString
import Derived.ChangeOld
import Derived.SizedLaws
set_option linter.unusedVariables false
set_option linter.unusedSimpArgs false
namespace Go.Proofs.Ytikekepiimaccaa.Walk
open Go.RowKit Go.ChangeShapes Go.WideShapes Go.Proofs.Ytikekepiimaccaa.Kb Go.Proofs.Ytikekepiimaccaa.KeyB Go.Proofs.YtikekepiimaccaaW.PrintWords Go.Proofs.YtikekepiimaccaaW.PrintLast Go.Proofs.YtikekepiimaccaaW.PrintMore
open Go.ChangeMaps (open_string)
/-- a list of numbers that came in, as the printed contracts read it -/
theorem open_row {H : Type} {enc : TypeId × Value → H} {P : Program} {W : World} {base : Nat} {t e : TypeId} {k : IntKind} {v : Value} {d : DataW H} {p : List MemPlace} (ht : P.underlying t = some (.slice e)) (he : P.underlying e = some (.int k)) (hc : P.cellsOf e = 1)
    (h : DataW.Trod enc P W 0 (fun _ => true) true t v d p) (o : Value.okWide P W .any base t v) :
    ∃ (A : Option Addr) (c : Nat) (xs : List Int), v = .slice A xs.length c ∧ xs.length ≤ c ∧ (∀ x ∈ xs, (Lit.int k x).wf = true) ∧ ReadsInt W k A xs.length xs := by
  obtain ⟨A, l, c, rfl⟩ := okWide_slice ht o
  obtain ⟨fuel, hf⟩ := h
  rcases open_ints ht he hc hf with ⟨hcs, _⟩ | ⟨a, len, cap, zs, hcs, _, hl, hm, hz, _, hcell, hw⟩
  · simp [Value.cells] at hcs
    obtain ⟨rfl, rfl, rfl⟩ := hcs
    exact ⟨none, 0, [], rfl, Nat.le_refl _, by simp, rfl, by decide, fun hn => absurd hn (by decide)⟩
  · simp [Value.cells] at hcs
    obtain ⟨rfl, rfl, rfl⟩ := hcs
    have hz' : zs.length = c := by simpa using hz
    have hlen : (zs.take l).length = l := by rw [List.length_take]; omega
    unfold maxLen at hm
    refine ⟨some a, c, zs.take l, by rw [hlen], by omega, fun x hx => hw x (List.mem_of_mem_take hx), rfl, by omega, fun _ => ⟨a, rfl, fun i hi => ?_⟩⟩
    rw [hcell i (by omega)]
    congr 2
    simp [List.getD_eq_getElem?_getD, List.getElem?_take, show i < l by omega]
set_option maxRecDepth 100000 in
theorem KeyBack {H : Type} {enc : TypeId × Value → H} (W : World) (base : Nat) (v0 : Value) (d0 : DataW H) (p0 : List MemPlace) (v1 : Value) (d1 : DataW H) (p1 : List MemPlace) (v2 : Value) (d2 : DataW H) (p2 : List MemPlace)
    (h0 : DataW.Trod enc Try.prog W 0 (fun _ => true) true 32 v0 d0 p0) (o0 : Value.okWide Try.prog W .any base 32 v0)
    (h1 : DataW.Trod enc Try.prog W 0 (fun _ => true) true 33 v1 d1 p1) (o1 : Value.okWide Try.prog W .any base 33 v1)
    (h2 : DataW.Trod enc Try.prog W 0 (fun _ => true) true 9 v2 d2 p2) (o2 : Value.okWide Try.prog W .any base 9 v2)
    (hsz : (DataW.weightsEach Try.prog [32, 33, 9] [d0, d1, d2]).all (· ≤ reachBytes) = true) :
    Calls Try.prog 5 #[v0, v1, v2] W fun e w' => e = .returned (.bool true) ∧ Below W.heap.size W w' := by
  obtain ⟨a, b, c, d, e, f, g, rfl, w0, w1, w2, w3, w4, w5, w6⟩ := Open.open32 o0 h0
  obtain ⟨A1, c1, xs, rfl, hc1, hx, hr⟩ := open_row Try.underlying33 Try.underlying22 (by kernel_rfl) h1 o1
  obtain ⟨s, rfl, rfl, rfl, y1⟩ := open_string Try.underlying9 o2 h2
  have y2 : xs.length * 8 ≤ 140737488351232 := sized_ints hsz (j := 1) (t := 33) rfl rfl Try.underlying33 Try.underlying22 (by kernel_rfl) (by kernel_rfl) h1
  have y3 : s.size ≤ 140737488351232 := by
    have z := sized_string hsz (j := 2) (t := 9) rfl rfl
    rw [Array.length_toList] at z
    exact z
  have b1 := bounds_u32 w1
  have b2 := bounds_u64 w2
  have b3 := bounds_u64 w3
  have b4 := bounds_u64 w4
  have b5 := bounds_u64 w5
  have b6 := bounds_u64 w6
  have hx2 : ∀ x ∈ xs, U x := fun x hxx => by have := bounds_u64 (hx x hxx); exact ⟨by omega, by omega⟩
  exact holtlaw12_KeyBack.calls (51 + 1 + 1) a b c d e f g A1 c1 xs s true W (Kd.C_of_reads (d := (0 : Int)) (h1 := fun _ => rfl) hr) hc1 (back_is 51 (by decide) a b c d e f g xs s ⟨by omega, by omega⟩ ⟨by omega, by omega⟩ ⟨by omega, by omega⟩ ⟨by omega, by omega⟩ ⟨by omega, by omega⟩ ⟨by omega, by omega⟩ hx2 (by omega) y3)
end Go.Proofs.Ytikekepiimaccaa.Walk

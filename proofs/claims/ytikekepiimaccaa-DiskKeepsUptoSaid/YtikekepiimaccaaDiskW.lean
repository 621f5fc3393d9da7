/- Writes of an empty cache. Conditions: as in the statements. -/
import Derived.Test.YtikekepiimaccaaDiskV
set_option linter.unusedVariables false
set_option linter.unusedSimpArgs false
namespace Go.Proofs.Ytikekepiimaccaa.Dk
open Go Go.RowKit Go.Maps Go.Lib Go.ChangeShapes Go.WideShapes Go.Proofs.Ytikekepiimaccaa.Sep Go.Proofs.YtikekepiimaccaaW.PrintWords Go.Proofs.YtikekepiimaccaaW.PrintLast
set_option maxRecDepth 100000 in
theorem clone_nil (w : World) : Calls Try.prog 107 #[.slice none 0 0] w fun e w' => e = .returned (.slice none 0 0) ∧ w = w' := by
  have he := Lib.run_eql_slice_nil (P := Try.prog) w 77 163 none 0 0 0 0 Try.underlying77
  go_enter Try.func107, Try.ntmps107
  go_wp2
  go_ret
  exact ⟨rfl, rfl⟩
set_option maxRecDepth 100000 in
theorem clone_empty (w : World) (p : Addr) (c : Nat) : Calls Try.prog 107 #[.slice (some p) 0 c] w fun e w' => (∃ A k, e = .returned (.slice A 0 k)) ∧ Below w.heap.size w w' := by
  have he := Lib.run_eql_slice_nil (P := Try.prog) w 77 163 (some p) 0 c 0 0 Try.underlying77
  go_enter Try.func107, Try.ntmps107
  go_wp2
  go_ret
  exact ⟨⟨_, _, rfl⟩, below_alloc (Below.refl w.heap.size w) _⟩
set_option maxRecDepth 100000 in
theorem writes_empty {g : Nat} {fp : Nat → Prop} {img : List Int} {w : World} (h : IsDisk w g fp img []) :
    Calls Try.prog 43 #[.pointer (some ⟨g, 0, none⟩)] w fun e w' => (∃ A k, e = .returned (.slice A 0 k)) ∧ Below w.heap.size w w' := by
  obtain ⟨ib, bm, cv, n, D, h, _⟩ := h
  obtain ⟨A0, cap, ecv⟩ := own_slice h.hr
  have x1 := (cell_of h.hg 1).trans rfl
  have hz : cv = .slice none 0 0 ∨ ∃ p c, cv = .slice (some p) 0 c := by
    rcases h.hr.2 with ⟨e, _⟩ | ⟨q, c, cur, e, _⟩
    · exact .inl e
    · exact .inr ⟨_, c, e⟩
  clear h ecv
  rcases hz with rfl | ⟨p, c, rfl⟩
  · have HC := Lib.hid (clone_nil w)
    go_enter Try.func43, Try.ntmps43
    go_wp2_with (go_at_call 107; refine HC.out.mono ?_; rintro e w' ⟨rfl, rfl⟩)
    go_ret
    exact ⟨⟨_, _, rfl⟩, Below.refl _ _⟩
  · have HC := Lib.hid (clone_empty w p c)
    go_enter Try.func43, Try.ntmps43
    go_wp2_with (go_at_call 107; refine HC.out.mono ?_; rintro e w' ⟨⟨A1, k1, rfl⟩, hb⟩)
    go_ret
    exact ⟨⟨_, _, rfl⟩, hb⟩
end Go.Proofs.Ytikekepiimaccaa.Dk

/- The maps of DiskKeeps: the last byte of each sector, and which sectors were touched. Conditions: as in the statements. -/
import Derived.Test.YtikekepiimaccaaDiskW
set_option linter.unusedVariables false
set_option linter.unusedSimpArgs false
namespace Go.Proofs.Ytikekepiimaccaa.Dk
open Go Go.RowKit Go.Maps Go.Lib Go.ChangeShapes Go.WideShapes Go.Proofs.Ytikekepiimaccaa.Sep
/-- map[int]byte, below 16 -/
def M8 (w : World) (mb n : Nat) (lv : Nat → Int) : Prop := ∃ D : DataW Unit, w.ownsMap Try.prog 3 (plainElem Try.prog 5) mb n D ∧ ∀ b : Nat, b < 16 → 0 ≤ lv b ∧ lv b < 256 ∧ D.atKey (.int .i64 (b : Int)) (.lit (.int .u8 0)) = .lit (.int .u8 (lv b))
/-- map[int]bool, below 16 -/
def M1 (w : World) (mb n : Nat) (tv : Nat → Bool) : Prop := ∃ D : DataW Unit, w.ownsMap Try.prog 3 (plainElem Try.prog 4) mb n D ∧ ∀ b : Nat, b < 16 → D.atKey (.int .i64 (b : Int)) (.lit (.bool false)) = .lit (.bool (tv b))
theorem M8.keep {w w' : World} {mb n : Nat} {lv : Nat → Int} (h : M8 w mb n lv) (hm : w'.heap[mb]? = w.heap[mb]?) : M8 w' mb n lv := by
  obtain ⟨D, h, hD⟩ := h
  exact ⟨D, map_keep h hm, hD⟩
theorem M1.keep {w w' : World} {mb n : Nat} {tv : Nat → Bool} (h : M1 w mb n tv) (hm : w'.heap[mb]? = w.heap[mb]?) : M1 w' mb n tv := by
  obtain ⟨D, h, hD⟩ := h
  exact ⟨D, map_keep h hm, hD⟩
theorem M8.later {w w' : World} {mb n : Nat} {lv : Nat → Int} (h : M8 w mb n lv) (hb : Below w.heap.size w w') : M8 w' mb n lv := by
  obtain ⟨D, h, hD⟩ := h
  exact ⟨D, map_keep h (hb.block _ h.lt), hD⟩
theorem M1.later {w w' : World} {mb n : Nat} {tv : Nat → Bool} (h : M1 w mb n tv) (hb : Below w.heap.size w w') : M1 w' mb n tv := by
  obtain ⟨D, h, hD⟩ := h
  exact ⟨D, map_keep h (hb.block _ h.lt), hD⟩
theorem key_ok (b : Nat) (hb : b < 16) : keyOf Try.prog 3 (.int .i64 (b : Int)) = some (.int .i64 (b : Int)) := keyOf_int_mk Try.underlying3 (WalkArith.wf_i64 (by omega))
set_option maxRecDepth 100000 in
theorem zeroBool (w : World) : (zeroValue 4).run Try.prog w = .ok (.bool false) w := by kernel_rfl
set_option maxRecDepth 100000 in
theorem m8_look {w : World} {mb n : Nat} {lv : Nat → Int} (h : M8 w mb n lv) (b : Nat) (hb : b < 16) :
    (Instr.lookup 70 (.map (some mb)) (.int .i64 (b : Int)) false).run Try.prog w = .ok (.int .u8 (lv b)) w := by
  obtain ⟨D, h, hD⟩ := h
  obtain ⟨c, hrun, hat, _⟩ := h.lookup_int law Try.underlying70 Try.underlying5 (zeroU8 w) (key_ok b hb)
  have := (hD b hb).2.2
  rw [hat] at this
  rw [hrun]
  injection this with h1
  injection h1 with _ h2
  rw [h2]
set_option maxRecDepth 100000 in
theorem m1_look {w : World} {mb n : Nat} {tv : Nat → Bool} (h : M1 w mb n tv) (b : Nat) (hb : b < 16) :
    (Instr.lookup 75 (.map (some mb)) (.int .i64 (b : Int)) false).run Try.prog w = .ok (.bool (tv b)) w := by
  obtain ⟨D, h, hD⟩ := h
  obtain ⟨v, ps, hrun, hv⟩ := h.lookup law Try.underlying75 (zeroBool w) (plainElem_bool Try.underlying4 false) (key_ok b hb)
  rw [hD b hb] at hv
  rw [hrun]
  unfold plainElem at hv
  rw [Try.underlying4] at hv
  cases v <;> simp at hv
  rw [hv.1]
set_option maxRecDepth 100000 in
theorem m8_put {w : World} {mb n : Nat} {lv : Nat → Int} (h : M8 w mb n lv) (hn : n < 1099511627776) (a : Nat) (ha : a < 16) (c : Int) (h0 : 0 ≤ c) (h1 : c < 256) :
    ∃ w', (Instr.mapUpdate 70 (.map (some mb)) (.int .i64 (a : Int)) (.int .u8 c)).run Try.prog w = .ok () w' ∧ M8 w' mb (n + 1) (upd lv a c) ∧ w.grownBy w' (some mb) := by
  obtain ⟨D, h, hD⟩ := h
  obtain ⟨w', hrun, ho, hg⟩ := h.update law Try.underlying70 (by unfold maxLen; omega) (key_ok a ha) (plainElem_int Try.underlying5 (WalkArith.wf_u8 (n := c) (by omega)))
  refine ⟨w', hrun, ⟨_, ho, ?_⟩, hg⟩
  intro b hb
  unfold upd
  by_cases e : a = b
  · subst e
    rw [if_pos rfl]
    have hk : WideAt.IsKeyLit (.int .i64 (a : Int)) := trivial
    exact ⟨h0, h1, atKey_put_same h.isMap hk _ _⟩
  · rw [if_neg e]
    obtain ⟨q1, q2, q3⟩ := hD b hb
    exact ⟨q1, q2, by rw [atKey_put_other (by intro h; injection h with _ h; omega)]; exact q3⟩
set_option maxRecDepth 100000 in
theorem m1_put {w : World} {mb n : Nat} {tv : Nat → Bool} (h : M1 w mb n tv) (hn : n < 1099511627776) (a : Nat) (ha : a < 16) :
    ∃ w', (Instr.mapUpdate 75 (.map (some mb)) (.int .i64 (a : Int)) (.bool true)).run Try.prog w = .ok () w' ∧ M1 w' mb (n + 1) (fun b => if a = b then true else tv b) ∧ w.grownBy w' (some mb) := by
  obtain ⟨D, h, hD⟩ := h
  obtain ⟨w', hrun, ho, hg⟩ := h.update law Try.underlying75 (by unfold maxLen; omega) (key_ok a ha) (plainElem_bool Try.underlying4 true)
  refine ⟨w', hrun, ⟨_, ho, ?_⟩, hg⟩
  intro b hb
  show DataW.atKey _ _ _ = .lit (.bool (if a = b then true else tv b))
  by_cases e : a = b
  · subst e
    rw [if_pos rfl]
    have hk : WideAt.IsKeyLit (.int .i64 (a : Int)) := trivial
    exact atKey_put_same h.isMap hk _ _
  · rw [if_neg e, atKey_put_other (by intro h; injection h with _ h; omega)]
    exact hD b hb
end Go.Proofs.Ytikekepiimaccaa.Dk

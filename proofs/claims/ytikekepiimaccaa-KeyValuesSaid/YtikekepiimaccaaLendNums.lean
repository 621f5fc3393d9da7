/- LendNums, KeptNums: a list in a place with two marked numbers behind it. Conditions: those written. -/
import Derived.Test.YtikekepiimaccaaKeyValP
import Derived.Test.YtikekepiimaccaaSep
import Derived.Maps.AppendAt
import Derived.Lib.Hide
import Derived.ProofKit
set_option linter.unusedVariables false
set_option linter.unusedSimpArgs false
namespace Go.Proofs.Ytikekepiimaccaa.KeyV
open Go.RowKit Go.Proofs.Ytikekepiimaccaa.Kv Go.Proofs.YtikekepiimaccaaW.PrintWords Go.Proofs.YtikekepiimaccaaW.PrintLast Go.Proofs.YtikekepiimaccaaW.PrintMore Go.Proofs.Ytikekepiimaccaa.Sep
def Lent (w : World) (base g cap : Nat) (xs : List Int) : Prop := w.ownsRow base 22 1 (.slice (some ⟨g, 0, none⟩) (xs.length + 2) cap) (xs.length + 2) (encs (Value.int .u64) (xs ++ [7777, 8888]))
theorem infoU64 : (Try.prog.info? 22).map (fun i => (i.zero, i.size, i.bytes)) = some (some (.int .u64 0), 1, 8) := by kernel_rfl
set_option maxHeartbeats 1000000 in
set_option maxRecDepth 100000 in
theorem lend_ok (A0 : Option Addr) (c0 : Nat) (xs : List Int) (w : World) (hr : Kd.C (Kd.int .u64) w A0 xs.length xs) (hc : xs.length ≤ c0) (hl : xs.length * 8 ≤ 140737488351232) :
    Calls Try.prog 25 #[.slice A0 xs.length c0] w fun e w' => ∃ g cap, e = .returned (.slice (some ⟨g, 0, none⟩) xs.length cap) ∧ Lent w' w.heap.size g cap xs ∧ Below w.heap.size w w' := by
  have HC := Lib.hid (holtlaw0_CopyNums.calls A0 c0 xs xs w hr hc (copy_is xs (by omega)))
  obtain ⟨i0, hi, hz0, hz1, hz2⟩ := info_parts infoU64
  have HL := Lib.hid hl
  clear hr hc hl
  have k0 : (xs.length : Int) ≤ 17592186044416 := by have := HL.out; omega
  go_enter Try.func25, Try.ntmps25
  go_wp2_with (first | (go_at_call 99; refine HC.out.mono ?_; rintro e w1 ⟨v0, rfl, hR, hb⟩; have hown := Kd.own_of_R hR; obtain ⟨A1, cap1, rfl⟩ := own_slice hown; have HO := Aside0.mk hown; have HB := Aside0.mk hb; clear hown hb hR) | ((with_reducible refine gate_dst (N := 7) rfl ?_); refine wpList_append_own_at _ rfl _ _ 33 rfl w.heap.size 22 i0 (.int .u64 0) 1 8 Try.underlying33 hi hz0 hz1 hz2 rfl (by decide) _ xs.length _ rfl (HO.out.alloc _) ⟨w1.heap.size, 0, none⟩ 2 2 [.int .u64 7777, .int .u64 8888] rfl rfl (by simpa using World.news_of_block (cs := #[Value.int .u64 7777, .int .u64 8888]) (t := 22) (fr := (0, 0)) (heap_alloc_new w1 (.cells #[Value.int .u64 7777, .int .u64 8888] 22))) (by decide) (by have := HL.out; unfold maxLen; omega) (by have := HL.out; omega) (by have := HB.out.size; simp; omega) ?_; intro v2 w2 hown2 hg2 hn2 _; (obtain ⟨g, cap, rfl, k1, k2⟩ : ∃ g cap, v2 = .slice (some ⟨g, 0, none⟩) (xs.length + 2) cap ∧ xs.length + 2 ≤ cap ∧ cap ≤ maxLen := (by rcases hown2.2 with ⟨_, h0⟩ | ⟨g, cap, cur, e, _, _, h1, h2, _⟩; exact absurd h0 (by omega); exact ⟨g, cap, e, h1, h2⟩)); unfold maxLen at k2; have HO2 := Aside0.mk hown2; have HG2 := Aside0.mk hg2; clear hown2 hg2 hn2))
  go_ret
  have hb := HB.out
  refine ⟨g, cap, rfl, ?_, ?_⟩
  · have := HO2.out
    unfold Lent
    rw [show encs (Value.int .u64) (xs ++ [7777, 8888]) = encs (Value.int .u64) xs ++ [.int .u64 7777, .int .u64 8888] by simp [encs]]
    exact this
  · have hal : Below w.heap.size w (w1.alloc (.cells #[Value.int .u64 7777, .int .u64 8888] 22)) := below_alloc hb _
    refine ((Turned.of_below (hal.mono (Nat.le_refl _)) (fun _ => False)).grown HG2.out ?_).below (Nat.le_refl _) ?_
    · intro k hk
      exact .inr (own_base HO.out k hk)
    · intro i hi; exact hi.elim
theorem lent_at {w : World} {base g cap : Nat} {xs : List Int} (h : Lent w base g cap xs) (j : Nat) (hj : j < xs.length + 2) : w.cell? ⟨g, j, none⟩ = some (.int .u64 ((xs ++ [7777, 8888]).getD j 0)) := by
  rcases h.2 with ⟨_, h0⟩ | ⟨g', cap', cur, e, _, hg, h1, h2, h3, h4⟩
  · exact absurd h0 (by omega)
  · injection e with e1 _ e2
    injection e1 with e1
    injection e1 with e1
    subst e1
    rw [cell_of hg, ← Array.getElem?_toList]
    have : (cur.toList.take ((xs.length + 2) * 1))[j]? = (encs (Value.int .u64) (xs ++ [7777, 8888]))[j]? := by rw [h4]
    rw [List.getElem?_take, if_pos (by omega)] at this
    rw [this]
    unfold encs
    rw [List.getElem?_map, List.getD_eq_getElem?_getD]
    have hlt : j < (xs ++ [7777, 8888]).length := by simp; omega
    rw [List.getElem?_eq_getElem hlt]; rfl
theorem lent_reads {w : World} {base g cap : Nat} {xs : List Int} (h : Lent w base g cap xs) : Kd.C (Kd.int .u64) w (some ⟨g, 0, none⟩) xs.length xs := by
  refine Kd.C_of_reads (d := (0 : Int)) (h1 := fun _ => rfl) ⟨rfl, ?_, fun _ => ⟨_, rfl, fun j hj => ?_⟩⟩
  · rcases h.2 with ⟨_, h0⟩ | ⟨g', cap', cur, e, _, _, h1, h2, _⟩
    · exact absurd h0 (by omega)
    · unfold maxLen at h2; omega
  · rw [show (⟨g, 0, none⟩ : Addr).add j = ⟨g, j, none⟩ by unfold Addr.add; split <;> simp_all, lent_at h j (by omega)]
    congr 2
    rw [List.getD_eq_getElem?_getD, List.getD_eq_getElem?_getD, List.getElem?_append_left hj]
set_option maxRecDepth 100000 in
theorem kept_ok {base g cap : Nat} {xs : List Int} (A1 : Option Addr) (c1 : Nat) {w : World} (h : Lent w base g cap xs) (hr : Kd.C (Kd.int .u64) w A1 xs.length xs) (hc : xs.length ≤ c1) (hl : xs.length * 8 ≤ 140737488351232) :
    Calls Try.prog 29 #[.slice (some ⟨g, 0, none⟩) xs.length cap, .slice A1 xs.length c1] w fun e w' => e = .returned (.bool true) ∧ Drawn0 w w' := by
  obtain ⟨hcap, hcap2⟩ : xs.length + 2 ≤ cap ∧ cap ≤ 9223372036854775807 := by
    rcases h.2 with ⟨_, h0⟩ | ⟨g', cap', cur, e, _, _, h1, h2, _⟩
    · exact absurd h0 (by omega)
    · injection e with _ _ e2; subst e2; exact ⟨h1, h2⟩
  have HS := Lib.hid (holtlaw0_SameNums.calls (xs.length + 1) (some ⟨g, 0, none⟩) cap xs A1 c1 xs true w (lent_reads h) (by omega) hr hc (same_is _ xs (by omega) (by omega)))
  have x1 : ∀ n, (w.drewN n).cell? ⟨g, xs.length, none⟩ = some (.int .u64 7777) := fun n => (lent_at h xs.length (by omega)).trans (by simp)
  have x2 : ∀ n, (w.drewN n).cell? ⟨g, xs.length + 1, none⟩ = some (.int .u64 8888) := fun n => (lent_at h (xs.length + 1) (by omega)).trans (by simp)
  have k1 : ((xs.length : Nat) : Int) + 2 ≤ (cap : Int) := by omega
  have k2 : ((xs.length : Nat) : Int) ≤ 17592186044416 := by omega
  clear h hr hc hl
  go_enter Try.func29, Try.ntmps29
  go_wp2_with (go_at_call 32; refine HS.out.mono ?_; rintro e w1 ⟨rfl, ⟨n1, rfl⟩⟩)
  go_ret
  exact ⟨rfl, ⟨_, rfl⟩⟩
end Go.Proofs.Ytikekepiimaccaa.KeyV

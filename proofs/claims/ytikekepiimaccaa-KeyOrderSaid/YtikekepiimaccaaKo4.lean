/- Printed by hp.py, a program of this session, out of the translation: each Go function as a plain Lean function and the contract of its call. No conditions beyond those in the statements. -/
import Derived.Test.YtikekepiimaccaaKo0
import Derived.Test.YtikekepiimaccaaKo1
import Derived.Test.YtikekepiimaccaaKo3
namespace Go.Proofs.Ytikekepiimaccaa.Ko
open Go.RowKit Go.Proofs.YtikekepiimaccaaW.PrintWords Go.Proofs.YtikekepiimaccaaW.PrintLast Go.Proofs.YtikekepiimaccaaW.PrintMore
attribute [local go_sem] max2_int min2_int max_two min_two max_three min_three max_four min_four   -- for this text's walks alone
set_option linter.unusedVariables false
set_option linter.unusedSimpArgs false

/-! ### holtlaw12_KeyOrder: function 3 -/
def holtlaw12_KeyOrder.j0 : Nat → Int → Int → Int → Int → Bool → Option (Bool)
  | 0, _, _, _, _, _ => none
  | k + 1, x0, x1, x2, x3, x45 => if x45 = true then (some false) else (if x0 < x1 then ((key_Data.f k x0 18446744073709551615).bind fun t168 => ((key_Data.f k x1 0).bind fun t169 => (if (Op.bytesLess t168.toList t169.toList) = true then ((key_Cookie.f k x0 x2).bind fun t170 => ((key_Cookie.f k x1 x3).bind fun t171 => (if (Op.bytesLess t170.toList t171.toList) = true then ((key_Inode.f k x0).bind fun t172 => ((key_Inode.f k x1).bind fun t173 => (if (Op.bytesLess t172.toList t173.toList) = true then ((key_Entry.f k x0 (⟨#[126, 126, 126]⟩ : ByteArray)).bind fun t174 => ((key_Entry.f k x1 (⟨#[]⟩ : ByteArray)).bind fun t175 => (some (Op.bytesLess t174.toList t175.toList)))) else (none)))) else (none)))) else (none)))) else (if x0 = x1 then (some true) else ((key_Data.f k x1 x2).bind fun t176 => ((key_Data.f k x0 x3).bind fun t177 => (some (Op.bytesLess t176.toList t177.toList))))))
def holtlaw12_KeyOrder.f (k : Nat) (a0 : Int) (a1 : Int) (a2 : Int) (a3 : Int) : Option (Bool) := (holtlaw12_awake.f k).bind fun t161 => (if t161 = true then ((key_Data.f k a0 a2).bind fun t162 => ((key_Data.f k a0 a3).bind fun t163 => (if ((Op.bytesLess t162.toList t163.toList) != (decide (a2 < a3))) = true then (holtlaw12_KeyOrder.j0 k a0 a1 a2 a3 true) else ((key_Cookie.f k a0 a2).bind fun t164 => ((key_Cookie.f k a0 a3).bind fun t165 => (if ((Op.bytesLess t164.toList t165.toList) != (decide (a2 < a3))) = true then (holtlaw12_KeyOrder.j0 k a0 a1 a2 a3 true) else ((key_Pend.f k a2).bind fun t166 => ((key_Pend.f k a3).bind fun t167 => (holtlaw12_KeyOrder.j0 k a0 a1 a2 a3 ((Op.bytesLess t166.toList t167.toList) != (decide (a2 < a3)))))))))))) else (some false))
theorem holtlaw12_KeyOrder.mono_l : ∀ k, (∀ y0 y1 y2 y3 y4, LeO (holtlaw12_KeyOrder.j0 k y0 y1 y2 y3 y4) (holtlaw12_KeyOrder.j0 (k + 1) y0 y1 y2 y3 y4))
  | 0 => fun _ _ _ _ _ r h => by simp [holtlaw12_KeyOrder.j0] at h
  | k + 1 => by
    have ih0 := holtlaw12_KeyOrder.mono_l k
    · intro y0 y1 y2 y3 y4
      unfold holtlaw12_KeyOrder.j0
      repeat' first
      | (with_reducible exact ih0 _ _ _ _ _)
      | (with_reducible exact holtlaw12_awake.mono _)
      | (with_reducible exact key_Cookie.mono _ _ _)
      | (with_reducible exact key_Data.mono _ _ _)
      | (with_reducible exact key_Entry.mono _ _ _)
      | (with_reducible exact key_Inode.mono _ _)
      | (with_reducible exact key_Pend.mono _ _)
      | (with_reducible exact LeO.refl _)
      | (with_reducible exact LeO.none _)
      | (with_reducible refine LeO.ite ?_ ?_)
      | (with_reducible refine LeO.bind ?_ (fun _ => ?_))
      | exact ih0 _ _ _ _ _
      | exact holtlaw12_awake.mono _
      | exact key_Cookie.mono _ _ _
      | exact key_Data.mono _ _ _
      | exact key_Entry.mono _ _ _
      | exact key_Inode.mono _ _
      | exact key_Pend.mono _ _
      | exact LeO.none _
      | refine LeO.ite ?_ ?_
      | refine LeO.bind ?_ (fun _ => ?_)
theorem holtlaw12_KeyOrder.mono : ∀ a0 a1 a2 a3 k, LeO (holtlaw12_KeyOrder.f k a0 a1 a2 a3) (holtlaw12_KeyOrder.f (k + 1) a0 a1 a2 a3) := by
  intro a0 a1 a2 a3 k
  have ih0 := holtlaw12_KeyOrder.mono_l k
  unfold holtlaw12_KeyOrder.f
  repeat' first
      | (with_reducible exact ih0 _ _ _ _ _)
      | (with_reducible exact holtlaw12_awake.mono _)
      | (with_reducible exact key_Cookie.mono _ _ _)
      | (with_reducible exact key_Data.mono _ _ _)
      | (with_reducible exact key_Entry.mono _ _ _)
      | (with_reducible exact key_Inode.mono _ _)
      | (with_reducible exact key_Pend.mono _ _)
      | (with_reducible exact LeO.refl _)
      | (with_reducible exact LeO.none _)
      | (with_reducible refine LeO.ite ?_ ?_)
      | (with_reducible refine LeO.bind ?_ (fun _ => ?_))
      | exact ih0 _ _ _ _ _
      | exact holtlaw12_awake.mono _
      | exact key_Cookie.mono _ _ _
      | exact key_Data.mono _ _ _
      | exact key_Entry.mono _ _ _
      | exact key_Inode.mono _ _
      | exact key_Pend.mono _ _
      | exact LeO.none _
      | refine LeO.ite ?_ ?_
      | refine LeO.bind ?_ (fun _ => ?_)
set_option maxHeartbeats 8000000 in
set_option maxRecDepth 100000 in
theorem holtlaw12_KeyOrder.calls (k : Nat) (a0 : Int) (a1 : Int) (a2 : Int) (a3 : Int) (r : Bool) (w : World) (h : holtlaw12_KeyOrder.f k a0 a1 a2 a3 = some r) :
    Calls Try.prog 3 #[.int .u64 a0, .int .u64 a1, .int .u64 a2, .int .u64 a3] w fun e w' => e = .returned (.bool r) ∧ Below w.heap.size w w' := by
  have HB := Aside0.mk (Below.refl w.heap.size w)
  have H : ((holtlaw12_awake.f k).bind fun t161 => (if t161 = true then ((key_Data.f k a0 a2).bind fun t162 => ((key_Data.f k a0 a3).bind fun t163 => (if ((Op.bytesLess t162.toList t163.toList) != (decide (a2 < a3))) = true then (holtlaw12_KeyOrder.j0 k a0 a1 a2 a3 true) else ((key_Cookie.f k a0 a2).bind fun t164 => ((key_Cookie.f k a0 a3).bind fun t165 => (if ((Op.bytesLess t164.toList t165.toList) != (decide (a2 < a3))) = true then (holtlaw12_KeyOrder.j0 k a0 a1 a2 a3 true) else ((key_Pend.f k a2).bind fun t166 => ((key_Pend.f k a3).bind fun t167 => (holtlaw12_KeyOrder.j0 k a0 a1 a2 a3 ((Op.bytesLess t166.toList t167.toList) != (decide (a2 < a3)))))))))))) else (some false))) = some r := h
  clear h
  replace H := Option.bind_eq_some_iff.mp H
  obtain ⟨t161, A50, H⟩ := H
  replace H : (if t161 = true then ((key_Data.f k a0 a2).bind fun t162 => ((key_Data.f k a0 a3).bind fun t163 => (if ((Op.bytesLess t162.toList t163.toList) != (decide (a2 < a3))) = true then (holtlaw12_KeyOrder.j0 k a0 a1 a2 a3 true) else ((key_Cookie.f k a0 a2).bind fun t164 => ((key_Cookie.f k a0 a3).bind fun t165 => (if ((Op.bytesLess t164.toList t165.toList) != (decide (a2 < a3))) = true then (holtlaw12_KeyOrder.j0 k a0 a1 a2 a3 true) else ((key_Pend.f k a2).bind fun t166 => ((key_Pend.f k a3).bind fun t167 => (holtlaw12_KeyOrder.j0 k a0 a1 a2 a3 ((Op.bytesLess t166.toList t167.toList) != (decide (a2 < a3)))))))))))) else (some false)) = some r := H
  have A5 := Aside0.mk A50
  clear A50
  by_cases c6 : t161 = true
  · subst c6
    have H1 : ((key_Data.f k a0 a2).bind fun t162 => ((key_Data.f k a0 a3).bind fun t163 => (if ((Op.bytesLess t162.toList t163.toList) != (decide (a2 < a3))) = true then (holtlaw12_KeyOrder.j0 k a0 a1 a2 a3 true) else ((key_Cookie.f k a0 a2).bind fun t164 => ((key_Cookie.f k a0 a3).bind fun t165 => (if ((Op.bytesLess t164.toList t165.toList) != (decide (a2 < a3))) = true then (holtlaw12_KeyOrder.j0 k a0 a1 a2 a3 true) else ((key_Pend.f k a2).bind fun t166 => ((key_Pend.f k a3).bind fun t167 => (holtlaw12_KeyOrder.j0 k a0 a1 a2 a3 ((Op.bytesLess t166.toList t167.toList) != (decide (a2 < a3)))))))))))) = some r := by rw [if_pos rfl] at H; exact H
    clear H
    have H := H1
    clear H1
    have HC7 := Aside0.mk H
    clear H
    go_enter Try.func3, Try.ntmps3
    go_upto_region 3 with (first | ((with_reducible refine gate_callee (f := 15) rfl ?_); refine goesL_ (some 9) rfl rfl Try.func15 (by kernel_rfl) rfl #[] rfl (by (try simp only [List.map_toArray, List.map_cons, List.map_nil]); first | done | rfl | (simp only [List.length_drop, List.length_take]; rfl)) ?_; (with_reducible refine (holtlaw12_awake.calls k  true _ A5.out).mono ?_); rintro e w8 ⟨rfl, hb⟩; refine ⟨_, rfl, ?_⟩; have n0_ := Aside0.mk (below_step (by repeat (first | (with_reducible first | exact HB.out | apply below_alloc | apply pw_below_drewN | apply below_drew1) | exact HB.out)) hb); clear HB; have HB := n0_; clear n0_; (try clear hb); (try clear hb2); (try clear hk); (try clear hi)))
    (try simp only [Act.put, List.setIfInBounds_toArray, List.set_cons_zero, List.set_cons_succ])
    go_cut [45] (fun v45 wc => ∃ (kq : Nat) (x45_6 : Bool), v45 = .bool x45_6 ∧ Aside0 (holtlaw12_KeyOrder.j0 kq a0 a1 a2 a3 x45_6 = some r) ∧ Aside0 (kq ≤ k) ∧ Aside0 (Below w.heap.size w wc))
    case first =>
      have H := HC7.out
      clear HC7
      replace H := Option.bind_eq_some_iff.mp H
      obtain ⟨t162, A90, H⟩ := H
      replace H : ((key_Data.f k a0 a3).bind fun t163 => (if ((Op.bytesLess t162.toList t163.toList) != (decide (a2 < a3))) = true then (holtlaw12_KeyOrder.j0 k a0 a1 a2 a3 true) else ((key_Cookie.f k a0 a2).bind fun t164 => ((key_Cookie.f k a0 a3).bind fun t165 => (if ((Op.bytesLess t164.toList t165.toList) != (decide (a2 < a3))) = true then (holtlaw12_KeyOrder.j0 k a0 a1 a2 a3 true) else ((key_Pend.f k a2).bind fun t166 => ((key_Pend.f k a3).bind fun t167 => (holtlaw12_KeyOrder.j0 k a0 a1 a2 a3 ((Op.bytesLess t166.toList t167.toList) != (decide (a2 < a3))))))))))) = some r := H
      have A9 := Aside0.mk A90
      clear A90
      replace H := Option.bind_eq_some_iff.mp H
      obtain ⟨t163, A100, H⟩ := H
      replace H : (if ((Op.bytesLess t162.toList t163.toList) != (decide (a2 < a3))) = true then (holtlaw12_KeyOrder.j0 k a0 a1 a2 a3 true) else ((key_Cookie.f k a0 a2).bind fun t164 => ((key_Cookie.f k a0 a3).bind fun t165 => (if ((Op.bytesLess t164.toList t165.toList) != (decide (a2 < a3))) = true then (holtlaw12_KeyOrder.j0 k a0 a1 a2 a3 true) else ((key_Pend.f k a2).bind fun t166 => ((key_Pend.f k a3).bind fun t167 => (holtlaw12_KeyOrder.j0 k a0 a1 a2 a3 ((Op.bytesLess t166.toList t167.toList) != (decide (a2 < a3)))))))))) = some r := H
      have A10 := Aside0.mk A100
      clear A100
      by_cases c11 : ((Op.bytesLess t162.toList t163.toList) != (decide (a2 < a3))) = true
      · rw [if_pos c11] at H
        have c11b0 : ((Op.bytesLess t162.toList t163.toList) != (decide (a2 < a3))) = true := c11
        (try (have c11b1 : decide ((Op.bytesLess t162.toList t163.toList) = (decide (a2 < a3))) = false := by simpa using c11))
        (try (have c11b2 : ((Op.bytesLess t162.toList t163.toList) == (decide (a2 < a3))) = false := by simpa using c11))
        (try (have c11b3 : ¬ ((Op.bytesLess t162.toList t163.toList) = (decide (a2 < a3))) := by simpa using c11))
        clear c11
        (first | rw [c11b0] | (simp only [i64_w, i32_w]; rw [c11b0]) | skip)
        have H' := Aside0.mk H
        clear H
        go_wp2_with (first | ((with_reducible refine gate_callee (f := 16) rfl ?_); refine goesL_ (some 13) rfl rfl Try.func16 (by kernel_rfl) rfl #[.int .u64 a0, .int .u64 a2] rfl (by (try simp only [List.map_toArray, List.map_cons, List.map_nil]); first | done | rfl | (simp only [List.length_drop, List.length_take]; rfl)) ?_; (with_reducible refine (key_Data.calls k a0 a2 t162 _ A9.out).mono ?_); rintro e w12 ⟨rfl, hb⟩; refine ⟨_, rfl, ?_⟩; have n0_ := Aside0.mk (below_step (by repeat (first | (with_reducible first | exact HB.out | apply below_alloc | apply pw_below_drewN | apply below_drew1) | exact HB.out)) hb); clear HB; have HB := n0_; clear n0_; (try clear hb); (try clear hb2); (try clear hk); (try clear hi)) | ((with_reducible refine gate_callee (f := 16) rfl ?_); refine goesL_ (some 16) rfl rfl Try.func16 (by kernel_rfl) rfl #[.int .u64 a0, .int .u64 a3] rfl (by (try simp only [List.map_toArray, List.map_cons, List.map_nil]); first | done | rfl | (simp only [List.length_drop, List.length_take]; rfl)) ?_; (with_reducible refine (key_Data.calls k a0 a3 t163 _ A10.out).mono ?_); rintro e w13 ⟨rfl, hb⟩; refine ⟨_, rfl, ?_⟩; have n0_ := Aside0.mk (below_step (by repeat (first | (with_reducible first | exact HB.out | apply below_alloc | apply pw_below_drewN | apply below_drew1) | exact HB.out)) hb); clear HB; have HB := n0_; clear n0_; (try clear hb); (try clear hb2); (try clear hk); (try clear hi)))
        go_meet
        case rel => exact ⟨_, (true), (by first | rfl | (simp; done) | (simp [*]; done)), H', ⟨by first | omega | exact Nat.le_refl _⟩, ⟨by repeat (first | (with_reducible first | exact HB.out | apply below_alloc | apply pw_below_drewN | apply below_drew1) | exact HB.out)⟩⟩
      · rw [if_neg c11] at H
        have c11b0 : ((Op.bytesLess t162.toList t163.toList) != (decide (a2 < a3))) = false := by simpa using c11
        (try (have c11b1 : decide ((Op.bytesLess t162.toList t163.toList) = (decide (a2 < a3))) = true := by simpa using c11))
        (try (have c11b2 : ((Op.bytesLess t162.toList t163.toList) == (decide (a2 < a3))) = true := by simpa using c11))
        clear c11
        (first | rw [c11b0] | (simp only [i64_w, i32_w]; rw [c11b0]) | skip)
        replace H := Option.bind_eq_some_iff.mp H
        obtain ⟨t164, A140, H⟩ := H
        replace H : ((key_Cookie.f k a0 a3).bind fun t165 => (if ((Op.bytesLess t164.toList t165.toList) != (decide (a2 < a3))) = true then (holtlaw12_KeyOrder.j0 k a0 a1 a2 a3 true) else ((key_Pend.f k a2).bind fun t166 => ((key_Pend.f k a3).bind fun t167 => (holtlaw12_KeyOrder.j0 k a0 a1 a2 a3 ((Op.bytesLess t166.toList t167.toList) != (decide (a2 < a3)))))))) = some r := H
        have A14 := Aside0.mk A140
        clear A140
        replace H := Option.bind_eq_some_iff.mp H
        obtain ⟨t165, A150, H⟩ := H
        replace H : (if ((Op.bytesLess t164.toList t165.toList) != (decide (a2 < a3))) = true then (holtlaw12_KeyOrder.j0 k a0 a1 a2 a3 true) else ((key_Pend.f k a2).bind fun t166 => ((key_Pend.f k a3).bind fun t167 => (holtlaw12_KeyOrder.j0 k a0 a1 a2 a3 ((Op.bytesLess t166.toList t167.toList) != (decide (a2 < a3))))))) = some r := H
        have A15 := Aside0.mk A150
        clear A150
        by_cases c16 : ((Op.bytesLess t164.toList t165.toList) != (decide (a2 < a3))) = true
        · rw [if_pos c16] at H
          have c16b0 : ((Op.bytesLess t164.toList t165.toList) != (decide (a2 < a3))) = true := c16
          (try (have c16b1 : decide ((Op.bytesLess t164.toList t165.toList) = (decide (a2 < a3))) = false := by simpa using c16))
          (try (have c16b2 : ((Op.bytesLess t164.toList t165.toList) == (decide (a2 < a3))) = false := by simpa using c16))
          (try (have c16b3 : ¬ ((Op.bytesLess t164.toList t165.toList) = (decide (a2 < a3))) := by simpa using c16))
          clear c16
          have H' := Aside0.mk H
          clear H
          go_wp2_with (first | ((with_reducible refine gate_callee (f := 16) rfl ?_); refine goesL_ (some 13) rfl rfl Try.func16 (by kernel_rfl) rfl #[.int .u64 a0, .int .u64 a2] rfl (by (try simp only [List.map_toArray, List.map_cons, List.map_nil]); first | done | rfl | (simp only [List.length_drop, List.length_take]; rfl)) ?_; (with_reducible refine (key_Data.calls k a0 a2 t162 _ A9.out).mono ?_); rintro e w17 ⟨rfl, hb⟩; refine ⟨_, rfl, ?_⟩; have n0_ := Aside0.mk (below_step (by repeat (first | (with_reducible first | exact HB.out | apply below_alloc | apply pw_below_drewN | apply below_drew1) | exact HB.out)) hb); clear HB; have HB := n0_; clear n0_; (try clear hb); (try clear hb2); (try clear hk); (try clear hi)) | ((with_reducible refine gate_callee (f := 16) rfl ?_); refine goesL_ (some 16) rfl rfl Try.func16 (by kernel_rfl) rfl #[.int .u64 a0, .int .u64 a3] rfl (by (try simp only [List.map_toArray, List.map_cons, List.map_nil]); first | done | rfl | (simp only [List.length_drop, List.length_take]; rfl)) ?_; (with_reducible refine (key_Data.calls k a0 a3 t163 _ A10.out).mono ?_); rintro e w18 ⟨rfl, hb⟩; refine ⟨_, rfl, ?_⟩; have n0_ := Aside0.mk (below_step (by repeat (first | (with_reducible first | exact HB.out | apply below_alloc | apply pw_below_drewN | apply below_drew1) | exact HB.out)) hb); clear HB; have HB := n0_; clear n0_; (try clear hb); (try clear hb2); (try clear hk); (try clear hi)) | (go_at_call 17; (with_reducible refine (key_Cookie.calls k a0 a2 t164 _ A14.out).mono ?_); rintro e w19 ⟨rfl, hb⟩; have n0_ := Aside0.mk (below_step (by repeat (first | (with_reducible first | exact HB.out | apply below_alloc | apply pw_below_drewN | apply below_drew1) | exact HB.out)) hb); clear HB; have HB := n0_; clear n0_; (try clear hb); (try clear hb2); (try clear hk); (try clear hi)) | (go_at_call 17; (with_reducible refine (key_Cookie.calls k a0 a3 t165 _ A15.out).mono ?_); rintro e w20 ⟨rfl, hb⟩; have n0_ := Aside0.mk (below_step (by repeat (first | (with_reducible first | exact HB.out | apply below_alloc | apply pw_below_drewN | apply below_drew1) | exact HB.out)) hb); clear HB; have HB := n0_; clear n0_; (try clear hb); (try clear hb2); (try clear hk); (try clear hi)))
          go_meet
          case rel => exact ⟨_, (true), (by first | rfl | (simp; done) | (simp [*]; done)), H', ⟨by first | omega | exact Nat.le_refl _⟩, ⟨by repeat (first | (with_reducible first | exact HB.out | apply below_alloc | apply pw_below_drewN | apply below_drew1) | exact HB.out)⟩⟩
        · rw [if_neg c16] at H
          have c16b0 : ((Op.bytesLess t164.toList t165.toList) != (decide (a2 < a3))) = false := by simpa using c16
          (try (have c16b1 : decide ((Op.bytesLess t164.toList t165.toList) = (decide (a2 < a3))) = true := by simpa using c16))
          (try (have c16b2 : ((Op.bytesLess t164.toList t165.toList) == (decide (a2 < a3))) = true := by simpa using c16))
          clear c16
          replace H := Option.bind_eq_some_iff.mp H
          obtain ⟨t166, A210, H⟩ := H
          replace H : ((key_Pend.f k a3).bind fun t167 => (holtlaw12_KeyOrder.j0 k a0 a1 a2 a3 ((Op.bytesLess t166.toList t167.toList) != (decide (a2 < a3))))) = some r := H
          have A21 := Aside0.mk A210
          clear A210
          replace H := Option.bind_eq_some_iff.mp H
          obtain ⟨t167, A220, H⟩ := H
          replace H : (holtlaw12_KeyOrder.j0 k a0 a1 a2 a3 ((Op.bytesLess t166.toList t167.toList) != (decide (a2 < a3)))) = some r := H
          have A22 := Aside0.mk A220
          clear A220
          have H' := Aside0.mk H
          clear H
          go_wp2_with (first | ((with_reducible refine gate_callee (f := 16) rfl ?_); refine goesL_ (some 13) rfl rfl Try.func16 (by kernel_rfl) rfl #[.int .u64 a0, .int .u64 a2] rfl (by (try simp only [List.map_toArray, List.map_cons, List.map_nil]); first | done | rfl | (simp only [List.length_drop, List.length_take]; rfl)) ?_; (with_reducible refine (key_Data.calls k a0 a2 t162 _ A9.out).mono ?_); rintro e w23 ⟨rfl, hb⟩; refine ⟨_, rfl, ?_⟩; have n0_ := Aside0.mk (below_step (by repeat (first | (with_reducible first | exact HB.out | apply below_alloc | apply pw_below_drewN | apply below_drew1) | exact HB.out)) hb); clear HB; have HB := n0_; clear n0_; (try clear hb); (try clear hb2); (try clear hk); (try clear hi)) | ((with_reducible refine gate_callee (f := 16) rfl ?_); refine goesL_ (some 16) rfl rfl Try.func16 (by kernel_rfl) rfl #[.int .u64 a0, .int .u64 a3] rfl (by (try simp only [List.map_toArray, List.map_cons, List.map_nil]); first | done | rfl | (simp only [List.length_drop, List.length_take]; rfl)) ?_; (with_reducible refine (key_Data.calls k a0 a3 t163 _ A10.out).mono ?_); rintro e w24 ⟨rfl, hb⟩; refine ⟨_, rfl, ?_⟩; have n0_ := Aside0.mk (below_step (by repeat (first | (with_reducible first | exact HB.out | apply below_alloc | apply pw_below_drewN | apply below_drew1) | exact HB.out)) hb); clear HB; have HB := n0_; clear n0_; (try clear hb); (try clear hb2); (try clear hk); (try clear hi)) | (go_at_call 17; (with_reducible refine (key_Cookie.calls k a0 a2 t164 _ A14.out).mono ?_); rintro e w25 ⟨rfl, hb⟩; have n0_ := Aside0.mk (below_step (by repeat (first | (with_reducible first | exact HB.out | apply below_alloc | apply pw_below_drewN | apply below_drew1) | exact HB.out)) hb); clear HB; have HB := n0_; clear n0_; (try clear hb); (try clear hb2); (try clear hk); (try clear hi)) | (go_at_call 17; (with_reducible refine (key_Cookie.calls k a0 a3 t165 _ A15.out).mono ?_); rintro e w26 ⟨rfl, hb⟩; have n0_ := Aside0.mk (below_step (by repeat (first | (with_reducible first | exact HB.out | apply below_alloc | apply pw_below_drewN | apply below_drew1) | exact HB.out)) hb); clear HB; have HB := n0_; clear n0_; (try clear hb); (try clear hb2); (try clear hk); (try clear hi)) | (go_at_call 18; (with_reducible refine (key_Pend.calls k a2 t166 _ A21.out).mono ?_); rintro e w27 ⟨rfl, hb⟩; have n0_ := Aside0.mk (below_step (by repeat (first | (with_reducible first | exact HB.out | apply below_alloc | apply pw_below_drewN | apply below_drew1) | exact HB.out)) hb); clear HB; have HB := n0_; clear n0_; (try clear hb); (try clear hb2); (try clear hk); (try clear hi)) | (go_at_call 18; (with_reducible refine (key_Pend.calls k a3 t167 _ A22.out).mono ?_); rintro e w28 ⟨rfl, hb⟩; have n0_ := Aside0.mk (below_step (by repeat (first | (with_reducible first | exact HB.out | apply below_alloc | apply pw_below_drewN | apply below_drew1) | exact HB.out)) hb); clear HB; have HB := n0_; clear n0_; (try clear hb); (try clear hb2); (try clear hk); (try clear hi)))
          go_meet
          case rel => exact ⟨_, (((Op.bytesLess t166.toList t167.toList) != (decide (a2 < a3)))), (by first | rfl | (simp; done) | (simp [*]; done)), H', ⟨by first | omega | exact Nat.le_refl _⟩, ⟨by repeat (first | (with_reducible first | exact HB.out | apply below_alloc | apply pw_below_drewN | apply below_drew1) | exact HB.out)⟩⟩
    case rest =>
      clear HC7
      try clear c1
      try clear p2
      try clear c3
      try clear c6
      try clear c11
      try clear c11b0
      try clear c11b1
      try clear c11b2
      try clear c15
      try clear c16
      try clear c16b0
      try clear c16b1
      try clear c16b2
      obtain ⟨kq, x45_6, rfl, HA, HJ6, HB⟩ := hcut
      cases kq with
      | zero => exact absurd HA.out (by simp [holtlaw12_KeyOrder.j0])
      | succ kj6 =>
        have H := HA.out
        clear HA
        simp only [holtlaw12_KeyOrder.j0] at H
        by_cases c29 : x45_6 = true
        · subst c29
          have H1 : (some false) = some r := by rw [if_pos rfl] at H; exact H
          clear H
          have H := H1
          clear H1
          obtain rfl := Option.some.inj H
          go_wp2
          go_ret
          exact ⟨by first | rfl | (simp [errW_none, errW_some] <;> rfl) | (simp [*, errW_none, errW_some] <;> rfl), by repeat (first | (with_reducible first | exact HB.out | apply below_alloc | apply pw_below_drewN | apply below_drew1) | exact HB.out)⟩
        · replace c29 := Bool.eq_false_iff.mpr c29
          subst c29
          have H1 : (if a0 < a1 then ((key_Data.f kj6 a0 18446744073709551615).bind fun t168 => ((key_Data.f kj6 a1 0).bind fun t169 => (if (Op.bytesLess t168.toList t169.toList) = true then ((key_Cookie.f kj6 a0 a2).bind fun t170 => ((key_Cookie.f kj6 a1 a3).bind fun t171 => (if (Op.bytesLess t170.toList t171.toList) = true then ((key_Inode.f kj6 a0).bind fun t172 => ((key_Inode.f kj6 a1).bind fun t173 => (if (Op.bytesLess t172.toList t173.toList) = true then ((key_Entry.f kj6 a0 (⟨#[126, 126, 126]⟩ : ByteArray)).bind fun t174 => ((key_Entry.f kj6 a1 (⟨#[]⟩ : ByteArray)).bind fun t175 => (some (Op.bytesLess t174.toList t175.toList)))) else (none)))) else (none)))) else (none)))) else (if a0 = a1 then (some true) else ((key_Data.f kj6 a1 a2).bind fun t176 => ((key_Data.f kj6 a0 a3).bind fun t177 => (some (Op.bytesLess t176.toList t177.toList)))))) = some r := by rw [if_neg (show ¬ (false = true) by decide)] at H; exact H
          clear H
          have H := H1
          clear H1
          by_cases c30 : a0 < a1
          · rw [if_pos c30] at H
            have c30b0 : decide (a0 < a1) = true := decide_eq_true c30
            clear c30
            replace H := Option.bind_eq_some_iff.mp H
            obtain ⟨t168, A310, H⟩ := H
            replace H : ((key_Data.f kj6 a1 0).bind fun t169 => (if (Op.bytesLess t168.toList t169.toList) = true then ((key_Cookie.f kj6 a0 a2).bind fun t170 => ((key_Cookie.f kj6 a1 a3).bind fun t171 => (if (Op.bytesLess t170.toList t171.toList) = true then ((key_Inode.f kj6 a0).bind fun t172 => ((key_Inode.f kj6 a1).bind fun t173 => (if (Op.bytesLess t172.toList t173.toList) = true then ((key_Entry.f kj6 a0 (⟨#[126, 126, 126]⟩ : ByteArray)).bind fun t174 => ((key_Entry.f kj6 a1 (⟨#[]⟩ : ByteArray)).bind fun t175 => (some (Op.bytesLess t174.toList t175.toList)))) else (none)))) else (none)))) else (none))) = some r := H
            have A31 := Aside0.mk A310
            clear A310
            replace H := Option.bind_eq_some_iff.mp H
            obtain ⟨t169, A320, H⟩ := H
            replace H : (if (Op.bytesLess t168.toList t169.toList) = true then ((key_Cookie.f kj6 a0 a2).bind fun t170 => ((key_Cookie.f kj6 a1 a3).bind fun t171 => (if (Op.bytesLess t170.toList t171.toList) = true then ((key_Inode.f kj6 a0).bind fun t172 => ((key_Inode.f kj6 a1).bind fun t173 => (if (Op.bytesLess t172.toList t173.toList) = true then ((key_Entry.f kj6 a0 (⟨#[126, 126, 126]⟩ : ByteArray)).bind fun t174 => ((key_Entry.f kj6 a1 (⟨#[]⟩ : ByteArray)).bind fun t175 => (some (Op.bytesLess t174.toList t175.toList)))) else (none)))) else (none)))) else (none)) = some r := H
            have A32 := Aside0.mk A320
            clear A320
            by_cases c33 : (Op.bytesLess t168.toList t169.toList) = true
            · rw [if_pos c33] at H
              have c33b0 : (Op.bytesLess t168.toList t169.toList) = true := c33
              clear c33
              replace H := Option.bind_eq_some_iff.mp H
              obtain ⟨t170, A340, H⟩ := H
              replace H : ((key_Cookie.f kj6 a1 a3).bind fun t171 => (if (Op.bytesLess t170.toList t171.toList) = true then ((key_Inode.f kj6 a0).bind fun t172 => ((key_Inode.f kj6 a1).bind fun t173 => (if (Op.bytesLess t172.toList t173.toList) = true then ((key_Entry.f kj6 a0 (⟨#[126, 126, 126]⟩ : ByteArray)).bind fun t174 => ((key_Entry.f kj6 a1 (⟨#[]⟩ : ByteArray)).bind fun t175 => (some (Op.bytesLess t174.toList t175.toList)))) else (none)))) else (none))) = some r := H
              have A34 := Aside0.mk A340
              clear A340
              replace H := Option.bind_eq_some_iff.mp H
              obtain ⟨t171, A350, H⟩ := H
              replace H : (if (Op.bytesLess t170.toList t171.toList) = true then ((key_Inode.f kj6 a0).bind fun t172 => ((key_Inode.f kj6 a1).bind fun t173 => (if (Op.bytesLess t172.toList t173.toList) = true then ((key_Entry.f kj6 a0 (⟨#[126, 126, 126]⟩ : ByteArray)).bind fun t174 => ((key_Entry.f kj6 a1 (⟨#[]⟩ : ByteArray)).bind fun t175 => (some (Op.bytesLess t174.toList t175.toList)))) else (none)))) else (none)) = some r := H
              have A35 := Aside0.mk A350
              clear A350
              by_cases c36 : (Op.bytesLess t170.toList t171.toList) = true
              · rw [if_pos c36] at H
                have c36b0 : (Op.bytesLess t170.toList t171.toList) = true := c36
                clear c36
                replace H := Option.bind_eq_some_iff.mp H
                obtain ⟨t172, A370, H⟩ := H
                replace H : ((key_Inode.f kj6 a1).bind fun t173 => (if (Op.bytesLess t172.toList t173.toList) = true then ((key_Entry.f kj6 a0 (⟨#[126, 126, 126]⟩ : ByteArray)).bind fun t174 => ((key_Entry.f kj6 a1 (⟨#[]⟩ : ByteArray)).bind fun t175 => (some (Op.bytesLess t174.toList t175.toList)))) else (none))) = some r := H
                have A37 := Aside0.mk A370
                clear A370
                replace H := Option.bind_eq_some_iff.mp H
                obtain ⟨t173, A380, H⟩ := H
                replace H : (if (Op.bytesLess t172.toList t173.toList) = true then ((key_Entry.f kj6 a0 (⟨#[126, 126, 126]⟩ : ByteArray)).bind fun t174 => ((key_Entry.f kj6 a1 (⟨#[]⟩ : ByteArray)).bind fun t175 => (some (Op.bytesLess t174.toList t175.toList)))) else (none)) = some r := H
                have A38 := Aside0.mk A380
                clear A380
                by_cases c39 : (Op.bytesLess t172.toList t173.toList) = true
                · rw [if_pos c39] at H
                  have c39b0 : (Op.bytesLess t172.toList t173.toList) = true := c39
                  clear c39
                  replace H := Option.bind_eq_some_iff.mp H
                  obtain ⟨t174, A400, H⟩ := H
                  replace H : ((key_Entry.f kj6 a1 (⟨#[]⟩ : ByteArray)).bind fun t175 => (some (Op.bytesLess t174.toList t175.toList))) = some r := H
                  have A40 := Aside0.mk A400
                  clear A400
                  replace H := Option.bind_eq_some_iff.mp H
                  obtain ⟨t175, A410, H⟩ := H
                  replace H : (some (Op.bytesLess t174.toList t175.toList)) = some r := H
                  have A41 := Aside0.mk A410
                  clear A410
                  obtain rfl := Option.some.inj H
                  go_wp2_with (first | ((with_reducible refine gate_callee (f := 16) rfl ?_); refine goesL_ (some 50) rfl rfl Try.func16 (by kernel_rfl) rfl #[.int .u64 a0, .int .u64 18446744073709551615] rfl (by (try simp only [List.map_toArray, List.map_cons, List.map_nil]); first | done | rfl | (simp only [List.length_drop, List.length_take]; rfl)) ?_; (with_reducible refine (key_Data.calls kj6 a0 18446744073709551615 t168 _ A31.out).mono ?_); rintro e w42 ⟨rfl, hb⟩; refine ⟨_, rfl, ?_⟩; have n0_ := Aside0.mk (below_step (by repeat (first | (with_reducible first | exact HB.out | apply below_alloc | apply pw_below_drewN | apply below_drew1) | exact HB.out)) hb); clear HB; have HB := n0_; clear n0_; (try clear hb); (try clear hb2); (try clear hk); (try clear hi)) | ((with_reducible refine gate_callee (f := 16) rfl ?_); refine goesL_ (some 52) rfl rfl Try.func16 (by kernel_rfl) rfl #[.int .u64 a1, .int .u64 0] rfl (by (try simp only [List.map_toArray, List.map_cons, List.map_nil]); first | done | rfl | (simp only [List.length_drop, List.length_take]; rfl)) ?_; (with_reducible refine (key_Data.calls kj6 a1 0 t169 _ A32.out).mono ?_); rintro e w43 ⟨rfl, hb⟩; refine ⟨_, rfl, ?_⟩; have n0_ := Aside0.mk (below_step (by repeat (first | (with_reducible first | exact HB.out | apply below_alloc | apply pw_below_drewN | apply below_drew1) | exact HB.out)) hb); clear HB; have HB := n0_; clear n0_; (try clear hb); (try clear hb2); (try clear hk); (try clear hi)) | (go_at_call 17; (with_reducible refine (key_Cookie.calls kj6 a0 a2 t170 _ A34.out).mono ?_); rintro e w44 ⟨rfl, hb⟩; have n0_ := Aside0.mk (below_step (by repeat (first | (with_reducible first | exact HB.out | apply below_alloc | apply pw_below_drewN | apply below_drew1) | exact HB.out)) hb); clear HB; have HB := n0_; clear n0_; (try clear hb); (try clear hb2); (try clear hk); (try clear hi)) | (go_at_call 17; (with_reducible refine (key_Cookie.calls kj6 a1 a3 t171 _ A35.out).mono ?_); rintro e w45 ⟨rfl, hb⟩; have n0_ := Aside0.mk (below_step (by repeat (first | (with_reducible first | exact HB.out | apply below_alloc | apply pw_below_drewN | apply below_drew1) | exact HB.out)) hb); clear HB; have HB := n0_; clear n0_; (try clear hb); (try clear hb2); (try clear hk); (try clear hi)) | (go_at_call 19; (with_reducible refine (key_Inode.calls kj6 a0 t172 _ A37.out).mono ?_); rintro e w46 ⟨rfl, hb⟩; have n0_ := Aside0.mk (below_step (by repeat (first | (with_reducible first | exact HB.out | apply below_alloc | apply pw_below_drewN | apply below_drew1) | exact HB.out)) hb); clear HB; have HB := n0_; clear n0_; (try clear hb); (try clear hb2); (try clear hk); (try clear hi)) | (go_at_call 19; (with_reducible refine (key_Inode.calls kj6 a1 t173 _ A38.out).mono ?_); rintro e w47 ⟨rfl, hb⟩; have n0_ := Aside0.mk (below_step (by repeat (first | (with_reducible first | exact HB.out | apply below_alloc | apply pw_below_drewN | apply below_drew1) | exact HB.out)) hb); clear HB; have HB := n0_; clear n0_; (try clear hb); (try clear hb2); (try clear hk); (try clear hi)) | (go_at_call 20; (with_reducible refine (key_Entry.calls kj6 a0 (⟨#[126, 126, 126]⟩ : ByteArray) t174 _ A40.out).mono ?_); rintro e w48 ⟨rfl, hb⟩; have n0_ := Aside0.mk (below_step (by repeat (first | (with_reducible first | exact HB.out | apply below_alloc | apply pw_below_drewN | apply below_drew1) | exact HB.out)) hb); clear HB; have HB := n0_; clear n0_; (try clear hb); (try clear hb2); (try clear hk); (try clear hi)) | (go_at_call 20; (with_reducible refine (key_Entry.calls kj6 a1 (⟨#[]⟩ : ByteArray) t175 _ A41.out).mono ?_); rintro e w49 ⟨rfl, hb⟩; have n0_ := Aside0.mk (below_step (by repeat (first | (with_reducible first | exact HB.out | apply below_alloc | apply pw_below_drewN | apply below_drew1) | exact HB.out)) hb); clear HB; have HB := n0_; clear n0_; (try clear hb); (try clear hb2); (try clear hk); (try clear hi)))
                  go_ret
                  exact ⟨by first | rfl | (simp [errW_none, errW_some] <;> rfl) | (simp [*, errW_none, errW_some] <;> rfl), by repeat (first | (with_reducible first | exact HB.out | apply below_alloc | apply pw_below_drewN | apply below_drew1) | exact HB.out)⟩
                · rw [if_neg c39] at H
                  exact absurd H (by simp)
              · rw [if_neg c36] at H
                exact absurd H (by simp)
            · rw [if_neg c33] at H
              exact absurd H (by simp)
          · rw [if_neg c30] at H
            have c30b0 : decide (a0 < a1) = false := decide_eq_false c30
            clear c30
            by_cases c50 : a0 = a1
            · rw [if_pos c50] at H
              have c50b0 : (a0 == a1) = true := beq_iff_eq.mpr c50
              have c50b1 : (a0 != a1) = false := bne_eq_false_iff_eq.mpr c50
              clear c50
              obtain rfl := Option.some.inj H
              go_wp2
              go_ret
              exact ⟨by first | rfl | (simp [errW_none, errW_some] <;> rfl) | (simp [*, errW_none, errW_some] <;> rfl), by repeat (first | (with_reducible first | exact HB.out | apply below_alloc | apply pw_below_drewN | apply below_drew1) | exact HB.out)⟩
            · rw [if_neg c50] at H
              have c50b0 : (a0 == a1) = false := beq_eq_false_iff_ne.mpr c50
              have c50b1 : (a0 != a1) = true := bne_iff_ne.mpr c50
              replace H := Option.bind_eq_some_iff.mp H
              obtain ⟨t176, A510, H⟩ := H
              replace H : ((key_Data.f kj6 a0 a3).bind fun t177 => (some (Op.bytesLess t176.toList t177.toList))) = some r := H
              have A51 := Aside0.mk A510
              clear A510
              replace H := Option.bind_eq_some_iff.mp H
              obtain ⟨t177, A520, H⟩ := H
              replace H : (some (Op.bytesLess t176.toList t177.toList)) = some r := H
              have A52 := Aside0.mk A520
              clear A520
              obtain rfl := Option.some.inj H
              go_wp2_with (first | (go_at_call 16; (with_reducible refine (key_Data.calls kj6 a1 a2 t176 _ A51.out).mono ?_); rintro e w53 ⟨rfl, hb⟩; have n0_ := Aside0.mk (below_step (by repeat (first | (with_reducible first | exact HB.out | apply below_alloc | apply pw_below_drewN | apply below_drew1) | exact HB.out)) hb); clear HB; have HB := n0_; clear n0_; (try clear hb); (try clear hb2); (try clear hk); (try clear hi)) | (go_at_call 16; (with_reducible refine (key_Data.calls kj6 a0 a3 t177 _ A52.out).mono ?_); rintro e w54 ⟨rfl, hb⟩; have n0_ := Aside0.mk (below_step (by repeat (first | (with_reducible first | exact HB.out | apply below_alloc | apply pw_below_drewN | apply below_drew1) | exact HB.out)) hb); clear HB; have HB := n0_; clear n0_; (try clear hb); (try clear hb2); (try clear hk); (try clear hi)))
              go_ret
              exact ⟨by first | rfl | (simp [errW_none, errW_some] <;> rfl) | (simp [*, errW_none, errW_some] <;> rfl), by repeat (first | (with_reducible first | exact HB.out | apply below_alloc | apply pw_below_drewN | apply below_drew1) | exact HB.out)⟩
  · replace c6 := Bool.eq_false_iff.mpr c6
    subst c6
    have H1 : (some false) = some r := by rw [if_neg (show ¬ (false = true) by decide)] at H; exact H
    clear H
    have H := H1
    clear H1
    obtain rfl := Option.some.inj H
    go_enter Try.func3, Try.ntmps3
    go_wp2_with (first | ((with_reducible refine gate_callee (f := 15) rfl ?_); refine goesL_ (some 9) rfl rfl Try.func15 (by kernel_rfl) rfl #[] rfl (by (try simp only [List.map_toArray, List.map_cons, List.map_nil]); first | done | rfl | (simp only [List.length_drop, List.length_take]; rfl)) ?_; (with_reducible refine (holtlaw12_awake.calls k  false _ A5.out).mono ?_); rintro e w55 ⟨rfl, hb⟩; refine ⟨_, rfl, ?_⟩; have n0_ := Aside0.mk (below_step (by repeat (first | (with_reducible first | exact HB.out | apply below_alloc | apply pw_below_drewN | apply below_drew1) | exact HB.out)) hb); clear HB; have HB := n0_; clear n0_; (try clear hb); (try clear hb2); (try clear hk); (try clear hi)))
    go_ret
    exact ⟨by first | rfl | (simp [errW_none, errW_some] <;> rfl) | (simp [*, errW_none, errW_some] <;> rfl), by repeat (first | (with_reducible first | exact HB.out | apply below_alloc | apply pw_below_drewN | apply below_drew1) | exact HB.out)⟩

/-- THE ONE PURE STATEMENT of holtlaw12_KeyOrder: yours. -/
def holtlaw12_KeyOrder.Pure : Prop := ∀ (a0 : Int) (a1 : Int) (a2 : Int) (a3 : Int), (Lit.int .u64 a0).wf = true → (Lit.int .u64 a1).wf = true → (Lit.int .u64 a2).wf = true → (Lit.int .u64 a3).wf = true → ∃ k, holtlaw12_KeyOrder.f k a0 a1 a2 a3 = some true
theorem holtlaw12_KeyOrder.walk (P : holtlaw12_KeyOrder.Pure) (a0 : Int) (a1 : Int) (a2 : Int) (a3 : Int) (w : World) (w0 : (Lit.int .u64 a0).wf = true) (w1 : (Lit.int .u64 a1).wf = true) (w2 : (Lit.int .u64 a2).wf = true) (w3 : (Lit.int .u64 a3).wf = true) :
    Calls Try.prog 3 #[.int .u64 a0, .int .u64 a1, .int .u64 a2, .int .u64 a3] w fun e w' => e = .returned (.bool true) ∧ Below w.heap.size w w' := by
  obtain ⟨k, h⟩ := P a0 a1 a2 a3 w0 w1 w2 w3
  refine (holtlaw12_KeyOrder.calls k a0 a1 a2 a3 true w h).mono ?_
  rintro e w' ⟨rfl, hd⟩
  exact ⟨rfl, hd⟩

end Go.Proofs.Ytikekepiimaccaa.Ko

/- Printed by hp.py, a program of this session, out of the translation: each Go function as a plain Lean function and the contract of its call. No conditions beyond those in the statements. -/
import Derived.Test.YtkcnmlggaggjlaaCh0
import Derived.Test.YtkcnmlggaggjlaaCh1
import Derived.Test.YtkcnmlggaggjlaaCh2
namespace Go.Proofs.Ytkcnmlggaggjlaa.Ch
open Go.RowKit Go.Proofs.YtkcnmlggaggjlaaW.PrintWords Go.Proofs.YtkcnmlggaggjlaaW.PrintLast Go.Proofs.YtkcnmlggaggjlaaW.PrintMore
attribute [local go_sem] max2_int min2_int max_two min_two max_three min_three max_four min_four   -- for this text's walks alone
set_option linter.unusedVariables false
set_option linter.unusedSimpArgs false

/-! ### holtlaw15_ChargeTurns: function 11 -/
def holtlaw15_ChargeTurns.j0 : Nat → Int → Int → Int → Int → Bool → Option (Bool)
  | 0, _, _, _, _, _ => none
  | k + 1, x0, x1, x2, x3, x27 => if x27 = true then (some false) else (if (IntKind.u64.wrap ((x0 / 4) + (x2 / 4))) ≥ (x3 / 4) then ((charge_Allows.f (x0 / 4) x1 (x2 / 4) (x3 / 4)).bind fun t171 => (if (t171 == (decide ((IntKind.u64.wrap ((IntKind.u64.wrap ((x0 / 4) + (x2 / 4))) - (x3 / 4))) ≤ x1))) = true then ((charge_Allows.f (x0 / 4) (IntKind.u64.wrap ((IntKind.u64.wrap ((x0 / 4) + (x2 / 4))) - (x3 / 4))) (x2 / 4) (x3 / 4)).bind fun t172 => (some t172)) else (some false))) else ((charge_Allows.f (x0 / 4) x1 (x2 / 4) (x3 / 4)).bind fun t173 => (some (!t173))))
def holtlaw15_ChargeTurns.f (k : Nat) (a0 : Int) (a1 : Int) (a2 : Int) (a3 : Int) : Option (Bool) := (holtlaw15_awake.f).bind fun t168 => (if t168 = true then ((charge_Allows.f a0 a1 a2 a3).bind fun t169 => (if t169 = true then ((charge_Allows.f a0 18446744073709551615 a2 a3).bind fun t170 => (holtlaw15_ChargeTurns.j0 k a0 a1 a2 a3 (!t170))) else (holtlaw15_ChargeTurns.j0 k a0 a1 a2 a3 false))) else (some false))
theorem holtlaw15_ChargeTurns.mono_l : ∀ k, (∀ y0 y1 y2 y3 y4, LeO (holtlaw15_ChargeTurns.j0 k y0 y1 y2 y3 y4) (holtlaw15_ChargeTurns.j0 (k + 1) y0 y1 y2 y3 y4))
  | 0 => fun _ _ _ _ _ r h => by simp [holtlaw15_ChargeTurns.j0] at h
  | k + 1 => by
    have ih0 := holtlaw15_ChargeTurns.mono_l k
    · intro y0 y1 y2 y3 y4
      unfold holtlaw15_ChargeTurns.j0
      repeat' first
      | (with_reducible exact ih0 _ _ _ _ _)
      | (with_reducible exact LeO.refl _)
      | (with_reducible exact LeO.none _)
      | (with_reducible refine LeO.ite ?_ ?_)
      | (with_reducible refine LeO.bind ?_ (fun _ => ?_))
      | exact ih0 _ _ _ _ _
      | exact LeO.none _
      | refine LeO.ite ?_ ?_
      | refine LeO.bind ?_ (fun _ => ?_)
theorem holtlaw15_ChargeTurns.mono : ∀ a0 a1 a2 a3 k, LeO (holtlaw15_ChargeTurns.f k a0 a1 a2 a3) (holtlaw15_ChargeTurns.f (k + 1) a0 a1 a2 a3) := by
  intro a0 a1 a2 a3 k
  have ih0 := holtlaw15_ChargeTurns.mono_l k
  unfold holtlaw15_ChargeTurns.f
  repeat' first
      | (with_reducible exact ih0 _ _ _ _ _)
      | (with_reducible exact LeO.refl _)
      | (with_reducible exact LeO.none _)
      | (with_reducible refine LeO.ite ?_ ?_)
      | (with_reducible refine LeO.bind ?_ (fun _ => ?_))
      | exact ih0 _ _ _ _ _
      | exact LeO.none _
      | refine LeO.ite ?_ ?_
      | refine LeO.bind ?_ (fun _ => ?_)
set_option maxHeartbeats 8000000 in
set_option maxRecDepth 100000 in
theorem holtlaw15_ChargeTurns.calls (k : Nat) (a0 : Int) (a1 : Int) (a2 : Int) (a3 : Int) (r : Bool) (w : World) (h : holtlaw15_ChargeTurns.f k a0 a1 a2 a3 = some r) :
    Calls Try.prog 11 #[.int .u64 a0, .int .u64 a1, .int .u64 a2, .int .u64 a3] w fun e w' => e = .returned (.bool r) ∧ Below w.heap.size w w' := by
  have HB := Aside0.mk (Below.refl w.heap.size w)
  have H : ((holtlaw15_awake.f).bind fun t168 => (if t168 = true then ((charge_Allows.f a0 a1 a2 a3).bind fun t169 => (if t169 = true then ((charge_Allows.f a0 18446744073709551615 a2 a3).bind fun t170 => (holtlaw15_ChargeTurns.j0 k a0 a1 a2 a3 (!t170))) else (holtlaw15_ChargeTurns.j0 k a0 a1 a2 a3 false))) else (some false))) = some r := h
  clear h
  replace H := Option.bind_eq_some_iff.mp H
  obtain ⟨t168, A50, H⟩ := H
  replace H : (if t168 = true then ((charge_Allows.f a0 a1 a2 a3).bind fun t169 => (if t169 = true then ((charge_Allows.f a0 18446744073709551615 a2 a3).bind fun t170 => (holtlaw15_ChargeTurns.j0 k a0 a1 a2 a3 (!t170))) else (holtlaw15_ChargeTurns.j0 k a0 a1 a2 a3 false))) else (some false)) = some r := H
  have A5 := Aside0.mk A50
  clear A50
  by_cases c6 : t168 = true
  · subst c6
    have H1 : ((charge_Allows.f a0 a1 a2 a3).bind fun t169 => (if t169 = true then ((charge_Allows.f a0 18446744073709551615 a2 a3).bind fun t170 => (holtlaw15_ChargeTurns.j0 k a0 a1 a2 a3 (!t170))) else (holtlaw15_ChargeTurns.j0 k a0 a1 a2 a3 false))) = some r := by rw [if_pos rfl] at H; exact H
    clear H
    have H := H1
    clear H1
    replace H := Option.bind_eq_some_iff.mp H
    obtain ⟨t169, A70, H⟩ := H
    replace H : (if t169 = true then ((charge_Allows.f a0 18446744073709551615 a2 a3).bind fun t170 => (holtlaw15_ChargeTurns.j0 k a0 a1 a2 a3 (!t170))) else (holtlaw15_ChargeTurns.j0 k a0 a1 a2 a3 false)) = some r := H
    have A7 := Aside0.mk A70
    clear A70
    have HC8 := Aside0.mk H
    clear H
    go_enter Try.func11, Try.ntmps11
    go_upto_region 4 with (first | ((with_reducible refine gate_callee (f := 54) rfl ?_); refine goesL_ (some 13) rfl rfl Try.func54 (by kernel_rfl) rfl #[] rfl (by (try simp only [List.map_toArray, List.map_cons, List.map_nil]); first | done | rfl | (simp only [List.length_drop, List.length_take]; rfl)) ?_; (with_reducible refine (holtlaw15_awake.calls  true _ A5.out).mono ?_); rintro e w9 ⟨rfl, hb⟩; refine ⟨_, rfl, ?_⟩; have n0_ := Aside0.mk (below_step (by repeat (first | (with_reducible first | exact HB.out | apply below_alloc | apply pw_below_drewN | apply below_drew1) | exact HB.out)) hb); clear HB; have HB := n0_; clear n0_; (try clear hb); (try clear hb2); (try clear hk); (try clear hi)) | ((with_reducible refine gate_callee (f := 52) rfl ?_); refine goesL_ (some 19) rfl rfl Try.func52 (by kernel_rfl) rfl #[.int .u64 a0, .int .u64 a1, .int .u64 a2, .int .u64 a3] rfl (by (try simp only [List.map_toArray, List.map_cons, List.map_nil]); first | done | rfl | (simp only [List.length_drop, List.length_take]; rfl)) ?_; (with_reducible refine (charge_Allows.calls a0 a1 a2 a3 t169 _ A7.out).mono ?_); rintro e w' ⟨rfl, ⟨nd, rfl⟩⟩; refine ⟨_, rfl, ?_⟩))
    (try simp only [Act.put, List.setIfInBounds_toArray, List.set_cons_zero, List.set_cons_succ])
    go_cut [27] (fun v27 wc => ∃ (kq : Nat) (x27_7 : Bool), v27 = .bool x27_7 ∧ Aside0 (holtlaw15_ChargeTurns.j0 kq a0 a1 a2 a3 x27_7 = some r) ∧ Aside0 (kq ≤ k) ∧ Aside0 (Below w.heap.size w wc))
    case first =>
      have H := HC8.out
      clear HC8
      by_cases c10 : t169 = true
      · subst c10
        have H1 : ((charge_Allows.f a0 18446744073709551615 a2 a3).bind fun t170 => (holtlaw15_ChargeTurns.j0 k a0 a1 a2 a3 (!t170))) = some r := by rw [if_pos rfl] at H; exact H
        clear H
        have H := H1
        clear H1
        replace H := Option.bind_eq_some_iff.mp H
        obtain ⟨t170, A110, H⟩ := H
        replace H : (holtlaw15_ChargeTurns.j0 k a0 a1 a2 a3 (!t170)) = some r := H
        have A11 := Aside0.mk A110
        clear A110
        have H' := Aside0.mk H
        clear H
        go_wp2_with (first | (go_at_call 52; (with_reducible refine (charge_Allows.calls a0 18446744073709551615 a2 a3 t170 _ A11.out).mono ?_); rintro e w' ⟨rfl, ⟨nd, rfl⟩⟩))
        go_meet
        case rel => exact ⟨_, (!t170), (by first | rfl | (simp; done) | (simp [*]; done)), H', ⟨by first | omega | exact Nat.le_refl _⟩, ⟨by repeat (first | (with_reducible first | exact HB.out | apply below_alloc | apply pw_below_drewN | apply below_drew1) | exact HB.out)⟩⟩
      · replace c10 := Bool.eq_false_iff.mpr c10
        subst c10
        have H1 : (holtlaw15_ChargeTurns.j0 k a0 a1 a2 a3 false) = some r := by rw [if_neg (show ¬ (false = true) by decide)] at H; exact H
        clear H
        have H := H1
        clear H1
        have H' := Aside0.mk H
        clear H
        go_wp2
        go_meet
        case rel => exact ⟨_, (false), (by first | rfl | (simp; done) | (simp [*]; done)), H', ⟨by first | omega | exact Nat.le_refl _⟩, ⟨by repeat (first | (with_reducible first | exact HB.out | apply below_alloc | apply pw_below_drewN | apply below_drew1) | exact HB.out)⟩⟩
    case rest =>
      clear HC8
      try clear c1
      try clear p2
      try clear c5
      try clear c6
      try clear c10
      try clear c11
      obtain ⟨kq, x27_7, rfl, HA, HJ7, HB⟩ := hcut
      cases kq with
      | zero => exact absurd HA.out (by simp [holtlaw15_ChargeTurns.j0])
      | succ kj7 =>
        have H := HA.out
        clear HA
        simp only [holtlaw15_ChargeTurns.j0] at H
        by_cases c12 : x27_7 = true
        · subst c12
          have H1 : (some false) = some r := by rw [if_pos rfl] at H; exact H
          clear H
          have H := H1
          clear H1
          obtain rfl := Option.some.inj H
          go_wp2
          go_ret
          exact ⟨by first | rfl | (simp [errW_none, errW_some] <;> rfl) | (simp [*, errW_none, errW_some] <;> rfl), by repeat (first | (with_reducible first | exact HB.out | apply below_alloc | apply pw_below_drewN | apply below_drew1) | exact HB.out)⟩
        · replace c12 := Bool.eq_false_iff.mpr c12
          subst c12
          have H1 : (if (IntKind.u64.wrap ((a0 / 4) + (a2 / 4))) ≥ (a3 / 4) then ((charge_Allows.f (a0 / 4) a1 (a2 / 4) (a3 / 4)).bind fun t171 => (if (t171 == (decide ((IntKind.u64.wrap ((IntKind.u64.wrap ((a0 / 4) + (a2 / 4))) - (a3 / 4))) ≤ a1))) = true then ((charge_Allows.f (a0 / 4) (IntKind.u64.wrap ((IntKind.u64.wrap ((a0 / 4) + (a2 / 4))) - (a3 / 4))) (a2 / 4) (a3 / 4)).bind fun t172 => (some t172)) else (some false))) else ((charge_Allows.f (a0 / 4) a1 (a2 / 4) (a3 / 4)).bind fun t173 => (some (!t173)))) = some r := by rw [if_neg (show ¬ (false = true) by decide)] at H; exact H
          clear H
          have H := H1
          clear H1
          by_cases c13 : (IntKind.u64.wrap ((a0 / 4) + (a2 / 4))) ≥ (a3 / 4)
          · rw [if_pos c13] at H
            have c13b0 : decide ((a3 / 4) ≤ (IntKind.u64.wrap ((a0 / 4) + (a2 / 4)))) = true := decide_eq_true c13
            clear c13
            replace H := Option.bind_eq_some_iff.mp H
            obtain ⟨t171, A140, H⟩ := H
            replace H : (if (t171 == (decide ((IntKind.u64.wrap ((IntKind.u64.wrap ((a0 / 4) + (a2 / 4))) - (a3 / 4))) ≤ a1))) = true then ((charge_Allows.f (a0 / 4) (IntKind.u64.wrap ((IntKind.u64.wrap ((a0 / 4) + (a2 / 4))) - (a3 / 4))) (a2 / 4) (a3 / 4)).bind fun t172 => (some t172)) else (some false)) = some r := H
            have A14 := Aside0.mk A140
            clear A140
            by_cases c15 : (t171 == (decide ((IntKind.u64.wrap ((IntKind.u64.wrap ((a0 / 4) + (a2 / 4))) - (a3 / 4))) ≤ a1))) = true
            · rw [if_pos c15] at H
              have c15b0 : (t171 == (decide ((IntKind.u64.wrap ((IntKind.u64.wrap ((a0 / 4) + (a2 / 4))) - (a3 / 4))) ≤ a1))) = true := c15
              (try (have c15b1 : decide (t171 = (decide ((IntKind.u64.wrap ((IntKind.u64.wrap ((a0 / 4) + (a2 / 4))) - (a3 / 4))) ≤ a1))) = true := by simpa using c15))
              (try (have c15b2 : (t171 == (decide ((IntKind.u64.wrap ((IntKind.u64.wrap ((a0 / 4) + (a2 / 4))) - (a3 / 4))) ≤ a1))) = true := by simpa using c15))
              clear c15
              replace H := Option.bind_eq_some_iff.mp H
              obtain ⟨t172, A160, H⟩ := H
              replace H : (some t172) = some r := H
              have A16 := Aside0.mk A160
              clear A160
              obtain rfl := Option.some.inj H
              go_wp2_with (first | ((with_reducible refine gate_callee (f := 52) rfl ?_); refine goesL_ (some 43) rfl rfl Try.func52 (by kernel_rfl) rfl #[.int .u64 (a0 / 4), .int .u64 a1, .int .u64 (a2 / 4), .int .u64 (a3 / 4)] rfl (by (try simp only [List.map_toArray, List.map_cons, List.map_nil]); first | done | rfl | (simp only [List.length_drop, List.length_take]; rfl)) ?_; (with_reducible refine (charge_Allows.calls (a0 / 4) a1 (a2 / 4) (a3 / 4) t171 _ A14.out).mono ?_); rintro e w' ⟨rfl, ⟨nd, rfl⟩⟩; refine ⟨_, rfl, ?_⟩) | (go_at_call 52; (with_reducible refine (charge_Allows.calls (a0 / 4) (IntKind.u64.wrap ((IntKind.u64.wrap ((a0 / 4) + (a2 / 4))) - (a3 / 4))) (a2 / 4) (a3 / 4) t172 _ A16.out).mono ?_); rintro e w' ⟨rfl, ⟨nd, rfl⟩⟩))
              go_ret
              exact ⟨by first | rfl | (simp [errW_none, errW_some] <;> rfl) | (simp [*, errW_none, errW_some] <;> rfl), by repeat (first | (with_reducible first | exact HB.out | apply below_alloc | apply pw_below_drewN | apply below_drew1) | exact HB.out)⟩
            · rw [if_neg c15] at H
              have c15b0 : (t171 == (decide ((IntKind.u64.wrap ((IntKind.u64.wrap ((a0 / 4) + (a2 / 4))) - (a3 / 4))) ≤ a1))) = false := by simpa using c15
              (try (have c15b1 : decide (t171 = (decide ((IntKind.u64.wrap ((IntKind.u64.wrap ((a0 / 4) + (a2 / 4))) - (a3 / 4))) ≤ a1))) = false := by simpa using c15))
              (try (have c15b2 : (t171 == (decide ((IntKind.u64.wrap ((IntKind.u64.wrap ((a0 / 4) + (a2 / 4))) - (a3 / 4))) ≤ a1))) = false := by simpa using c15))
              (try (have c15b3 : ¬ (t171 = (decide ((IntKind.u64.wrap ((IntKind.u64.wrap ((a0 / 4) + (a2 / 4))) - (a3 / 4))) ≤ a1))) := by simpa using c15))
              clear c15
              obtain rfl := Option.some.inj H
              go_wp2_with (first | ((with_reducible refine gate_callee (f := 52) rfl ?_); refine goesL_ (some 43) rfl rfl Try.func52 (by kernel_rfl) rfl #[.int .u64 (a0 / 4), .int .u64 a1, .int .u64 (a2 / 4), .int .u64 (a3 / 4)] rfl (by (try simp only [List.map_toArray, List.map_cons, List.map_nil]); first | done | rfl | (simp only [List.length_drop, List.length_take]; rfl)) ?_; (with_reducible refine (charge_Allows.calls (a0 / 4) a1 (a2 / 4) (a3 / 4) t171 _ A14.out).mono ?_); rintro e w' ⟨rfl, ⟨nd, rfl⟩⟩; refine ⟨_, rfl, ?_⟩))
              go_ret
              exact ⟨by first | rfl | (simp [errW_none, errW_some] <;> rfl) | (simp [*, errW_none, errW_some] <;> rfl), by repeat (first | (with_reducible first | exact HB.out | apply below_alloc | apply pw_below_drewN | apply below_drew1) | exact HB.out)⟩
          · rw [if_neg c13] at H
            have c13b0 : decide ((a3 / 4) ≤ (IntKind.u64.wrap ((a0 / 4) + (a2 / 4)))) = false := decide_eq_false c13
            clear c13
            replace H := Option.bind_eq_some_iff.mp H
            obtain ⟨t173, A170, H⟩ := H
            replace H : (some (!t173)) = some r := H
            have A17 := Aside0.mk A170
            clear A170
            obtain rfl := Option.some.inj H
            go_wp2_with (first | ((with_reducible refine gate_callee (f := 52) rfl ?_); refine goesL_ (some 67) rfl rfl Try.func52 (by kernel_rfl) rfl #[.int .u64 (a0 / 4), .int .u64 a1, .int .u64 (a2 / 4), .int .u64 (a3 / 4)] rfl (by (try simp only [List.map_toArray, List.map_cons, List.map_nil]); first | done | rfl | (simp only [List.length_drop, List.length_take]; rfl)) ?_; (with_reducible refine (charge_Allows.calls (a0 / 4) a1 (a2 / 4) (a3 / 4) t173 _ A17.out).mono ?_); rintro e w' ⟨rfl, ⟨nd, rfl⟩⟩; refine ⟨_, rfl, ?_⟩))
            go_ret
            exact ⟨by first | rfl | (simp [errW_none, errW_some] <;> rfl) | (simp [*, errW_none, errW_some] <;> rfl), by repeat (first | (with_reducible first | exact HB.out | apply below_alloc | apply pw_below_drewN | apply below_drew1) | exact HB.out)⟩
  · replace c6 := Bool.eq_false_iff.mpr c6
    subst c6
    have H1 : (some false) = some r := by rw [if_neg (show ¬ (false = true) by decide)] at H; exact H
    clear H
    have H := H1
    clear H1
    obtain rfl := Option.some.inj H
    go_enter Try.func11, Try.ntmps11
    go_wp2_with (first | ((with_reducible refine gate_callee (f := 54) rfl ?_); refine goesL_ (some 13) rfl rfl Try.func54 (by kernel_rfl) rfl #[] rfl (by (try simp only [List.map_toArray, List.map_cons, List.map_nil]); first | done | rfl | (simp only [List.length_drop, List.length_take]; rfl)) ?_; (with_reducible refine (holtlaw15_awake.calls  false _ A5.out).mono ?_); rintro e w18 ⟨rfl, hb⟩; refine ⟨_, rfl, ?_⟩; have n0_ := Aside0.mk (below_step (by repeat (first | (with_reducible first | exact HB.out | apply below_alloc | apply pw_below_drewN | apply below_drew1) | exact HB.out)) hb); clear HB; have HB := n0_; clear n0_; (try clear hb); (try clear hb2); (try clear hk); (try clear hi)))
    go_ret
    exact ⟨by first | rfl | (simp [errW_none, errW_some] <;> rfl) | (simp [*, errW_none, errW_some] <;> rfl), by repeat (first | (with_reducible first | exact HB.out | apply below_alloc | apply pw_below_drewN | apply below_drew1) | exact HB.out)⟩

/-- THE ONE PURE STATEMENT of holtlaw15_ChargeTurns: yours. -/
def holtlaw15_ChargeTurns.Pure : Prop := ∀ (a0 : Int) (a1 : Int) (a2 : Int) (a3 : Int), (Lit.int .u64 a0).wf = true → (Lit.int .u64 a1).wf = true → (Lit.int .u64 a2).wf = true → (Lit.int .u64 a3).wf = true → ∃ k, holtlaw15_ChargeTurns.f k a0 a1 a2 a3 = some true
theorem holtlaw15_ChargeTurns.walk (P : holtlaw15_ChargeTurns.Pure) (a0 : Int) (a1 : Int) (a2 : Int) (a3 : Int) (w : World) (w0 : (Lit.int .u64 a0).wf = true) (w1 : (Lit.int .u64 a1).wf = true) (w2 : (Lit.int .u64 a2).wf = true) (w3 : (Lit.int .u64 a3).wf = true) :
    Calls Try.prog 11 #[.int .u64 a0, .int .u64 a1, .int .u64 a2, .int .u64 a3] w fun e w' => e = .returned (.bool true) ∧ Below w.heap.size w w' := by
  obtain ⟨k, h⟩ := P a0 a1 a2 a3 w0 w1 w2 w3
  refine (holtlaw15_ChargeTurns.calls k a0 a1 a2 a3 true w h).mono ?_
  rintro e w' ⟨rfl, hd⟩
  exact ⟨rfl, hd⟩

end Go.Proofs.Ytkcnmlggaggjlaa.Ch

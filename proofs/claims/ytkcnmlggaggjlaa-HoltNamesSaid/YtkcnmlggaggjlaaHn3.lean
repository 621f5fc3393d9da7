/- Printed by hp.py, a program of this session, out of the translation: each Go function as a plain Lean function and the contract of its call. No conditions beyond those in the statements. -/
import Derived.Test.YtkcnmlggaggjlaaHn0
import Derived.Test.YtkcnmlggaggjlaaHn1
import Derived.Test.YtkcnmlggaggjlaaHn2
namespace Go.Proofs.Ytkcnmlggaggjlaa.Hn
open Go.RowKit Go.Proofs.YtkcnmlggaggjlaaW.PrintWords Go.Proofs.YtkcnmlggaggjlaaW.PrintLast Go.Proofs.YtkcnmlggaggjlaaW.PrintMore
attribute [local go_sem] max2_int min2_int max_two min_two max_three min_three max_four min_four   -- for this text's walks alone
set_option linter.unusedVariables false
set_option linter.unusedSimpArgs false

/-! ### holtlaw0_HoltNames: function 3 -/
def holtlaw0_HoltNames.f  : Option (Bool) := (holtlaw0_errors1.f).bind fun t174 => (if t174 = true then ((holtlaw0_errors2.f).bind fun t175 => (if t175 = true then ((holtlaw0_errors3.f).bind fun t176 => (if t176 = true then ((holtlaw0_errors4.f).bind fun t177 => (if t177 = true then ((holtlaw0_errors5.f).bind fun t178 => (if t178 = true then ((holtlaw0_errors6.f).bind fun t179 => (if t179 = true then ((holtlaw0_numbers1.f).bind fun t180 => (if t180 = true then ((holtlaw0_numbers2.f).bind fun t181 => (if t181 = true then ((holtlaw0_numbers3.f).bind fun t182 => (if t182 = true then ((holtlaw0_numbers4.f).bind fun t183 => (if t183 = true then ((holtlaw0_numbers5.f).bind fun t184 => (if t184 = true then ((holtlaw0_numbers6.f).bind fun t185 => (some t185)) else (some false))) else (some false))) else (some false))) else (some false))) else (some false))) else (some false))) else (some false))) else (some false))) else (some false))) else (some false))) else (some false))
set_option maxHeartbeats 8000000 in
set_option maxRecDepth 100000 in
theorem holtlaw0_HoltNames.calls  (r : Bool) (w : World) (h : holtlaw0_HoltNames.f  = some r) :
    Calls Try.prog 3 #[] w fun e w' => e = .returned (.bool r) ∧ Drawn0 w w' := by
  have H : ((holtlaw0_errors1.f).bind fun t174 => (if t174 = true then ((holtlaw0_errors2.f).bind fun t175 => (if t175 = true then ((holtlaw0_errors3.f).bind fun t176 => (if t176 = true then ((holtlaw0_errors4.f).bind fun t177 => (if t177 = true then ((holtlaw0_errors5.f).bind fun t178 => (if t178 = true then ((holtlaw0_errors6.f).bind fun t179 => (if t179 = true then ((holtlaw0_numbers1.f).bind fun t180 => (if t180 = true then ((holtlaw0_numbers2.f).bind fun t181 => (if t181 = true then ((holtlaw0_numbers3.f).bind fun t182 => (if t182 = true then ((holtlaw0_numbers4.f).bind fun t183 => (if t183 = true then ((holtlaw0_numbers5.f).bind fun t184 => (if t184 = true then ((holtlaw0_numbers6.f).bind fun t185 => (some t185)) else (some false))) else (some false))) else (some false))) else (some false))) else (some false))) else (some false))) else (some false))) else (some false))) else (some false))) else (some false))) else (some false))) = some r := h
  clear h
  replace H := Option.bind_eq_some_iff.mp H
  obtain ⟨t174, A10, H⟩ := H
  replace H : (if t174 = true then ((holtlaw0_errors2.f).bind fun t175 => (if t175 = true then ((holtlaw0_errors3.f).bind fun t176 => (if t176 = true then ((holtlaw0_errors4.f).bind fun t177 => (if t177 = true then ((holtlaw0_errors5.f).bind fun t178 => (if t178 = true then ((holtlaw0_errors6.f).bind fun t179 => (if t179 = true then ((holtlaw0_numbers1.f).bind fun t180 => (if t180 = true then ((holtlaw0_numbers2.f).bind fun t181 => (if t181 = true then ((holtlaw0_numbers3.f).bind fun t182 => (if t182 = true then ((holtlaw0_numbers4.f).bind fun t183 => (if t183 = true then ((holtlaw0_numbers5.f).bind fun t184 => (if t184 = true then ((holtlaw0_numbers6.f).bind fun t185 => (some t185)) else (some false))) else (some false))) else (some false))) else (some false))) else (some false))) else (some false))) else (some false))) else (some false))) else (some false))) else (some false))) else (some false)) = some r := H
  have A1 := Aside0.mk A10
  clear A10
  by_cases c2 : t174 = true
  · subst c2
    have H1 : ((holtlaw0_errors2.f).bind fun t175 => (if t175 = true then ((holtlaw0_errors3.f).bind fun t176 => (if t176 = true then ((holtlaw0_errors4.f).bind fun t177 => (if t177 = true then ((holtlaw0_errors5.f).bind fun t178 => (if t178 = true then ((holtlaw0_errors6.f).bind fun t179 => (if t179 = true then ((holtlaw0_numbers1.f).bind fun t180 => (if t180 = true then ((holtlaw0_numbers2.f).bind fun t181 => (if t181 = true then ((holtlaw0_numbers3.f).bind fun t182 => (if t182 = true then ((holtlaw0_numbers4.f).bind fun t183 => (if t183 = true then ((holtlaw0_numbers5.f).bind fun t184 => (if t184 = true then ((holtlaw0_numbers6.f).bind fun t185 => (some t185)) else (some false))) else (some false))) else (some false))) else (some false))) else (some false))) else (some false))) else (some false))) else (some false))) else (some false))) else (some false))) = some r := by rw [if_pos rfl] at H; exact H
    clear H
    have H := H1
    clear H1
    replace H := Option.bind_eq_some_iff.mp H
    obtain ⟨t175, A30, H⟩ := H
    replace H : (if t175 = true then ((holtlaw0_errors3.f).bind fun t176 => (if t176 = true then ((holtlaw0_errors4.f).bind fun t177 => (if t177 = true then ((holtlaw0_errors5.f).bind fun t178 => (if t178 = true then ((holtlaw0_errors6.f).bind fun t179 => (if t179 = true then ((holtlaw0_numbers1.f).bind fun t180 => (if t180 = true then ((holtlaw0_numbers2.f).bind fun t181 => (if t181 = true then ((holtlaw0_numbers3.f).bind fun t182 => (if t182 = true then ((holtlaw0_numbers4.f).bind fun t183 => (if t183 = true then ((holtlaw0_numbers5.f).bind fun t184 => (if t184 = true then ((holtlaw0_numbers6.f).bind fun t185 => (some t185)) else (some false))) else (some false))) else (some false))) else (some false))) else (some false))) else (some false))) else (some false))) else (some false))) else (some false))) else (some false)) = some r := H
    have A3 := Aside0.mk A30
    clear A30
    by_cases c4 : t175 = true
    · subst c4
      have H1 : ((holtlaw0_errors3.f).bind fun t176 => (if t176 = true then ((holtlaw0_errors4.f).bind fun t177 => (if t177 = true then ((holtlaw0_errors5.f).bind fun t178 => (if t178 = true then ((holtlaw0_errors6.f).bind fun t179 => (if t179 = true then ((holtlaw0_numbers1.f).bind fun t180 => (if t180 = true then ((holtlaw0_numbers2.f).bind fun t181 => (if t181 = true then ((holtlaw0_numbers3.f).bind fun t182 => (if t182 = true then ((holtlaw0_numbers4.f).bind fun t183 => (if t183 = true then ((holtlaw0_numbers5.f).bind fun t184 => (if t184 = true then ((holtlaw0_numbers6.f).bind fun t185 => (some t185)) else (some false))) else (some false))) else (some false))) else (some false))) else (some false))) else (some false))) else (some false))) else (some false))) else (some false))) = some r := by rw [if_pos rfl] at H; exact H
      clear H
      have H := H1
      clear H1
      replace H := Option.bind_eq_some_iff.mp H
      obtain ⟨t176, A50, H⟩ := H
      replace H : (if t176 = true then ((holtlaw0_errors4.f).bind fun t177 => (if t177 = true then ((holtlaw0_errors5.f).bind fun t178 => (if t178 = true then ((holtlaw0_errors6.f).bind fun t179 => (if t179 = true then ((holtlaw0_numbers1.f).bind fun t180 => (if t180 = true then ((holtlaw0_numbers2.f).bind fun t181 => (if t181 = true then ((holtlaw0_numbers3.f).bind fun t182 => (if t182 = true then ((holtlaw0_numbers4.f).bind fun t183 => (if t183 = true then ((holtlaw0_numbers5.f).bind fun t184 => (if t184 = true then ((holtlaw0_numbers6.f).bind fun t185 => (some t185)) else (some false))) else (some false))) else (some false))) else (some false))) else (some false))) else (some false))) else (some false))) else (some false))) else (some false)) = some r := H
      have A5 := Aside0.mk A50
      clear A50
      by_cases c6 : t176 = true
      · subst c6
        have H1 : ((holtlaw0_errors4.f).bind fun t177 => (if t177 = true then ((holtlaw0_errors5.f).bind fun t178 => (if t178 = true then ((holtlaw0_errors6.f).bind fun t179 => (if t179 = true then ((holtlaw0_numbers1.f).bind fun t180 => (if t180 = true then ((holtlaw0_numbers2.f).bind fun t181 => (if t181 = true then ((holtlaw0_numbers3.f).bind fun t182 => (if t182 = true then ((holtlaw0_numbers4.f).bind fun t183 => (if t183 = true then ((holtlaw0_numbers5.f).bind fun t184 => (if t184 = true then ((holtlaw0_numbers6.f).bind fun t185 => (some t185)) else (some false))) else (some false))) else (some false))) else (some false))) else (some false))) else (some false))) else (some false))) else (some false))) = some r := by rw [if_pos rfl] at H; exact H
        clear H
        have H := H1
        clear H1
        replace H := Option.bind_eq_some_iff.mp H
        obtain ⟨t177, A70, H⟩ := H
        replace H : (if t177 = true then ((holtlaw0_errors5.f).bind fun t178 => (if t178 = true then ((holtlaw0_errors6.f).bind fun t179 => (if t179 = true then ((holtlaw0_numbers1.f).bind fun t180 => (if t180 = true then ((holtlaw0_numbers2.f).bind fun t181 => (if t181 = true then ((holtlaw0_numbers3.f).bind fun t182 => (if t182 = true then ((holtlaw0_numbers4.f).bind fun t183 => (if t183 = true then ((holtlaw0_numbers5.f).bind fun t184 => (if t184 = true then ((holtlaw0_numbers6.f).bind fun t185 => (some t185)) else (some false))) else (some false))) else (some false))) else (some false))) else (some false))) else (some false))) else (some false))) else (some false)) = some r := H
        have A7 := Aside0.mk A70
        clear A70
        by_cases c8 : t177 = true
        · subst c8
          have H1 : ((holtlaw0_errors5.f).bind fun t178 => (if t178 = true then ((holtlaw0_errors6.f).bind fun t179 => (if t179 = true then ((holtlaw0_numbers1.f).bind fun t180 => (if t180 = true then ((holtlaw0_numbers2.f).bind fun t181 => (if t181 = true then ((holtlaw0_numbers3.f).bind fun t182 => (if t182 = true then ((holtlaw0_numbers4.f).bind fun t183 => (if t183 = true then ((holtlaw0_numbers5.f).bind fun t184 => (if t184 = true then ((holtlaw0_numbers6.f).bind fun t185 => (some t185)) else (some false))) else (some false))) else (some false))) else (some false))) else (some false))) else (some false))) else (some false))) = some r := by rw [if_pos rfl] at H; exact H
          clear H
          have H := H1
          clear H1
          replace H := Option.bind_eq_some_iff.mp H
          obtain ⟨t178, A90, H⟩ := H
          replace H : (if t178 = true then ((holtlaw0_errors6.f).bind fun t179 => (if t179 = true then ((holtlaw0_numbers1.f).bind fun t180 => (if t180 = true then ((holtlaw0_numbers2.f).bind fun t181 => (if t181 = true then ((holtlaw0_numbers3.f).bind fun t182 => (if t182 = true then ((holtlaw0_numbers4.f).bind fun t183 => (if t183 = true then ((holtlaw0_numbers5.f).bind fun t184 => (if t184 = true then ((holtlaw0_numbers6.f).bind fun t185 => (some t185)) else (some false))) else (some false))) else (some false))) else (some false))) else (some false))) else (some false))) else (some false)) = some r := H
          have A9 := Aside0.mk A90
          clear A90
          by_cases c10 : t178 = true
          · subst c10
            have H1 : ((holtlaw0_errors6.f).bind fun t179 => (if t179 = true then ((holtlaw0_numbers1.f).bind fun t180 => (if t180 = true then ((holtlaw0_numbers2.f).bind fun t181 => (if t181 = true then ((holtlaw0_numbers3.f).bind fun t182 => (if t182 = true then ((holtlaw0_numbers4.f).bind fun t183 => (if t183 = true then ((holtlaw0_numbers5.f).bind fun t184 => (if t184 = true then ((holtlaw0_numbers6.f).bind fun t185 => (some t185)) else (some false))) else (some false))) else (some false))) else (some false))) else (some false))) else (some false))) = some r := by rw [if_pos rfl] at H; exact H
            clear H
            have H := H1
            clear H1
            replace H := Option.bind_eq_some_iff.mp H
            obtain ⟨t179, A110, H⟩ := H
            replace H : (if t179 = true then ((holtlaw0_numbers1.f).bind fun t180 => (if t180 = true then ((holtlaw0_numbers2.f).bind fun t181 => (if t181 = true then ((holtlaw0_numbers3.f).bind fun t182 => (if t182 = true then ((holtlaw0_numbers4.f).bind fun t183 => (if t183 = true then ((holtlaw0_numbers5.f).bind fun t184 => (if t184 = true then ((holtlaw0_numbers6.f).bind fun t185 => (some t185)) else (some false))) else (some false))) else (some false))) else (some false))) else (some false))) else (some false)) = some r := H
            have A11 := Aside0.mk A110
            clear A110
            by_cases c12 : t179 = true
            · subst c12
              have H1 : ((holtlaw0_numbers1.f).bind fun t180 => (if t180 = true then ((holtlaw0_numbers2.f).bind fun t181 => (if t181 = true then ((holtlaw0_numbers3.f).bind fun t182 => (if t182 = true then ((holtlaw0_numbers4.f).bind fun t183 => (if t183 = true then ((holtlaw0_numbers5.f).bind fun t184 => (if t184 = true then ((holtlaw0_numbers6.f).bind fun t185 => (some t185)) else (some false))) else (some false))) else (some false))) else (some false))) else (some false))) = some r := by rw [if_pos rfl] at H; exact H
              clear H
              have H := H1
              clear H1
              replace H := Option.bind_eq_some_iff.mp H
              obtain ⟨t180, A130, H⟩ := H
              replace H : (if t180 = true then ((holtlaw0_numbers2.f).bind fun t181 => (if t181 = true then ((holtlaw0_numbers3.f).bind fun t182 => (if t182 = true then ((holtlaw0_numbers4.f).bind fun t183 => (if t183 = true then ((holtlaw0_numbers5.f).bind fun t184 => (if t184 = true then ((holtlaw0_numbers6.f).bind fun t185 => (some t185)) else (some false))) else (some false))) else (some false))) else (some false))) else (some false)) = some r := H
              have A13 := Aside0.mk A130
              clear A130
              by_cases c14 : t180 = true
              · subst c14
                have H1 : ((holtlaw0_numbers2.f).bind fun t181 => (if t181 = true then ((holtlaw0_numbers3.f).bind fun t182 => (if t182 = true then ((holtlaw0_numbers4.f).bind fun t183 => (if t183 = true then ((holtlaw0_numbers5.f).bind fun t184 => (if t184 = true then ((holtlaw0_numbers6.f).bind fun t185 => (some t185)) else (some false))) else (some false))) else (some false))) else (some false))) = some r := by rw [if_pos rfl] at H; exact H
                clear H
                have H := H1
                clear H1
                replace H := Option.bind_eq_some_iff.mp H
                obtain ⟨t181, A150, H⟩ := H
                replace H : (if t181 = true then ((holtlaw0_numbers3.f).bind fun t182 => (if t182 = true then ((holtlaw0_numbers4.f).bind fun t183 => (if t183 = true then ((holtlaw0_numbers5.f).bind fun t184 => (if t184 = true then ((holtlaw0_numbers6.f).bind fun t185 => (some t185)) else (some false))) else (some false))) else (some false))) else (some false)) = some r := H
                have A15 := Aside0.mk A150
                clear A150
                by_cases c16 : t181 = true
                · subst c16
                  have H1 : ((holtlaw0_numbers3.f).bind fun t182 => (if t182 = true then ((holtlaw0_numbers4.f).bind fun t183 => (if t183 = true then ((holtlaw0_numbers5.f).bind fun t184 => (if t184 = true then ((holtlaw0_numbers6.f).bind fun t185 => (some t185)) else (some false))) else (some false))) else (some false))) = some r := by rw [if_pos rfl] at H; exact H
                  clear H
                  have H := H1
                  clear H1
                  replace H := Option.bind_eq_some_iff.mp H
                  obtain ⟨t182, A170, H⟩ := H
                  replace H : (if t182 = true then ((holtlaw0_numbers4.f).bind fun t183 => (if t183 = true then ((holtlaw0_numbers5.f).bind fun t184 => (if t184 = true then ((holtlaw0_numbers6.f).bind fun t185 => (some t185)) else (some false))) else (some false))) else (some false)) = some r := H
                  have A17 := Aside0.mk A170
                  clear A170
                  by_cases c18 : t182 = true
                  · subst c18
                    have H1 : ((holtlaw0_numbers4.f).bind fun t183 => (if t183 = true then ((holtlaw0_numbers5.f).bind fun t184 => (if t184 = true then ((holtlaw0_numbers6.f).bind fun t185 => (some t185)) else (some false))) else (some false))) = some r := by rw [if_pos rfl] at H; exact H
                    clear H
                    have H := H1
                    clear H1
                    replace H := Option.bind_eq_some_iff.mp H
                    obtain ⟨t183, A190, H⟩ := H
                    replace H : (if t183 = true then ((holtlaw0_numbers5.f).bind fun t184 => (if t184 = true then ((holtlaw0_numbers6.f).bind fun t185 => (some t185)) else (some false))) else (some false)) = some r := H
                    have A19 := Aside0.mk A190
                    clear A190
                    by_cases c20 : t183 = true
                    · subst c20
                      have H1 : ((holtlaw0_numbers5.f).bind fun t184 => (if t184 = true then ((holtlaw0_numbers6.f).bind fun t185 => (some t185)) else (some false))) = some r := by rw [if_pos rfl] at H; exact H
                      clear H
                      have H := H1
                      clear H1
                      replace H := Option.bind_eq_some_iff.mp H
                      obtain ⟨t184, A210, H⟩ := H
                      replace H : (if t184 = true then ((holtlaw0_numbers6.f).bind fun t185 => (some t185)) else (some false)) = some r := H
                      have A21 := Aside0.mk A210
                      clear A210
                      by_cases c22 : t184 = true
                      · subst c22
                        have H1 : ((holtlaw0_numbers6.f).bind fun t185 => (some t185)) = some r := by rw [if_pos rfl] at H; exact H
                        clear H
                        have H := H1
                        clear H1
                        replace H := Option.bind_eq_some_iff.mp H
                        obtain ⟨t185, A230, H⟩ := H
                        replace H : (some t185) = some r := H
                        have A23 := Aside0.mk A230
                        clear A230
                        obtain rfl := Option.some.inj H
                        go_enter Try.func3, Try.ntmps3
                        go_wp2_with (first | ((with_reducible refine gate_callee (f := 15) rfl ?_); refine goesL_ (some 1) rfl rfl Try.func15 (by kernel_rfl) rfl #[] rfl (by (try simp only [List.map_toArray, List.map_cons, List.map_nil]); first | done | rfl | (simp only [List.length_drop, List.length_take]; rfl)) ?_; (with_reducible refine (holtlaw0_errors1.calls  true _ A1.out).mono ?_); rintro e w' ⟨rfl, ⟨nd, rfl⟩⟩; refine ⟨_, rfl, ?_⟩) | (go_at_call 16; (with_reducible refine (holtlaw0_errors2.calls  true _ A3.out).mono ?_); rintro e w' ⟨rfl, ⟨nd, rfl⟩⟩) | (go_at_call 17; (with_reducible refine (holtlaw0_errors3.calls  true _ A5.out).mono ?_); rintro e w' ⟨rfl, ⟨nd, rfl⟩⟩) | (go_at_call 18; (with_reducible refine (holtlaw0_errors4.calls  true _ A7.out).mono ?_); rintro e w' ⟨rfl, ⟨nd, rfl⟩⟩) | (go_at_call 19; (with_reducible refine (holtlaw0_errors5.calls  true _ A9.out).mono ?_); rintro e w' ⟨rfl, ⟨nd, rfl⟩⟩) | (go_at_call 20; (with_reducible refine (holtlaw0_errors6.calls  true _ A11.out).mono ?_); rintro e w' ⟨rfl, ⟨nd, rfl⟩⟩) | (go_at_call 21; (with_reducible refine (holtlaw0_numbers1.calls  true _ A13.out).mono ?_); rintro e w' ⟨rfl, ⟨nd, rfl⟩⟩) | (go_at_call 22; (with_reducible refine (holtlaw0_numbers2.calls  true _ A15.out).mono ?_); rintro e w' ⟨rfl, ⟨nd, rfl⟩⟩) | (go_at_call 23; (with_reducible refine (holtlaw0_numbers3.calls  true _ A17.out).mono ?_); rintro e w' ⟨rfl, ⟨nd, rfl⟩⟩) | (go_at_call 24; (with_reducible refine (holtlaw0_numbers4.calls  true _ A19.out).mono ?_); rintro e w' ⟨rfl, ⟨nd, rfl⟩⟩) | (go_at_call 25; (with_reducible refine (holtlaw0_numbers5.calls  true _ A21.out).mono ?_); rintro e w' ⟨rfl, ⟨nd, rfl⟩⟩) | (go_at_call 26; (with_reducible refine (holtlaw0_numbers6.calls  t185 _ A23.out).mono ?_); rintro e w' ⟨rfl, ⟨nd, rfl⟩⟩))
                        go_ret
                        exact ⟨by first | rfl | (simp; done) | (simp [*]; done), by repeat (first | exact Drawn0.refl _ | apply Drawn0.step)⟩
                      · replace c22 := Bool.eq_false_iff.mpr c22
                        subst c22
                        have H1 : (some false) = some r := by rw [if_neg (show ¬ (false = true) by decide)] at H; exact H
                        clear H
                        have H := H1
                        clear H1
                        obtain rfl := Option.some.inj H
                        go_enter Try.func3, Try.ntmps3
                        go_wp2_with (first | ((with_reducible refine gate_callee (f := 15) rfl ?_); refine goesL_ (some 1) rfl rfl Try.func15 (by kernel_rfl) rfl #[] rfl (by (try simp only [List.map_toArray, List.map_cons, List.map_nil]); first | done | rfl | (simp only [List.length_drop, List.length_take]; rfl)) ?_; (with_reducible refine (holtlaw0_errors1.calls  true _ A1.out).mono ?_); rintro e w' ⟨rfl, ⟨nd, rfl⟩⟩; refine ⟨_, rfl, ?_⟩) | (go_at_call 16; (with_reducible refine (holtlaw0_errors2.calls  true _ A3.out).mono ?_); rintro e w' ⟨rfl, ⟨nd, rfl⟩⟩) | (go_at_call 17; (with_reducible refine (holtlaw0_errors3.calls  true _ A5.out).mono ?_); rintro e w' ⟨rfl, ⟨nd, rfl⟩⟩) | (go_at_call 18; (with_reducible refine (holtlaw0_errors4.calls  true _ A7.out).mono ?_); rintro e w' ⟨rfl, ⟨nd, rfl⟩⟩) | (go_at_call 19; (with_reducible refine (holtlaw0_errors5.calls  true _ A9.out).mono ?_); rintro e w' ⟨rfl, ⟨nd, rfl⟩⟩) | (go_at_call 20; (with_reducible refine (holtlaw0_errors6.calls  true _ A11.out).mono ?_); rintro e w' ⟨rfl, ⟨nd, rfl⟩⟩) | (go_at_call 21; (with_reducible refine (holtlaw0_numbers1.calls  true _ A13.out).mono ?_); rintro e w' ⟨rfl, ⟨nd, rfl⟩⟩) | (go_at_call 22; (with_reducible refine (holtlaw0_numbers2.calls  true _ A15.out).mono ?_); rintro e w' ⟨rfl, ⟨nd, rfl⟩⟩) | (go_at_call 23; (with_reducible refine (holtlaw0_numbers3.calls  true _ A17.out).mono ?_); rintro e w' ⟨rfl, ⟨nd, rfl⟩⟩) | (go_at_call 24; (with_reducible refine (holtlaw0_numbers4.calls  true _ A19.out).mono ?_); rintro e w' ⟨rfl, ⟨nd, rfl⟩⟩) | (go_at_call 25; (with_reducible refine (holtlaw0_numbers5.calls  false _ A21.out).mono ?_); rintro e w' ⟨rfl, ⟨nd, rfl⟩⟩))
                        go_ret
                        exact ⟨by first | rfl | (simp; done) | (simp [*]; done), by repeat (first | exact Drawn0.refl _ | apply Drawn0.step)⟩
                    · replace c20 := Bool.eq_false_iff.mpr c20
                      subst c20
                      have H1 : (some false) = some r := by rw [if_neg (show ¬ (false = true) by decide)] at H; exact H
                      clear H
                      have H := H1
                      clear H1
                      obtain rfl := Option.some.inj H
                      go_enter Try.func3, Try.ntmps3
                      go_wp2_with (first | ((with_reducible refine gate_callee (f := 15) rfl ?_); refine goesL_ (some 1) rfl rfl Try.func15 (by kernel_rfl) rfl #[] rfl (by (try simp only [List.map_toArray, List.map_cons, List.map_nil]); first | done | rfl | (simp only [List.length_drop, List.length_take]; rfl)) ?_; (with_reducible refine (holtlaw0_errors1.calls  true _ A1.out).mono ?_); rintro e w' ⟨rfl, ⟨nd, rfl⟩⟩; refine ⟨_, rfl, ?_⟩) | (go_at_call 16; (with_reducible refine (holtlaw0_errors2.calls  true _ A3.out).mono ?_); rintro e w' ⟨rfl, ⟨nd, rfl⟩⟩) | (go_at_call 17; (with_reducible refine (holtlaw0_errors3.calls  true _ A5.out).mono ?_); rintro e w' ⟨rfl, ⟨nd, rfl⟩⟩) | (go_at_call 18; (with_reducible refine (holtlaw0_errors4.calls  true _ A7.out).mono ?_); rintro e w' ⟨rfl, ⟨nd, rfl⟩⟩) | (go_at_call 19; (with_reducible refine (holtlaw0_errors5.calls  true _ A9.out).mono ?_); rintro e w' ⟨rfl, ⟨nd, rfl⟩⟩) | (go_at_call 20; (with_reducible refine (holtlaw0_errors6.calls  true _ A11.out).mono ?_); rintro e w' ⟨rfl, ⟨nd, rfl⟩⟩) | (go_at_call 21; (with_reducible refine (holtlaw0_numbers1.calls  true _ A13.out).mono ?_); rintro e w' ⟨rfl, ⟨nd, rfl⟩⟩) | (go_at_call 22; (with_reducible refine (holtlaw0_numbers2.calls  true _ A15.out).mono ?_); rintro e w' ⟨rfl, ⟨nd, rfl⟩⟩) | (go_at_call 23; (with_reducible refine (holtlaw0_numbers3.calls  true _ A17.out).mono ?_); rintro e w' ⟨rfl, ⟨nd, rfl⟩⟩) | (go_at_call 24; (with_reducible refine (holtlaw0_numbers4.calls  false _ A19.out).mono ?_); rintro e w' ⟨rfl, ⟨nd, rfl⟩⟩))
                      go_ret
                      exact ⟨by first | rfl | (simp; done) | (simp [*]; done), by repeat (first | exact Drawn0.refl _ | apply Drawn0.step)⟩
                  · replace c18 := Bool.eq_false_iff.mpr c18
                    subst c18
                    have H1 : (some false) = some r := by rw [if_neg (show ¬ (false = true) by decide)] at H; exact H
                    clear H
                    have H := H1
                    clear H1
                    obtain rfl := Option.some.inj H
                    go_enter Try.func3, Try.ntmps3
                    go_wp2_with (first | ((with_reducible refine gate_callee (f := 15) rfl ?_); refine goesL_ (some 1) rfl rfl Try.func15 (by kernel_rfl) rfl #[] rfl (by (try simp only [List.map_toArray, List.map_cons, List.map_nil]); first | done | rfl | (simp only [List.length_drop, List.length_take]; rfl)) ?_; (with_reducible refine (holtlaw0_errors1.calls  true _ A1.out).mono ?_); rintro e w' ⟨rfl, ⟨nd, rfl⟩⟩; refine ⟨_, rfl, ?_⟩) | (go_at_call 16; (with_reducible refine (holtlaw0_errors2.calls  true _ A3.out).mono ?_); rintro e w' ⟨rfl, ⟨nd, rfl⟩⟩) | (go_at_call 17; (with_reducible refine (holtlaw0_errors3.calls  true _ A5.out).mono ?_); rintro e w' ⟨rfl, ⟨nd, rfl⟩⟩) | (go_at_call 18; (with_reducible refine (holtlaw0_errors4.calls  true _ A7.out).mono ?_); rintro e w' ⟨rfl, ⟨nd, rfl⟩⟩) | (go_at_call 19; (with_reducible refine (holtlaw0_errors5.calls  true _ A9.out).mono ?_); rintro e w' ⟨rfl, ⟨nd, rfl⟩⟩) | (go_at_call 20; (with_reducible refine (holtlaw0_errors6.calls  true _ A11.out).mono ?_); rintro e w' ⟨rfl, ⟨nd, rfl⟩⟩) | (go_at_call 21; (with_reducible refine (holtlaw0_numbers1.calls  true _ A13.out).mono ?_); rintro e w' ⟨rfl, ⟨nd, rfl⟩⟩) | (go_at_call 22; (with_reducible refine (holtlaw0_numbers2.calls  true _ A15.out).mono ?_); rintro e w' ⟨rfl, ⟨nd, rfl⟩⟩) | (go_at_call 23; (with_reducible refine (holtlaw0_numbers3.calls  false _ A17.out).mono ?_); rintro e w' ⟨rfl, ⟨nd, rfl⟩⟩))
                    go_ret
                    exact ⟨by first | rfl | (simp; done) | (simp [*]; done), by repeat (first | exact Drawn0.refl _ | apply Drawn0.step)⟩
                · replace c16 := Bool.eq_false_iff.mpr c16
                  subst c16
                  have H1 : (some false) = some r := by rw [if_neg (show ¬ (false = true) by decide)] at H; exact H
                  clear H
                  have H := H1
                  clear H1
                  obtain rfl := Option.some.inj H
                  go_enter Try.func3, Try.ntmps3
                  go_wp2_with (first | ((with_reducible refine gate_callee (f := 15) rfl ?_); refine goesL_ (some 1) rfl rfl Try.func15 (by kernel_rfl) rfl #[] rfl (by (try simp only [List.map_toArray, List.map_cons, List.map_nil]); first | done | rfl | (simp only [List.length_drop, List.length_take]; rfl)) ?_; (with_reducible refine (holtlaw0_errors1.calls  true _ A1.out).mono ?_); rintro e w' ⟨rfl, ⟨nd, rfl⟩⟩; refine ⟨_, rfl, ?_⟩) | (go_at_call 16; (with_reducible refine (holtlaw0_errors2.calls  true _ A3.out).mono ?_); rintro e w' ⟨rfl, ⟨nd, rfl⟩⟩) | (go_at_call 17; (with_reducible refine (holtlaw0_errors3.calls  true _ A5.out).mono ?_); rintro e w' ⟨rfl, ⟨nd, rfl⟩⟩) | (go_at_call 18; (with_reducible refine (holtlaw0_errors4.calls  true _ A7.out).mono ?_); rintro e w' ⟨rfl, ⟨nd, rfl⟩⟩) | (go_at_call 19; (with_reducible refine (holtlaw0_errors5.calls  true _ A9.out).mono ?_); rintro e w' ⟨rfl, ⟨nd, rfl⟩⟩) | (go_at_call 20; (with_reducible refine (holtlaw0_errors6.calls  true _ A11.out).mono ?_); rintro e w' ⟨rfl, ⟨nd, rfl⟩⟩) | (go_at_call 21; (with_reducible refine (holtlaw0_numbers1.calls  true _ A13.out).mono ?_); rintro e w' ⟨rfl, ⟨nd, rfl⟩⟩) | (go_at_call 22; (with_reducible refine (holtlaw0_numbers2.calls  false _ A15.out).mono ?_); rintro e w' ⟨rfl, ⟨nd, rfl⟩⟩))
                  go_ret
                  exact ⟨by first | rfl | (simp; done) | (simp [*]; done), by repeat (first | exact Drawn0.refl _ | apply Drawn0.step)⟩
              · replace c14 := Bool.eq_false_iff.mpr c14
                subst c14
                have H1 : (some false) = some r := by rw [if_neg (show ¬ (false = true) by decide)] at H; exact H
                clear H
                have H := H1
                clear H1
                obtain rfl := Option.some.inj H
                go_enter Try.func3, Try.ntmps3
                go_wp2_with (first | ((with_reducible refine gate_callee (f := 15) rfl ?_); refine goesL_ (some 1) rfl rfl Try.func15 (by kernel_rfl) rfl #[] rfl (by (try simp only [List.map_toArray, List.map_cons, List.map_nil]); first | done | rfl | (simp only [List.length_drop, List.length_take]; rfl)) ?_; (with_reducible refine (holtlaw0_errors1.calls  true _ A1.out).mono ?_); rintro e w' ⟨rfl, ⟨nd, rfl⟩⟩; refine ⟨_, rfl, ?_⟩) | (go_at_call 16; (with_reducible refine (holtlaw0_errors2.calls  true _ A3.out).mono ?_); rintro e w' ⟨rfl, ⟨nd, rfl⟩⟩) | (go_at_call 17; (with_reducible refine (holtlaw0_errors3.calls  true _ A5.out).mono ?_); rintro e w' ⟨rfl, ⟨nd, rfl⟩⟩) | (go_at_call 18; (with_reducible refine (holtlaw0_errors4.calls  true _ A7.out).mono ?_); rintro e w' ⟨rfl, ⟨nd, rfl⟩⟩) | (go_at_call 19; (with_reducible refine (holtlaw0_errors5.calls  true _ A9.out).mono ?_); rintro e w' ⟨rfl, ⟨nd, rfl⟩⟩) | (go_at_call 20; (with_reducible refine (holtlaw0_errors6.calls  true _ A11.out).mono ?_); rintro e w' ⟨rfl, ⟨nd, rfl⟩⟩) | (go_at_call 21; (with_reducible refine (holtlaw0_numbers1.calls  false _ A13.out).mono ?_); rintro e w' ⟨rfl, ⟨nd, rfl⟩⟩))
                go_ret
                exact ⟨by first | rfl | (simp; done) | (simp [*]; done), by repeat (first | exact Drawn0.refl _ | apply Drawn0.step)⟩
            · replace c12 := Bool.eq_false_iff.mpr c12
              subst c12
              have H1 : (some false) = some r := by rw [if_neg (show ¬ (false = true) by decide)] at H; exact H
              clear H
              have H := H1
              clear H1
              obtain rfl := Option.some.inj H
              go_enter Try.func3, Try.ntmps3
              go_wp2_with (first | ((with_reducible refine gate_callee (f := 15) rfl ?_); refine goesL_ (some 1) rfl rfl Try.func15 (by kernel_rfl) rfl #[] rfl (by (try simp only [List.map_toArray, List.map_cons, List.map_nil]); first | done | rfl | (simp only [List.length_drop, List.length_take]; rfl)) ?_; (with_reducible refine (holtlaw0_errors1.calls  true _ A1.out).mono ?_); rintro e w' ⟨rfl, ⟨nd, rfl⟩⟩; refine ⟨_, rfl, ?_⟩) | (go_at_call 16; (with_reducible refine (holtlaw0_errors2.calls  true _ A3.out).mono ?_); rintro e w' ⟨rfl, ⟨nd, rfl⟩⟩) | (go_at_call 17; (with_reducible refine (holtlaw0_errors3.calls  true _ A5.out).mono ?_); rintro e w' ⟨rfl, ⟨nd, rfl⟩⟩) | (go_at_call 18; (with_reducible refine (holtlaw0_errors4.calls  true _ A7.out).mono ?_); rintro e w' ⟨rfl, ⟨nd, rfl⟩⟩) | (go_at_call 19; (with_reducible refine (holtlaw0_errors5.calls  true _ A9.out).mono ?_); rintro e w' ⟨rfl, ⟨nd, rfl⟩⟩) | (go_at_call 20; (with_reducible refine (holtlaw0_errors6.calls  false _ A11.out).mono ?_); rintro e w' ⟨rfl, ⟨nd, rfl⟩⟩))
              go_ret
              exact ⟨by first | rfl | (simp; done) | (simp [*]; done), by repeat (first | exact Drawn0.refl _ | apply Drawn0.step)⟩
          · replace c10 := Bool.eq_false_iff.mpr c10
            subst c10
            have H1 : (some false) = some r := by rw [if_neg (show ¬ (false = true) by decide)] at H; exact H
            clear H
            have H := H1
            clear H1
            obtain rfl := Option.some.inj H
            go_enter Try.func3, Try.ntmps3
            go_wp2_with (first | ((with_reducible refine gate_callee (f := 15) rfl ?_); refine goesL_ (some 1) rfl rfl Try.func15 (by kernel_rfl) rfl #[] rfl (by (try simp only [List.map_toArray, List.map_cons, List.map_nil]); first | done | rfl | (simp only [List.length_drop, List.length_take]; rfl)) ?_; (with_reducible refine (holtlaw0_errors1.calls  true _ A1.out).mono ?_); rintro e w' ⟨rfl, ⟨nd, rfl⟩⟩; refine ⟨_, rfl, ?_⟩) | (go_at_call 16; (with_reducible refine (holtlaw0_errors2.calls  true _ A3.out).mono ?_); rintro e w' ⟨rfl, ⟨nd, rfl⟩⟩) | (go_at_call 17; (with_reducible refine (holtlaw0_errors3.calls  true _ A5.out).mono ?_); rintro e w' ⟨rfl, ⟨nd, rfl⟩⟩) | (go_at_call 18; (with_reducible refine (holtlaw0_errors4.calls  true _ A7.out).mono ?_); rintro e w' ⟨rfl, ⟨nd, rfl⟩⟩) | (go_at_call 19; (with_reducible refine (holtlaw0_errors5.calls  false _ A9.out).mono ?_); rintro e w' ⟨rfl, ⟨nd, rfl⟩⟩))
            go_ret
            exact ⟨by first | rfl | (simp; done) | (simp [*]; done), by repeat (first | exact Drawn0.refl _ | apply Drawn0.step)⟩
        · replace c8 := Bool.eq_false_iff.mpr c8
          subst c8
          have H1 : (some false) = some r := by rw [if_neg (show ¬ (false = true) by decide)] at H; exact H
          clear H
          have H := H1
          clear H1
          obtain rfl := Option.some.inj H
          go_enter Try.func3, Try.ntmps3
          go_wp2_with (first | ((with_reducible refine gate_callee (f := 15) rfl ?_); refine goesL_ (some 1) rfl rfl Try.func15 (by kernel_rfl) rfl #[] rfl (by (try simp only [List.map_toArray, List.map_cons, List.map_nil]); first | done | rfl | (simp only [List.length_drop, List.length_take]; rfl)) ?_; (with_reducible refine (holtlaw0_errors1.calls  true _ A1.out).mono ?_); rintro e w' ⟨rfl, ⟨nd, rfl⟩⟩; refine ⟨_, rfl, ?_⟩) | (go_at_call 16; (with_reducible refine (holtlaw0_errors2.calls  true _ A3.out).mono ?_); rintro e w' ⟨rfl, ⟨nd, rfl⟩⟩) | (go_at_call 17; (with_reducible refine (holtlaw0_errors3.calls  true _ A5.out).mono ?_); rintro e w' ⟨rfl, ⟨nd, rfl⟩⟩) | (go_at_call 18; (with_reducible refine (holtlaw0_errors4.calls  false _ A7.out).mono ?_); rintro e w' ⟨rfl, ⟨nd, rfl⟩⟩))
          go_ret
          exact ⟨by first | rfl | (simp; done) | (simp [*]; done), by repeat (first | exact Drawn0.refl _ | apply Drawn0.step)⟩
      · replace c6 := Bool.eq_false_iff.mpr c6
        subst c6
        have H1 : (some false) = some r := by rw [if_neg (show ¬ (false = true) by decide)] at H; exact H
        clear H
        have H := H1
        clear H1
        obtain rfl := Option.some.inj H
        go_enter Try.func3, Try.ntmps3
        go_wp2_with (first | ((with_reducible refine gate_callee (f := 15) rfl ?_); refine goesL_ (some 1) rfl rfl Try.func15 (by kernel_rfl) rfl #[] rfl (by (try simp only [List.map_toArray, List.map_cons, List.map_nil]); first | done | rfl | (simp only [List.length_drop, List.length_take]; rfl)) ?_; (with_reducible refine (holtlaw0_errors1.calls  true _ A1.out).mono ?_); rintro e w' ⟨rfl, ⟨nd, rfl⟩⟩; refine ⟨_, rfl, ?_⟩) | (go_at_call 16; (with_reducible refine (holtlaw0_errors2.calls  true _ A3.out).mono ?_); rintro e w' ⟨rfl, ⟨nd, rfl⟩⟩) | (go_at_call 17; (with_reducible refine (holtlaw0_errors3.calls  false _ A5.out).mono ?_); rintro e w' ⟨rfl, ⟨nd, rfl⟩⟩))
        go_ret
        exact ⟨by first | rfl | (simp; done) | (simp [*]; done), by repeat (first | exact Drawn0.refl _ | apply Drawn0.step)⟩
    · replace c4 := Bool.eq_false_iff.mpr c4
      subst c4
      have H1 : (some false) = some r := by rw [if_neg (show ¬ (false = true) by decide)] at H; exact H
      clear H
      have H := H1
      clear H1
      obtain rfl := Option.some.inj H
      go_enter Try.func3, Try.ntmps3
      go_wp2_with (first | ((with_reducible refine gate_callee (f := 15) rfl ?_); refine goesL_ (some 1) rfl rfl Try.func15 (by kernel_rfl) rfl #[] rfl (by (try simp only [List.map_toArray, List.map_cons, List.map_nil]); first | done | rfl | (simp only [List.length_drop, List.length_take]; rfl)) ?_; (with_reducible refine (holtlaw0_errors1.calls  true _ A1.out).mono ?_); rintro e w' ⟨rfl, ⟨nd, rfl⟩⟩; refine ⟨_, rfl, ?_⟩) | (go_at_call 16; (with_reducible refine (holtlaw0_errors2.calls  false _ A3.out).mono ?_); rintro e w' ⟨rfl, ⟨nd, rfl⟩⟩))
      go_ret
      exact ⟨by first | rfl | (simp; done) | (simp [*]; done), by repeat (first | exact Drawn0.refl _ | apply Drawn0.step)⟩
  · replace c2 := Bool.eq_false_iff.mpr c2
    subst c2
    have H1 : (some false) = some r := by rw [if_neg (show ¬ (false = true) by decide)] at H; exact H
    clear H
    have H := H1
    clear H1
    obtain rfl := Option.some.inj H
    go_enter Try.func3, Try.ntmps3
    go_wp2_with (first | ((with_reducible refine gate_callee (f := 15) rfl ?_); refine goesL_ (some 1) rfl rfl Try.func15 (by kernel_rfl) rfl #[] rfl (by (try simp only [List.map_toArray, List.map_cons, List.map_nil]); first | done | rfl | (simp only [List.length_drop, List.length_take]; rfl)) ?_; (with_reducible refine (holtlaw0_errors1.calls  false _ A1.out).mono ?_); rintro e w' ⟨rfl, ⟨nd, rfl⟩⟩; refine ⟨_, rfl, ?_⟩))
    go_ret
    exact ⟨by first | rfl | (simp; done) | (simp [*]; done), by repeat (first | exact Drawn0.refl _ | apply Drawn0.step)⟩

/-- THE ONE PURE STATEMENT of holtlaw0_HoltNames: yours. -/
def holtlaw0_HoltNames.Pure : Prop := holtlaw0_HoltNames.f  = some true
theorem holtlaw0_HoltNames.walk (P : holtlaw0_HoltNames.Pure)  (w : World)  :
    Calls Try.prog 3 #[] w fun e w' => e = .returned (.bool true) ∧ Below w.heap.size w w' := by
  have h := P  
  refine (holtlaw0_HoltNames.calls  true w h).mono ?_
  rintro e w' ⟨rfl, hd⟩
  exact ⟨rfl, hd.below⟩

end Go.Proofs.Ytkcnmlggaggjlaa.Hn
